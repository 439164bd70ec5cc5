import Derived.Test.YtldkdabcdbgpbaaGreatDoorPu
import Derived.Lib.Bytealg
import Derived.Lib.Replace
import Derived.Lib.SlTrimSet
import Derived.Test.YtldkdabcdbgpbaaGreatDoorPr
import Derived.Lib.SlicesCompact
import Derived.Test.YtldkdabcdbgpbaaGreatDoorPj
import Derived.Shelf.GgClosure.StringsIndexFunc
namespace Go.Proofs.YtldkdabcdbgpbaaGreatDoor.M
open Go Go.Pu
set_option linter.unusedVariables false
set_option linter.unusedSimpArgs false
structure know_Posting where
 id_ : Int
 title : (List Int)
 body : (List Int)
structure know_Term where
 word : ByteArray
 list_ : (List know_Posting)
structure know_Index where
 ids : (List Int)
 sizes : (List Int)
 terms : (List know_Term)
structure know_Entry where
 id_ : Int
 title : ByteArray
 body : ByteArray
def know_within (n : Int) (low : Int) (high : Int) : Bool :=
 ((decide (low ≤ n)) && (decide (n ≤ high)))
def know_digit (c : Int) : Bool :=
 ((decide ((48 : Int) ≤ c)) && (decide (c ≤ 57)))
def know_letter (c : Int) : Bool :=
 (((decide ((97 : Int) ≤ c)) && (decide (c ≤ 122))) || ((decide ((65 : Int) ≤ c)) && (decide (c ≤ 90))))
def know_inWord (c : Int) : Bool :=
 (((know_letter c) || (know_digit c)) || (decide ((128 : Int) ≤ c)))
def know_lower (s : ByteArray) : Option ByteArray :=
 Option.bind (bytesL s) fun x1 =>
 Option.bind (rangeB (fun k10 s18 => Option.bind (Option.bind (idx s18 (k10 : Int)) fun x43 => Option.bind (if ((decide ((65 : Int) ≤ (x43.toNat : Int))) && (decide ((x43.toNat : Int) ≤ 90))) = true then Option.bind (setI s18 (k10 : Int) (toU8 (((toU8 ((x43.toNat : Int) + 97)).toNat : Int) - 65))) fun x65 => some x65 else some s18) fun s51 => some s51) fun s34 => some (.nx s34)) x1.length 0 x1) fun o7 => o7.andThen (fun y => some y) fun s8 =>
 some (⟨s8.toArray⟩ : ByteArray)
noncomputable def know_Words (s : ByteArray) : Option (List ByteArray) :=
 Option.bind (whileB (fun s12 => if (decide (s12.2 < (s.size : Int))) = true then Option.bind (whileB (fun s33 => Option.bind (if (decide (s33 < (s.size : Int))) = true then (Option.bind (idxS s s33) fun x44 => some (know_inWord (x44.toNat : Int))) else (some false)) fun s43 => if s43 = true then some (.nx (w64 (s33 + 1))) else some (.bk s33)) s12.2) fun o26 => o26.andThen (fun y => some (.rt y)) fun s27 => Option.bind (if ((decide (s12.2 < s27)) && (decide ((w64 (s27 - s12.2)) ≤ 30))) = true then Option.bind (sliceS s (some s12.2) (some s27)) fun x62 => Option.bind (know_lower x62) fun x63 => Option.bind (appendL 8796093022208 s12.1 ([x63] : List ByteArray)) fun x73 => some x73 else some s12.1) fun s52 => some (.nx (s52, w64 (s27 + 1))) else some (.bk (s12.1, s12.2))) (([] : (List ByteArray)), 0)) fun o1 => o1.andThen (fun y => some y) fun s2 =>
 some s2.1
def cmp_isNaN_int (x : Int) : Bool :=
 x != x
def cmp_Less_int (x : Int) (y : Int) : Bool :=
 (((cmp_isNaN_int x) && (!(cmp_isNaN_int y))) || (decide (x < y)))
def slices_isNaN_int (x : Int) : Bool :=
 x != x
noncomputable def slices_BinarySearch_Lint_int (x : (List Int)) (target : Int) : Option (Int × Bool) :=
 Option.bind (whileB (fun s10 => if (decide (s10.1 < s10.2)) = true then Option.bind (Option.bind (shr .u64 (IntKind.wrap .u64 (w64 (s10.1 + s10.2))) 1) fun x26 => Option.bind (idx x (IntKind.wrap .i64 x26)) fun x27 => Option.bind (if (cmp_Less_int x27 target) = true then some (w64 ((IntKind.wrap .i64 x26) + 1), s10.2) else some (s10.1, IntKind.wrap .i64 x26)) fun s32 => some (s32.1, s32.2)) fun s21 => some (.nx (s21.1, s21.2)) else some (.bk (s10.1, s10.2))) (0, (x.length : Int))) fun o3 => o3.andThen (fun y => some y) fun s4 =>
 Option.bind (if (decide (s4.1 < (x.length : Int))) = true then (Option.bind (idx x s4.1) fun x46 => Option.bind (if (x46 == target) = true then (some true) else (some ((slices_isNaN_int x46) && (slices_isNaN_int target)))) fun s51 => some s51) else (some false)) fun s45 =>
 some (s4.1, s45)
def know_checkPositions (l : (List Int)) (size : Int) : Option Int :=
 Option.bind (rangeB (fun k6 _ => Option.bind (idx l (k6 : Int)) fun x21 => if (!(know_within x21 0 (w64 (size - 1)))) = true then some (.rt 2) else some (.nx ())) l.length 0 ()) fun o3 => o3.andThen (fun y => some y) fun s4 =>
 Option.bind (rangeB (fun k32 _ => Option.bind (idx l (k32 : Int)) fun x47 => Option.bind (if (decide ((0 : Int) < (k32 : Int))) = true then (Option.bind (idx l (w64 ((k32 : Int) - 1))) fun x53 => some (decide (x47 ≤ x53))) else (some false)) fun s52 => if s52 = true then some (.rt 5) else some (.nx ())) l.length 0 ()) fun o29 => o29.andThen (fun y => some y) fun s30 =>
 some 0
def cmp_Or_api_Errno (vals : (List Int)) : Option Int :=
 Option.bind (rangeB (fun k6 _ => Option.bind (idx vals (k6 : Int)) fun x21 => if (x21 != 0) = true then some (.rt x21) else some (.nx ())) vals.length 0 ()) fun o3 => o3.andThen (fun y => some y) fun s4 =>
 some 0
noncomputable def know_Index_checkTerm (x : know_Index) (t : know_Term) : Option Int :=
 Option.bind (rangeB (fun k29 s35 => Option.bind (idx t.list_ (k29 : Int)) fun x48 => Option.bind (slices_BinarySearch_Lint_int x.ids x48.id_) fun x76 => if (!x76.2) = true then some (.rt 7) else if (decide (x48.id_ ≤ s35)) = true then some (.rt 5) else if ((w64 ((x48.title.length : Int) + (x48.body.length : Int))) == 0) = true then some (.rt 1) else Option.bind (idx x.sizes x76.1) fun x98 => Option.bind (know_checkPositions x48.title x98) fun x102 => Option.bind (know_checkPositions x48.body x98) fun x114 => Option.bind (cmp_Or_api_Errno ([x102, x114] : List Int)) fun x123 => if (x123 != 0) = true then some (.rt x123) else some (.nx x48.id_)) t.list_.length 0 0) fun o26 => o26.andThen (fun y => some y) fun s27 =>
 some 0
noncomputable def know_CheckIndex (x : know_Index) : Option Int :=
 if (decide ((200 : Int) < (x.ids.length : Int))) = true then
  some 4
 else
  if ((x.sizes.length : Int) != (x.ids.length : Int)) = true then
   some 1
  else
   Option.bind (rangeB (fun k35 _ => Option.bind (idx x.ids (k35 : Int)) fun x50 => if (!(know_within x50 1 3000000)) = true then some (.rt 2) else Option.bind (if (decide ((0 : Int) < (k35 : Int))) = true then (Option.bind (idx x.ids (w64 ((k35 : Int) - 1))) fun x61 => some (decide (x50 ≤ x61))) else (some false)) fun s56 => if s56 = true then some (.rt 5) else Option.bind (idx x.sizes (k35 : Int)) fun x70 => if (!(know_within x70 0 20000)) = true then some (.rt 2) else some (.nx ())) x.ids.length 0 ()) fun o32 => o32.andThen (fun y => some y) fun s33 =>
   Option.bind (rangeB (fun k85 _ => Option.bind (idx x.terms (k85 : Int)) fun x104 => Option.bind (know_Words x104.word) fun x123 => Option.bind (if ((x123.length : Int) != 1) = true then (some true) else (Option.bind (idx x123 0) fun x133 => some (!(strEq x133 x104.word)))) fun s132 => if (s132 || ((x104.list_.length : Int) == 0)) = true then some (.rt 1) else Option.bind (if (decide ((0 : Int) < (k85 : Int))) = true then (Option.bind (idx x.terms (w64 ((k85 : Int) - 1))) fun x156 => some (strLt x104.word x156.word || strEq x104.word x156.word)) else (some false)) fun s150 => if s150 = true then some (.rt 5) else Option.bind (know_Index_checkTerm x x104) fun x175 => if (x175 != 0) = true then some (.rt x175) else some (.nx ())) x.terms.length 0 ()) fun o82 => o82.andThen (fun y => some y) fun s83 =>
   some 0
noncomputable def know_plain (s : ByteArray) (feeds : Bool) : Option Bool :=
 Option.bind (whileB (fun s8 => if (decide (s8 < (s.size : Int))) = true then Option.bind (idxS s s8) fun x18 => Option.bind (if (decide ((x18.toNat : Int) < 32)) = true then (some true) else (some ((x18.toNat : Int) == 127))) fun s20 => Option.bind (if s20 = true then (some (((x18.toNat : Int) != 10) || (!feeds))) else (some false)) fun s22 => if s22 = true then some (.rt false) else some (.nx (w64 (s8 + 1))) else some (.bk s8)) 0) fun o1 => o1.andThen (fun y => some y) fun s2 =>
 some true
noncomputable def know_checkText (title : ByteArray) (body : ByteArray) : Option Int :=
 if ((decide ((200 : Int) < (title.size : Int))) || (decide ((20000 : Int) < (body.size : Int)))) = true then
  some 4
 else
  Option.bind (know_plain title false) fun x4 =>
  Option.bind (if (!x4) = true then (some true) else (Option.bind (know_plain body true) fun x7 => some (!x7))) fun s6 =>
  if s6 = true then
   some 9
  else
   some 0
noncomputable def know_checkEntry (v : know_Entry) (before : Int) : Option Int :=
 if (!(know_within v.id_ 1 3000000)) = true then
  some 2
 else
  if (decide (v.id_ ≤ before)) = true then
   some 5
  else
   Option.bind (know_checkText v.title v.body) fun x13 =>
   some x13
def slices_Clone_Lint_int (s : (List Int)) : Option (List Int) :=
 Option.bind (appendL 17592186044416 ([] : List Int) s) fun x8 =>
 some x8
def deleteIntsL (l : List Int) (i j : Int) : Option (List Int) := if 0 ≤ i ∧ i ≤ j ∧ j ≤ (l.length : Int) ∧ 1 ≤ l.length then some (l.take i.toNat ++ l.drop j.toNat) else none
noncomputable def know_Index_without (x : know_Index) (id_ : Int) : Option know_Index :=
 Option.bind (slices_Clone_Lint_int x.ids) fun x396 =>
 Option.bind (slices_Clone_Lint_int x.sizes) fun x762 =>
 Option.bind (slices_BinarySearch_Lint_int x396 id_) fun x791 =>
 Option.bind (if x791.2 = true then Option.bind (deleteIntsL x396 x791.1 (w64 (x791.1 + 1))) fun x807 => Option.bind (deleteIntsL x762 x791.1 (w64 (x791.1 + 1))) fun x818 => some (⟨x807, x818, ([] : (List know_Term))⟩ : know_Index) else some (⟨x396, x762, ([] : (List know_Term))⟩ : know_Index)) fun s793 =>
 Option.bind (rangeB (fun k838 s850 => Option.bind (Option.bind (idx x.terms (k838 : Int)) fun x883 => Option.bind (rangeB (R := Empty) (fun k908 s916 => Option.bind (Option.bind (idx x883.list_ (k908 : Int)) fun x941 => Option.bind (if (x941.id_ != id_) = true then Option.bind (slices_Clone_Lint_int x941.title) fun x988 => Option.bind (slices_Clone_Lint_int x941.body) fun x996 => Option.bind (appendL 2513169434916 s916 ([(⟨x941.id_, x988, x996⟩ : know_Posting)] : List know_Posting)) fun x1031 => some x1031 else some s916) fun s966 => some s966) fun s932 => some (.nx s932)) x883.list_.length 0 ([] : (List know_Posting))) fun o905 => o905.andThen (fun y => y.elim) fun s906 => Option.bind (if (decide ((0 : Int) < (s906.length : Int))) = true then Option.bind (appendL 3518437208883 s850.terms ([(⟨x883.word, s906⟩ : know_Term)] : List know_Term)) fun x1075 => some (⟨s850.ids, s850.sizes, x1075⟩ : know_Index) else some s850) fun s1049 => some s1049) fun s870 => some (.nx s870)) x.terms.length 0 s793) fun o835 => o835.andThen (fun y => some y) fun s836 =>
 some s836
def internal_stringslite_HasSuffix (s : ByteArray) (suffix : ByteArray) : Option Bool :=
 Option.bind (if (decide ((suffix.size : Int) ≤ (s.size : Int))) = true then (Option.bind (sliceS s (some (w64 ((s.size : Int) - (suffix.size : Int)))) none) fun x3 => some (strEq x3 suffix)) else (some false)) fun s2 =>
 some s2
def strings_HasSuffix (s : ByteArray) (suffix : ByteArray) : Option Bool :=
 Option.bind (internal_stringslite_HasSuffix s suffix) fun x1 =>
 some x1
noncomputable def know_Stem (word : ByteArray) : Option ByteArray :=
 Option.bind (whileB (fun s8 => if (decide (s8 < (word.size : Int))) = true then Option.bind (idxS word s8) fun x18 => Option.bind (if (decide ((x18.toNat : Int) < 97)) = true then (some true) else (some (decide ((122 : Int) < (x18.toNat : Int))))) fun s20 => if s20 = true then some (.rt word) else some (.nx (w64 (s8 + 1))) else some (.bk s8)) 0) fun o1 => o1.andThen (fun y => some y) fun s2 =>
 if (decide ((word.size : Int) < 4)) = true then
  some word
 else
  Option.bind (strings_HasSuffix word (⟨#[105, 101, 115]⟩ : ByteArray)) fun x26 =>
  if x26 = true then
   Option.bind (sliceS word none (some (w64 ((word.size : Int) - 3)))) fun x28 =>
   Option.bind (catS x28 (⟨#[121]⟩ : ByteArray)) fun x29 =>
   some x29
  else
   Option.bind (strings_HasSuffix word (⟨#[115, 115, 101, 115]⟩ : ByteArray)) fun x30 =>
   if x30 = true then
    Option.bind (sliceS word none (some (w64 ((word.size : Int) - 2)))) fun x32 =>
    some x32
   else
    Option.bind (strings_HasSuffix word (⟨#[115, 115]⟩ : ByteArray)) fun x33 =>
    if x33 = true then
     some word
    else
     Option.bind (strings_HasSuffix word (⟨#[115]⟩ : ByteArray)) fun x35 =>
     if x35 = true then
      Option.bind (sliceS word none (some (w64 ((word.size : Int) - 1)))) fun x37 =>
      some x37
     else
      Option.bind (strings_HasSuffix word (⟨#[105, 110, 103]⟩ : ByteArray)) fun x38 =>
      if (x38 && (decide ((6 : Int) ≤ (word.size : Int)))) = true then
       Option.bind (sliceS word none (some (w64 ((word.size : Int) - 3)))) fun x42 =>
       some x42
      else
       Option.bind (strings_HasSuffix word (⟨#[101, 100]⟩ : ByteArray)) fun x43 =>
       if (x43 && (decide ((5 : Int) ≤ (word.size : Int)))) = true then
        Option.bind (sliceS word none (some (w64 ((word.size : Int) - 2)))) fun x47 =>
        some x47
       else
        some word
def sortStrsL (l : List ByteArray) : Option (List ByteArray) := if l.length < 4611686018427387904 then some (strsOf ((bytesOf l).mergeSort fun x y => decide (x ≤ y))) else none
noncomputable def idxPut (found : List (ByteArray × know_Posting)) (id : Int) (title : Bool) (s : ByteArray) (i : Int) : Option (List (ByteArray × know_Posting)) :=
 if title = true then Option.bind (appendL 17592186044416 ((mapGet found s).getD ⟨id, [], []⟩).title [i]) fun l => some (mapPut found s ⟨((mapGet found s).getD ⟨id, [], []⟩).id_, l, ((mapGet found s).getD ⟨id, [], []⟩).body⟩)
 else Option.bind (appendL 17592186044416 ((mapGet found s).getD ⟨id, [], []⟩).body [i]) fun l => some (mapPut found s ⟨((mapGet found s).getD ⟨id, [], []⟩).id_, ((mapGet found s).getD ⟨id, [], []⟩).title, l⟩)
noncomputable def idxNote (id : Int) (title : Bool) (l : List ByteArray) (k : Nat) (s : List (ByteArray × know_Posting) × List ByteArray) : Option (Ctl (List (ByteArray × know_Posting) × List ByteArray) Empty) :=
 Option.bind (idx l (k : Int)) fun w => Option.bind (know_Stem w) fun t => Option.bind (if (mapGet s.1 t).isSome = true then some s.2 else appendL 8796093022208 s.2 [t]) fun q => Option.bind (idxPut s.1 id title t (k : Int)) fun m => some (.nx (m, q))
noncomputable def know_postings_note (id : Int) (text : ByteArray) (title : Bool) (st : List (ByteArray × know_Posting) × List ByteArray) : Option (Int × List (ByteArray × know_Posting) × List ByteArray) :=
 Option.bind (know_Words text) fun l => Option.bind (rangeB (idxNote id title l) l.length 0 st) fun o => o.andThen (fun y => y.elim) fun s => some ((l.length : Int), s)
noncomputable def know_postings (v : know_Entry) : Option (List know_Term × Int) :=
 Option.bind (know_postings_note v.id_ v.title true ([], [])) fun a =>
 Option.bind (know_postings_note v.id_ v.body false a.2) fun b =>
 Option.bind (sortStrsL b.2.2) fun q =>
 Option.bind (rangeB (R := Empty) (fun k s => Option.bind (idx q (k : Int)) fun t => Option.bind (mapGet b.2.1 t) fun p => Option.bind (appendL 3518437208883 s [(⟨t, [p]⟩ : know_Term)]) fun x => some (.nx x)) q.length 0 ([] : List know_Term)) fun o => o.andThen (fun y => y.elim) fun l => some (l, w64 (a.1 + b.1))
noncomputable def slices_BinarySearchFunc_Lknow_Term_know_Term_know_Term (x : (List know_Term)) (target : know_Term) (cmp : know_Term → know_Term → Option Int) : Option (Int × Bool) :=
 Option.bind (whileB (fun s20 => if (decide (s20.1 < s20.2)) = true then Option.bind (Option.bind (shr .u64 (IntKind.wrap .u64 (w64 (s20.1 + s20.2))) 1) fun x40 => Option.bind (idx x (IntKind.wrap .i64 x40)) fun x41 => Option.bind (cmp x41 target) fun x51 => Option.bind (if (decide (x51 < 0)) = true then some (w64 ((IntKind.wrap .i64 x40) + 1), s20.2) else some (s20.1, IntKind.wrap .i64 x40)) fun s56 => some (s56.1, s56.2)) fun s33 => some (.nx (s33.1, s33.2)) else some (.bk (s20.1, s20.2))) (0, (x.length : Int))) fun o11 => o11.andThen (fun y => some y) fun s12 =>
 Option.bind (if (decide (s12.1 < (x.length : Int))) = true then (Option.bind (idx x s12.1) fun x70 => Option.bind (cmp x70 target) fun x80 => some (x80 == 0)) else (some false)) fun s69 =>
 some (s12.1, s69)
def strings_Compare (a : ByteArray) (b : ByteArray) : Option Int := some (Go.Lib.compareBytes a.data.toList b.data.toList)
def know_byWord (a_ : know_Term) (b : know_Term) : Option Int :=
 Option.bind (strings_Compare a_.word b.word) fun x19 =>
 some x19
noncomputable def know_merged_know_Posting (a_ : (List know_Posting)) (b : (List know_Posting)) (compare : know_Posting → know_Posting → Option Int) : Option (List know_Posting) :=
 Option.bind (whileB (fun s20 => if ((decide ((0 : Int) < (s20.1.length : Int))) && (decide ((0 : Int) < (s20.2.1.length : Int)))) = true then Option.bind (Option.bind (idx s20.1 0) fun x54 => Option.bind (idx s20.2.1 0) fun x63 => Option.bind (compare x54 x63) fun x72 => if (decide (x72 < 0)) = true then Option.bind (appendL 2513169434916 s20.2.2 ([x54] : List know_Posting)) fun x96 => Option.bind (sliceL s20.1 (some 1) none) fun x102 => some (x102, s20.2.1, x96) else Option.bind (if (x72 == 0) = true then Option.bind (sliceL s20.1 (some 1) none) fun x115 => some x115 else some s20.1) fun s107 => Option.bind (appendL 2513169434916 s20.2.2 ([x63] : List know_Posting)) fun x139 => Option.bind (sliceL s20.2.1 (some 1) none) fun x145 => some (s107, x145, x139)) fun s41 => some (.nx (s41.1, s41.2.1, s41.2.2)) else some (.bk (s20.1, s20.2.1, s20.2.2))) (a_, b, ([] : (List know_Posting)))) fun o5 => o5.andThen (fun y => some y) fun s6 =>
 Option.bind (appendL 2513169434916 s6.2.2 s6.1) fun x152 =>
 Option.bind (appendL 2513169434916 x152 s6.2.1) fun x158 =>
 some x158
def cmp_Compare_int (x : Int) (y : Int) : Int :=
 if (cmp_isNaN_int x) = true then
  if (cmp_isNaN_int y) = true then
   0
  else
   (-1)
 else
  if (cmp_isNaN_int y) = true then
   1
  else
   if (decide (x < y)) = true then
    (-1)
   else
    if (decide (y < x)) = true then
     1
    else
     0
def know_byId (a_ : know_Posting) (b : know_Posting) : Option Int :=
 some (cmp_Compare_int a_.id_ b.id_)
def slices_Insert_Lint_int {α : Type} (l : List α) (k : Int) (vs : List α) : Option (List α) :=
 if 0 ≤ k ∧ k ≤ (l.length : Int) ∧ vs ≠ [] ∧ l.length + vs.length ≤ 17592186044416 then some (l.take k.toNat ++ vs ++ l.drop k.toNat) else none
noncomputable def know_merged_know_Term (a_ : (List know_Term)) (b : (List know_Term)) (compare : know_Term → know_Term → Option Int) : Option (List know_Term) :=
 Option.bind (whileB (fun s20 => if ((decide ((0 : Int) < (s20.1.length : Int))) && (decide ((0 : Int) < (s20.2.1.length : Int)))) = true then Option.bind (Option.bind (idx s20.1 0) fun x54 => Option.bind (idx s20.2.1 0) fun x61 => Option.bind (compare x54 x61) fun x68 => if (decide (x68 < 0)) = true then Option.bind (appendL 3518437208883 s20.2.2 ([x54] : List know_Term)) fun x87 => Option.bind (sliceL s20.1 (some 1) none) fun x93 => some (x93, s20.2.1, x87) else Option.bind (if (x68 == 0) = true then Option.bind (sliceL s20.1 (some 1) none) fun x106 => some x106 else some s20.1) fun s98 => Option.bind (appendL 3518437208883 s20.2.2 ([x61] : List know_Term)) fun x125 => Option.bind (sliceL s20.2.1 (some 1) none) fun x131 => some (s98, x131, x125)) fun s41 => some (.nx (s41.1, s41.2.1, s41.2.2)) else some (.bk (s20.1, s20.2.1, s20.2.2))) (a_, b, ([] : (List know_Term)))) fun o5 => o5.andThen (fun y => some y) fun s6 =>
 Option.bind (appendL 3518437208883 s6.2.2 s6.1) fun x138 =>
 Option.bind (appendL 3518437208883 x138 s6.2.1) fun x144 =>
 some x144
noncomputable def know_Index_with (x : know_Index) (v : know_Entry) : Option know_Index :=
 Option.bind (know_postings v) fun x25 =>
 Option.bind (rangeB (fun k35 s43 => Option.bind (Option.bind (idx s43 (k35 : Int)) fun x68 => Option.bind (slices_BinarySearchFunc_Lknow_Term_know_Term_know_Term x.terms x68 (fun y90 y91 => know_byWord y90 y91)) fun x92 => Option.bind (if x92.2 = true then Option.bind (idx x.terms x92.1) fun x124 => Option.bind (know_merged_know_Posting x124.list_ x68.list_ (fun y136 y137 => know_byId y136 y137)) fun x138 => Option.bind (setI s43 (k35 : Int) ({ (x68 : know_Term) with list_ := x138 })) fun x176 => some x176 else some s43) fun s111 => some s111) fun s59 => some (.nx s59)) x25.1.length 0 x25.1) fun o32 => o32.andThen (fun y => some y) fun s33 =>
 Option.bind (slices_BinarySearch_Lint_int x.ids v.id_) fun x190 =>
 Option.bind (slices_Clone_Lint_int x.ids) fun x310 =>
 Option.bind (slices_Insert_Lint_int x310 x190.1 ([v.id_] : List Int)) fun x325 =>
 Option.bind (slices_Clone_Lint_int x.sizes) fun x342 =>
 Option.bind (slices_Insert_Lint_int x342 x190.1 ([x25.2] : List Int)) fun x357 =>
 Option.bind (know_merged_know_Term x.terms s33 (fun y379 y380 => know_byWord y379 y380)) fun x381 =>
 some (⟨x325, x357, x381⟩ : know_Index)
noncomputable def know_Put (x : know_Index) (v : know_Entry) : Option (know_Index × Int) :=
 Option.bind (know_CheckIndex x) fun x32 =>
 Option.bind (know_checkEntry v 0) fun x34 =>
 Option.bind (cmp_Or_api_Errno ([x32, x34] : List Int)) fun x43 =>
 if (x43 != 0) = true then
  some ((⟨([] : (List Int)), ([] : (List Int)), ([] : (List know_Term))⟩ : know_Index), x43)
 else
  Option.bind (know_Index_without x v.id_) fun x129 =>
  Option.bind (know_Index_with x129 v) fun x198 =>
  if (decide ((200 : Int) < (x198.ids.length : Int))) = true then
   some ((⟨([] : (List Int)), ([] : (List Int)), ([] : (List know_Term))⟩ : know_Index), 4)
  else
   some (x198, 0)
def portref2_isWordByte (b : Int) : Bool :=
 (((((decide ((97 : Int) ≤ b)) && (decide (b ≤ 122))) || ((decide ((65 : Int) ≤ b)) && (decide (b ≤ 90)))) || ((decide ((48 : Int) ≤ b)) && (decide (b ≤ 57)))) || (decide ((128 : Int) ≤ b)))
def portref2_lower (s : ByteArray) : Option ByteArray :=
 Option.bind (bytesL s) fun x1 =>
 Option.bind (rangeB (fun k10 s18 => Option.bind (Option.bind (idx s18 (k10 : Int)) fun x43 => Option.bind (if ((decide ((65 : Int) ≤ (x43.toNat : Int))) && (decide ((x43.toNat : Int) ≤ 90))) = true then Option.bind (setI s18 (k10 : Int) (toU8 ((x43.toNat : Int) + 32))) fun x65 => some x65 else some s18) fun s51 => some s51) fun s34 => some (.nx s34)) x1.length 0 x1) fun o7 => o7.andThen (fun y => some y) fun s8 =>
 some (⟨s8.toArray⟩ : ByteArray)
noncomputable def portref2_WordsOf (s : ByteArray) : Option (List ByteArray) :=
 Option.bind (whileB (fun s12 => if (decide (s12.2 < (s.size : Int))) = true then Option.bind (whileB (fun s33 => Option.bind (if (decide (s33 < (s.size : Int))) = true then (Option.bind (idxS s s33) fun x44 => some (portref2_isWordByte (x44.toNat : Int))) else (some false)) fun s43 => if s43 = true then some (.nx (w64 (s33 + 1))) else some (.bk s33)) s12.2) fun o26 => o26.andThen (fun y => some (.rt y)) fun s27 => Option.bind (if ((decide (s12.2 < s27)) && (decide ((w64 (s27 - s12.2)) ≤ 30))) = true then Option.bind (sliceS s (some s12.2) (some s27)) fun x62 => Option.bind (portref2_lower x62) fun x63 => Option.bind (appendL 8796093022208 s12.1 ([x63] : List ByteArray)) fun x73 => some x73 else some s12.1) fun s52 => some (.nx (s52, (if s27 < w64 (s12.2 + 1) then w64 (s12.2 + 1) else s27))) else some (.bk (s12.1, s12.2))) (([] : (List ByteArray)), 0)) fun o1 => o1.andThen (fun y => some y) fun s2 =>
 some s2.1
def slices_Index_Lint_int (s : (List Int)) (v : Int) : Option Int :=
 Option.bind (rangeB (fun k6 _ => Option.bind (idx s (k6 : Int)) fun x21 => if (v == x21) = true then some (.rt (k6 : Int)) else some (.nx ())) s.length 0 ()) fun o3 => o3.andThen (fun y => some y) fun s4 =>
 some (-1)
def portref2_positionsFault (l : (List Int)) (size : Int) : Option Int :=
 Option.bind (rangeB (fun k6 _ => Option.bind (idx l (k6 : Int)) fun x21 => if ((decide (x21 < 0)) || (decide (size ≤ x21))) = true then some (.rt 2) else some (.nx ())) l.length 0 ()) fun o3 => o3.andThen (fun y => some y) fun s4 =>
 Option.bind (rangeB (fun k34 _ => Option.bind (idx l (k34 : Int)) fun x49 => Option.bind (if (decide ((0 : Int) < (k34 : Int))) = true then (Option.bind (idx l (w64 ((k34 : Int) - 1))) fun x55 => some (decide (x49 ≤ x55))) else (some false)) fun s54 => if s54 = true then some (.rt 5) else some (.nx ())) l.length 0 ()) fun o31 => o31.andThen (fun y => some y) fun s32 =>
 some 0
noncomputable def portref2_IndexFault (x : know_Index) : Option Int :=
 if (decide ((200 : Int) < (x.ids.length : Int))) = true then
  some 4
 else
  if ((x.sizes.length : Int) != (x.ids.length : Int)) = true then
   some 1
  else
   Option.bind (rangeB (fun k35 _ => Option.bind (idx x.ids (k35 : Int)) fun x50 => if ((decide (x50 < 1)) || (decide ((3000000 : Int) < x50))) = true then some (.rt 2) else Option.bind (if (decide ((0 : Int) < (k35 : Int))) = true then (Option.bind (idx x.ids (w64 ((k35 : Int) - 1))) fun x63 => some (decide (x50 ≤ x63))) else (some false)) fun s58 => if s58 = true then some (.rt 5) else Option.bind (idx x.sizes (k35 : Int)) fun x72 => Option.bind (if (decide (x72 < 0)) = true then (some true) else (some (decide ((20000 : Int) < x72)))) fun s77 => if s77 = true then some (.rt 2) else some (.nx ())) x.ids.length 0 ()) fun o32 => o32.andThen (fun y => some y) fun s33 =>
   Option.bind (rangeB (fun k96 _ => Option.bind (α := Lp _ _) (Option.bind (idx x.terms (k96 : Int)) fun x123 => Option.bind (portref2_WordsOf x123.word) fun x142 => Option.bind (if ((x142.length : Int) != 1) = true then (some true) else (Option.bind (idx x142 0) fun x152 => some (!(strEq x152 x123.word)))) fun s151 => if (s151 || ((x123.list_.length : Int) == 0)) = true then some (.rt 1) else Option.bind (if (decide ((0 : Int) < (k96 : Int))) = true then (Option.bind (idx x.terms (w64 ((k96 : Int) - 1))) fun x175 => some (strLt x123.word x175.word || strEq x123.word x175.word)) else (some false)) fun s169 => if s169 = true then some (.rt 5) else Option.bind (rangeB (fun k191 _ => Option.bind (α := Lp _ _) (Option.bind (idx x123.list_ (k191 : Int)) fun x218 => Option.bind (slices_Index_Lint_int x.ids x218.id_) fun x246 => if (decide (x246 < 0)) = true then some (.rt 7) else Option.bind (if (decide ((0 : Int) < (k191 : Int))) = true then (Option.bind (idx x123.list_ (w64 ((k191 : Int) - 1))) fun x255 => some (decide (x218.id_ ≤ x255.id_))) else (some false)) fun s249 => if s249 = true then some (.rt 5) else if ((w64 ((x218.title.length : Int) + (x218.body.length : Int))) == 0) = true then some (.rt 1) else Option.bind (rangeB (fun k295 _ => Option.bind (idx ([x218.title, x218.body] : List (List Int)) (k295 : Int)) fun x310 => Option.bind (idx x.sizes x246) fun x321 => Option.bind (portref2_positionsFault x310 x321) fun x325 => if (x325 != 0) = true then some (.rt x325) else some (.nx ())) (([x218.title, x218.body] : List (List Int)).length) 0 ()) fun o292 => o292.andThen (fun y => some (.rt y)) fun s293 => some (.fin ())) fun o210 => o210.andThen (fun y => some (.rt y)) fun s211 => some (.nx ())) x123.list_.length 0 ()) fun o188 => o188.andThen (fun y => some (.rt y)) fun s189 => some (.fin ())) fun o115 => o115.andThen (fun y => some (.rt y)) fun s116 => some (.nx ())) x.terms.length 0 ()) fun o93 => o93.andThen (fun y => some y) fun s94 =>
   some 0
def strings_ReplaceAll (s : ByteArray) (old : ByteArray) (new : ByteArray) : Option ByteArray :=
 if s.size < 4294967281 ∧ 1 ≤ old.size ∧ s.size + Go.Lib.countB s old * new.size ≤ 140737488355328 then some ⟨(Go.Lib.replaceAll s.data.toList old.data.toList new.data.toList).toArray⟩ else none
def portref2_lowByte_1 (r_ : Int) : Bool :=
 ((decide (r_ < 32)) || (r_ == 127))
def portref2_lowByte (s : ByteArray) : Option Bool :=
 some (decide (0 ≤ Go.Lib.idxFunc (fun y => portref2_lowByte_1 (y : Int)) true s))
def portref2_entryFault (v : know_Entry) : Option Int :=
 if ((decide ((200 : Int) < (v.title.size : Int))) || (decide ((20000 : Int) < (v.body.size : Int)))) = true then
  some 4
 else
  Option.bind (Option.bind (portref2_lowByte v.title) fun x21 => if x21 = true then (some true) else (Option.bind (strings_ReplaceAll v.body (⟨#[10]⟩ : ByteArray) (⟨#[]⟩ : ByteArray)) fun x28 => Option.bind (portref2_lowByte x28) fun x32 => some x32)) fun s13 =>
  if s13 = true then
   some 9
  else
   some 0
def slices_Clone_Lknow_Posting_know_Posting (s : (List know_Posting)) : Option (List know_Posting) :=
 Option.bind (appendL 2513169434916 ([] : List know_Posting) s) fun x8 =>
 some x8
def slices_IndexFunc_Lknow_Posting_know_Posting (s : (List know_Posting)) (f : know_Posting → Option Bool) : Option Int :=
 Option.bind (rangeB (fun k6 _ => Option.bind (idx s (k6 : Int)) fun x25 => Option.bind (f x25) fun x34 => if x34 = true then some (.rt (k6 : Int)) else some (.nx ())) s.length 0 ()) fun o3 => o3.andThen (fun y => some y) fun s4 =>
 some (-1)
def clearCutL {α : Type} (l : List α) (lo : Int) : Option (List α) := if 0 ≤ lo ∧ lo < (l.length : Int) then some (l.take lo.toNat) else none
noncomputable def slices_DeleteFunc_Lknow_Posting_know_Posting (s : (List know_Posting)) (del : know_Posting → Option Bool) : Option (List know_Posting) :=
 Option.bind (slices_IndexFunc_Lknow_Posting_know_Posting s del) fun x4 =>
 if (x4 == (-1)) = true then
  some s
 else
  Option.bind (whileB (fun s25 => if (decide (s25.2.2 < (s25.1.length : Int))) = true then Option.bind (Option.bind (idx s25.1 s25.2.2) fun x49 => Option.bind (del x49) fun x78 => Option.bind (if (!x78) = true then Option.bind (idx s25.1 s25.2.1) fun x98 => Option.bind (setI s25.1 s25.2.1 x49) fun x103 => some (x103, w64 (s25.2.1 + 1)) else some (s25.1, s25.2.1)) fun s83 => some (s83.1, s83.2)) fun s40 => some (.nx (s40.1, s40.2, w64 (s25.2.2 + 1))) else some (.bk (s25.1, s25.2.1, s25.2.2))) (s, x4, w64 (x4 + 1))) fun o14 => o14.andThen (fun y => some y) fun s15 =>
  Option.bind (clearCutL s15.1 s15.2.1) fun x113 =>
  some x113
def portref2_without_1 (p : know_Posting) (p1_ : Int) : Option Bool :=
 some (p.id_ == p1_)
noncomputable def portref2_without (x : know_Index) (id_ : Int) : Option know_Index :=
 Option.bind (rangeB (fun k37 s49 => Option.bind (Option.bind (idx x.ids (k37 : Int)) fun x82 => Option.bind (if (x82 != id_) = true then Option.bind (idx x.sizes (k37 : Int)) fun x109 => Option.bind (appendL 17592186044416 s49.ids ([x82] : List Int)) fun x187 => Option.bind (appendL 17592186044416 s49.sizes ([x109] : List Int)) fun x199 => some (⟨x187, x199, s49.terms⟩ : know_Index) else some s49) fun s87 => some s87) fun s69 => some (.nx s69)) x.ids.length 0 (⟨([] : (List Int)), ([] : (List Int)), ([] : (List know_Term))⟩ : know_Index)) fun o34 => o34.andThen (fun y => some y) fun s35 =>
 Option.bind (rangeB (fun k231 s243 => Option.bind (Option.bind (idx x.terms (k231 : Int)) fun x276 => Option.bind (slices_Clone_Lknow_Posting_know_Posting x276.list_) fun x298 => Option.bind (slices_DeleteFunc_Lknow_Posting_know_Posting x298 (fun y305 => portref2_without_1 y305 id_)) fun x306 => Option.bind (if (decide ((0 : Int) < (x306.length : Int))) = true then Option.bind (appendL 3518437208883 s243.terms ([(⟨x276.word, x306⟩ : know_Term)] : List know_Term)) fun x352 => some (⟨s243.ids, s243.sizes, x352⟩ : know_Index) else some s243) fun s326 => some s326) fun s263 => some (.nx s263)) x.terms.length 0 s35) fun o228 => o228.andThen (fun y => some y) fun s229 =>
 some s229
def strings_Trim (s : ByteArray) (cutset : ByteArray) : Option ByteArray :=
 if s.size ≤ 9223372036854775807 ∧ cutset.size < 4294967281 ∧ (cutset.data.toList.all fun b => decide (b.toNat < 128)) = true then some ⟨(Go.Lib.trimS s.data.toList cutset.data.toList).toArray⟩ else none
def portref2_StemOf_1 (s : ByteArray) (p1_ : ByteArray) : Option Bool :=
 Option.bind (strings_HasSuffix p1_ s) fun x1 =>
 some x1
def portref2_StemOf (w_ : ByteArray) : Option ByteArray :=
 Option.bind (if (decide ((w_.size : Int) < 4)) = true then (some true) else (Option.bind (strings_Trim w_ (⟨#[97, 98, 99, 100, 101, 102, 103, 104, 105, 106, 107, 108, 109, 110, 111, 112, 113, 114, 115, 116, 117, 118, 119, 120, 121, 122]⟩ : ByteArray)) fun x17 => some (!(strEq x17 (⟨#[]⟩ : ByteArray))))) fun s8 =>
 if s8 = true then
  some w_
 else
  Option.bind (portref2_StemOf_1 (⟨#[105, 101, 115]⟩ : ByteArray) w_) fun x23 =>
  if x23 = true then
   Option.bind (sliceS w_ none (some (w64 ((w_.size : Int) - 3)))) fun x25 =>
   Option.bind (catS x25 (⟨#[121]⟩ : ByteArray)) fun x26 =>
   some x26
  else
   Option.bind (portref2_StemOf_1 (⟨#[115, 115, 101, 115]⟩ : ByteArray) w_) fun x27 =>
   if x27 = true then
    Option.bind (sliceS w_ none (some (w64 ((w_.size : Int) - 2)))) fun x29 =>
    some x29
   else
    Option.bind (portref2_StemOf_1 (⟨#[115, 115]⟩ : ByteArray) w_) fun x30 =>
    if x30 = true then
     some w_
    else
     Option.bind (portref2_StemOf_1 (⟨#[115]⟩ : ByteArray) w_) fun x32 =>
     if x32 = true then
      Option.bind (sliceS w_ none (some (w64 ((w_.size : Int) - 1)))) fun x34 =>
      some x34
     else
      Option.bind (portref2_StemOf_1 (⟨#[105, 110, 103]⟩ : ByteArray) w_) fun x35 =>
      if (x35 && (decide ((6 : Int) ≤ (w_.size : Int)))) = true then
       Option.bind (sliceS w_ none (some (w64 ((w_.size : Int) - 3)))) fun x39 =>
       some x39
      else
       Option.bind (portref2_StemOf_1 (⟨#[101, 100]⟩ : ByteArray) w_) fun x40 =>
       if (x40 && (decide ((5 : Int) ≤ (w_.size : Int)))) = true then
        Option.bind (sliceS w_ none (some (w64 ((w_.size : Int) - 2)))) fun x44 =>
        some x44
       else
        some w_
def portref2_indexOf_2 (a_ : know_Posting) (b : know_Posting) : Option Int :=
 some (cmp_Compare_int a_.id_ b.id_)
noncomputable def idxAtPut (at_ : List (ByteArray × List (Int × know_Posting))) (stem : ByteArray) (id pos : Int) (title : Bool) : Option (List (ByteArray × List (Int × know_Posting))) :=
 if title = true then Option.bind (appendL 17592186044416 ((mapGet ((mapGet at_ stem).getD []) id).getD ⟨id, [], []⟩).title [pos]) fun l => some (mapPut at_ stem (mapPut ((mapGet at_ stem).getD []) id ⟨((mapGet ((mapGet at_ stem).getD []) id).getD ⟨id, [], []⟩).id_, l, ((mapGet ((mapGet at_ stem).getD []) id).getD ⟨id, [], []⟩).body⟩))
 else Option.bind (appendL 17592186044416 ((mapGet ((mapGet at_ stem).getD []) id).getD ⟨id, [], []⟩).body [pos]) fun l => some (mapPut at_ stem (mapPut ((mapGet at_ stem).getD []) id ⟨((mapGet ((mapGet at_ stem).getD []) id).getD ⟨id, [], []⟩).id_, ((mapGet ((mapGet at_ stem).getD []) id).getD ⟨id, [], []⟩).title, l⟩))
noncomputable def idxAtWord (id : Int) (title : Bool) (l : List ByteArray) (k : Nat) (s : List (ByteArray × List (Int × know_Posting))) : Option (Ctl (List (ByteArray × List (Int × know_Posting))) Empty) :=
 Option.bind (idx l (k : Int)) fun w => Option.bind (portref2_StemOf w) fun t => Option.bind (idxAtPut s t id (k : Int) title) fun m => some (.nx m)
noncomputable def idxAtEntry (l : List know_Entry) (k : Nat) (s : List Int × List Int × List (ByteArray × List (Int × know_Posting))) : Option (Ctl (List Int × List Int × List (ByteArray × List (Int × know_Posting))) Empty) :=
 Option.bind (idx l (k : Int)) fun v => Option.bind (portref2_WordsOf v.title) fun a => Option.bind (portref2_WordsOf v.body) fun b =>
 Option.bind (appendL 17592186044416 s.1 [v.id_]) fun ids => Option.bind (appendL 17592186044416 s.2.1 [w64 ((a.length : Int) + (b.length : Int))]) fun sizes =>
 Option.bind (rangeB (idxAtWord v.id_ true a) a.length 0 s.2.2) fun o1 => o1.andThen (fun y => y.elim) fun m1 =>
 Option.bind (rangeB (idxAtWord v.id_ false b) b.length 0 m1) fun o2 => o2.andThen (fun y => y.elim) fun m2 => some (.nx (ids, sizes, m2))
noncomputable def idxTerm (at_ : List (ByteArray × List (Int × know_Posting))) (q : List ByteArray) (k : Nat) (s : List know_Term) : Option (Ctl (List know_Term) Empty) :=
 Option.bind (idx q (k : Int)) fun t => Option.bind (mapGet at_ t) fun m => if (m.length : Int) ≤ 2513169434916 then Option.bind (sortFuncL (fun x y => portref2_indexOf_2 x y) (m.map (·.2))) fun l => Option.bind (appendL 3518437208883 s [(⟨t, l⟩ : know_Term)]) fun x => some (.nx x) else none
noncomputable def portref2_indexOf (l : List know_Entry) : Option know_Index :=
 Option.bind (rangeB (idxAtEntry l) l.length 0 ([], [], [])) fun o => o.andThen (fun y => y.elim) fun s =>
 if (s.2.2.length : Int) ≤ 8796093022208 then
  Option.bind (sortStrsL (s.2.2.map (·.1))) fun q => Option.bind (rangeB (idxTerm s.2.2 q) q.length 0 []) fun o2 => o2.andThen (fun y => y.elim) fun terms => some (⟨s.1, s.2.1, terms⟩ : know_Index)
 else none
def slices_IndexFunc_Lknow_Term_know_Term (s : (List know_Term)) (f : know_Term → Option Bool) : Option Int :=
 Option.bind (rangeB (fun k6 _ => Option.bind (idx s (k6 : Int)) fun x25 => Option.bind (f x25) fun x32 => if x32 = true then some (.rt (k6 : Int)) else some (.nx ())) s.length 0 ()) fun o3 => o3.andThen (fun y => some y) fun s4 =>
 some (-1)
def portref2_PutOf_1 (y : know_Term) (p1_ : know_Term) : Option Bool :=
 some (strEq y.word p1_.word)
def portref2_PutOf_2 (a_ : know_Posting) (b : know_Posting) : Option Int :=
 some (cmp_Compare_int a_.id_ b.id_)
def portref2_PutOf_3 (a_ : know_Term) (b : know_Term) : Option Int :=
 Option.bind (strings_Compare a_.word b.word) fun x19 =>
 some x19
noncomputable def portref2_PutOf (x : know_Index) (v : know_Entry) : Option (know_Index × Int) :=
 Option.bind (portref2_IndexFault x) fun x32 =>
 if (x32 != 0) = true then
  some ((⟨([] : (List Int)), ([] : (List Int)), ([] : (List know_Term))⟩ : know_Index), x32)
 else
  if ((decide (v.id_ < 1)) || (decide ((3000000 : Int) < v.id_))) = true then
   some ((⟨([] : (List Int)), ([] : (List Int)), ([] : (List know_Term))⟩ : know_Index), 2)
  else
   Option.bind (portref2_entryFault v) fun x49 =>
   if (x49 != 0) = true then
    some ((⟨([] : (List Int)), ([] : (List Int)), ([] : (List know_Term))⟩ : know_Index), x49)
   else
    Option.bind (portref2_without x v.id_) fun x70 =>
    Option.bind (portref2_indexOf ([v] : List know_Entry)) fun x86 =>
    if ((x70.ids.length : Int) == 200) = true then
     some ((⟨([] : (List Int)), ([] : (List Int)), ([] : (List know_Term))⟩ : know_Index), 4)
    else
     Option.bind (slices_BinarySearch_Lint_int x70.ids v.id_) fun x139 =>
     Option.bind (idx x86.sizes 0) fun x149 =>
     Option.bind (slices_Insert_Lint_int x70.ids x139.1 ([v.id_] : List Int)) fun x160 =>
     Option.bind (slices_Insert_Lint_int x70.sizes x139.1 ([x149] : List Int)) fun x173 =>
     Option.bind (rangeB (fun k198 s210 => Option.bind (Option.bind (idx x86.terms (k198 : Int)) fun x243 => Option.bind (slices_IndexFunc_Lknow_Term_know_Term s210.terms (fun y264 => portref2_PutOf_1 y264 x243)) fun x265 => if (decide (x265 < 0)) = true then Option.bind (appendL 3518437208883 s210.terms ([x243] : List know_Term)) fun x291 => some (⟨s210.ids, s210.sizes, x291⟩ : know_Index) else Option.bind (idx s210.terms x265) fun x307 => Option.bind (slices_Clone_Lknow_Posting_know_Posting x307.list_) fun x320 => Option.bind (appendL 2513169434916 x320 x243.list_) fun x330 => Option.bind (sortFuncL (fun y340 y341 => portref2_PutOf_2 y340 y341) x330) fun x336 => Option.bind (setI s210.terms x265 ({ (x307 : know_Term) with list_ := x336 })) fun x371 => some (⟨s210.ids, s210.sizes, x371⟩ : know_Index)) fun s230 => some (.nx s230)) x86.terms.length 0 (⟨x160, x173, x70.terms⟩ : know_Index)) fun o195 => o195.andThen (fun y => some y) fun s196 =>
     Option.bind (sortFuncL (fun y386 y387 => portref2_PutOf_3 y386 y387) s196.terms) fun x382 =>
     some ((⟨s196.ids, s196.sizes, x382⟩ : know_Index), 0)
noncomputable def know_Drop (x : know_Index) (id_ : Int) : Option (know_Index × Int) :=
 Option.bind (know_CheckIndex x) fun x26 =>
 if (x26 != 0) = true then
  some ((⟨([] : (List Int)), ([] : (List Int)), ([] : (List know_Term))⟩ : know_Index), x26)
 else
  Option.bind (slices_BinarySearch_Lint_int x.ids id_) fun x38 =>
  if (!x38.2) = true then
   some ((⟨([] : (List Int)), ([] : (List Int)), ([] : (List know_Term))⟩ : know_Index), 7)
  else
   Option.bind (know_Index_without x id_) fun x50 =>
   some (x50, 0)
def slices_Contains_Lint_int (s : (List Int)) (v : Int) : Option Bool :=
 Option.bind (slices_Index_Lint_int s v) fun x3 =>
 some (decide ((0 : Int) ≤ x3))
noncomputable def portref2_DropOf (x : know_Index) (id_ : Int) : Option (know_Index × Int) :=
 Option.bind (portref2_IndexFault x) fun x26 =>
 if (x26 != 0) = true then
  some ((⟨([] : (List Int)), ([] : (List Int)), ([] : (List know_Term))⟩ : know_Index), x26)
 else
  Option.bind (slices_Contains_Lint_int x.ids id_) fun x38 =>
  if (!x38) = true then
   some ((⟨([] : (List Int)), ([] : (List Int)), ([] : (List know_Term))⟩ : know_Index), 7)
  else
   Option.bind (portref2_without x id_) fun x50 =>
   some (x50, 0)
def slices_Equal_Lint_int (s1 : (List Int)) (s2 : (List Int)) : Option Bool :=
 if ((s1.length : Int) != (s2.length : Int)) = true then
  some false
 else
  Option.bind (rangeB (fun k9 _ => Option.bind (idx s1 (k9 : Int)) fun x29 => Option.bind (idx s2 (k9 : Int)) fun x33 => if (x29 != x33) = true then some (.rt false) else some (.nx ())) s1.length 0 ()) fun o6 => o6.andThen (fun y => some y) fun s7 =>
  some true
def slices_EqualFunc_Lknow_Term_Lknow_Term_know_Term_know_Term (s1 : (List know_Term)) (s2 : (List know_Term)) (eq : know_Term → know_Term → Option Bool) : Option Bool :=
 if ((s1.length : Int) != (s2.length : Int)) = true then
  some false
 else
  Option.bind (rangeB (fun k9 _ => Option.bind (idx s1 (k9 : Int)) fun x29 => Option.bind (idx s2 (k9 : Int)) fun x47 => Option.bind (eq x29 x47) fun x71 => if (!x71) = true then some (.rt false) else some (.nx ())) s1.length 0 ()) fun o6 => o6.andThen (fun y => some y) fun s7 =>
  some true
def slices_EqualFunc_Lknow_Posting_Lknow_Posting_know_Posting_know_Posting (s1 : (List know_Posting)) (s2 : (List know_Posting)) (eq : know_Posting → know_Posting → Option Bool) : Option Bool :=
 if ((s1.length : Int) != (s2.length : Int)) = true then
  some false
 else
  Option.bind (rangeB (fun k9 _ => Option.bind (idx s1 (k9 : Int)) fun x29 => Option.bind (idx s2 (k9 : Int)) fun x52 => Option.bind (eq x29 x52) fun x86 => if (!x86) = true then some (.rt false) else some (.nx ())) s1.length 0 ()) fun o6 => o6.andThen (fun y => some y) fun s7 =>
  some true
def portref2_Alike_4_1 (p : know_Posting) (q : know_Posting) : Option Bool :=
 Option.bind (if (p.id_ == q.id_) = true then (Option.bind (slices_Equal_Lint_int p.title q.title) fun x41 => if x41 = true then (Option.bind (slices_Equal_Lint_int p.body q.body) fun x54 => some x54) else (some false)) else (if false = true then (Option.bind (slices_Equal_Lint_int p.body q.body) fun x69 => some x69) else (some false))) fun s23 =>
 some s23
def portref2_Alike_4 (a_ : know_Term) (b : know_Term) : Option Bool :=
 Option.bind (if (strEq a_.word b.word) = true then (Option.bind (slices_EqualFunc_Lknow_Posting_Lknow_Posting_know_Posting_know_Posting a_.list_ b.list_ (fun y36 y37 => portref2_Alike_4_1 y36 y37)) fun x38 => some x38) else (some false)) fun s18 =>
 some s18
def portref2_Alike (a_ : know_Index) (b : know_Index) : Option Bool :=
 Option.bind (if true = true then (Option.bind (slices_Equal_Lint_int a_.ids b.ids) fun x66 => if x66 = true then (Option.bind (slices_Equal_Lint_int a_.sizes b.sizes) fun x79 => if x79 = true then (Option.bind (slices_EqualFunc_Lknow_Term_Lknow_Term_know_Term_know_Term a_.terms b.terms (fun y92 y93 => portref2_Alike_4 y92 y93)) fun x94 => some x94) else (some false)) else (if false = true then (Option.bind (slices_EqualFunc_Lknow_Term_Lknow_Term_know_Term_know_Term a_.terms b.terms (fun y123 y124 => portref2_Alike_4 y123 y124)) fun x125 => some x125) else (some false))) else (if false = true then (Option.bind (slices_Equal_Lint_int a_.sizes b.sizes) fun x154 => if x154 = true then (Option.bind (slices_EqualFunc_Lknow_Term_Lknow_Term_know_Term_know_Term a_.terms b.terms (fun y167 y168 => portref2_Alike_4 y167 y168)) fun x169 => some x169) else (some false)) else (if false = true then (Option.bind (slices_EqualFunc_Lknow_Term_Lknow_Term_know_Term_know_Term a_.terms b.terms (fun y198 y199 => portref2_Alike_4 y198 y199)) fun x200 => some x200) else (some false)))) fun s50 =>
 some s50
noncomputable def portlaw2_IndexChanges (x : know_Index) (v : know_Entry) (id_ : Int) : Option Bool :=
 Option.bind (know_Put x v) fun x28 =>
 Option.bind (portref2_PutOf x v) fun x63 =>
 Option.bind (know_Drop x id_) fun x97 =>
 Option.bind (portref2_DropOf x id_) fun x131 =>
 Option.bind (if ((x28.2 == x63.2) && (x97.2 == x131.2)) = true then (Option.bind (portref2_Alike x28.1 x63.1) fun x176 => some x176) else (some false)) fun s161 =>
 Option.bind (if s161 = true then (Option.bind (portref2_Alike x97.1 x131.1) fun x193 => some x193) else (some false)) fun s178 =>
 Option.bind (if s178 = true then (Option.bind (know_CheckIndex x) fun x203 => Option.bind (portref2_IndexFault x) fun x211 => some (x203 == x211)) else (some false)) fun s195 =>
 some s195
end Go.Proofs.YtldkdabcdbgpbaaGreatDoor.M
