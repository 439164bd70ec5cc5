/-
  Written by program (gen.py) from the IR of the dump: plain models of the functions.
-/
import Derived.Test.YtldkdabcdbgpbaaGreatDoorPu
import Derived.Lib.Bytealg
import Derived.Lib.Replace
import Derived.Lib.SlTrimSet
import Derived.Test.YtldkdabcdbgpbaaGreatDoorPr
import Derived.Lib.SlicesCompact
import Derived.Test.YtldkdabcdbgpbaaGreatDoorPj
import Derived.Shelf.GgClosure.StringsIndexFunc
namespace Go.Proofs.YtldkdabcdbgpbaaGreatDoor.M
open Go Go.Pu
set_option linter.unusedVariables false
set_option linter.unusedSimpArgs false

structure know_Entry where
  id_ : Int
  title : ByteArray
  body : ByteArray

structure know_Posting where
  id_ : Int
  title : (List Int)
  body : (List Int)

structure know_Term where
  word : ByteArray
  list_ : (List know_Posting)

structure know_Index where
  ids : (List Int)
  sizes : (List Int)
  terms : (List know_Term)

/-- porterslodge know within -/
def know_within (n : Int) (low : Int) (high : Int) : Bool :=
  ((decide (low ≤ n)) && (decide (n ≤ high)))

/-- porterslodge know plain -/
noncomputable def know_plain (s : ByteArray) (feeds : Bool) : Option Bool :=
  Option.bind (whileB (fun s8 => if (decide (s8 < (s.size : Int))) = true then Option.bind (idxS s s8) fun x18 => Option.bind (if (decide ((x18.toNat : Int) < 32)) = true then (some true) else (some ((x18.toNat : Int) == 127))) fun s20 => Option.bind (if s20 = true then (some (((x18.toNat : Int) != 10) || (!feeds))) else (some false)) fun s22 => if s22 = true then some (.rt false) else some (.nx (w64 (s8 + 1))) else some (.bk s8)) 0) fun o1 => o1.andThen (fun y => some y) fun s2 =>
  some true

/-- porterslodge know checkText -/
noncomputable def know_checkText (title : ByteArray) (body : ByteArray) : Option Int :=
  if ((decide ((200 : Int) < (title.size : Int))) || (decide ((20000 : Int) < (body.size : Int)))) = true then
    some 4
  else
    Option.bind (know_plain title false) fun x4 =>
    Option.bind (if (!x4) = true then (some true) else (Option.bind (know_plain body true) fun x7 => some (!x7))) fun s6 =>
    if s6 = true then
      some 9
    else
      some 0

/-- porterslodge know checkEntry -/
noncomputable def know_checkEntry (v : know_Entry) (before : Int) : Option Int :=
  if (!(know_within v.id_ 1 3000000)) = true then
    some 2
  else
    if (decide (v.id_ ≤ before)) = true then
      some 5
    else
      Option.bind (know_checkText v.title v.body) fun x13 =>
      some x13

/-- porterslodge know digit -/
def know_digit (c : Int) : Bool :=
  ((decide ((48 : Int) ≤ c)) && (decide (c ≤ 57)))

/-- porterslodge know letter -/
def know_letter (c : Int) : Bool :=
  (((decide ((97 : Int) ≤ c)) && (decide (c ≤ 122))) || ((decide ((65 : Int) ≤ c)) && (decide (c ≤ 90))))

/-- porterslodge know inWord -/
def know_inWord (c : Int) : Bool :=
  (((know_letter c) || (know_digit c)) || (decide ((128 : Int) ≤ c)))

/-- porterslodge know lower -/
def know_lower (s : ByteArray) : Option ByteArray :=
  Option.bind (bytesL s) fun x1 =>
  Option.bind (rangeB (fun k10 s18 => Option.bind (Option.bind (idx s18 (k10 : Int)) fun x43 => Option.bind (if ((decide ((65 : Int) ≤ (x43.toNat : Int))) && (decide ((x43.toNat : Int) ≤ 90))) = true then Option.bind (setI s18 (k10 : Int) (toU8 (((toU8 ((x43.toNat : Int) + 97)).toNat : Int) - 65))) fun x65 => some x65 else some s18) fun s51 => some s51) fun s34 => some (.nx s34)) x1.length 0 x1) fun o7 => o7.andThen (fun y => some y) fun s8 =>
  some (⟨s8.toArray⟩ : ByteArray)

/-- porterslodge know Words -/
noncomputable def know_Words (s : ByteArray) : Option (List ByteArray) :=
  Option.bind (whileB (fun s12 => if (decide (s12.2 < (s.size : Int))) = true then Option.bind (whileB (fun s33 => Option.bind (if (decide (s33 < (s.size : Int))) = true then (Option.bind (idxS s s33) fun x44 => some (know_inWord (x44.toNat : Int))) else (some false)) fun s43 => if s43 = true then some (.nx (w64 (s33 + 1))) else some (.bk s33)) s12.2) fun o26 => o26.andThen (fun y => some (.rt y)) fun s27 => Option.bind (if ((decide (s12.2 < s27)) && (decide ((w64 (s27 - s12.2)) ≤ 30))) = true then Option.bind (sliceS s (some s12.2) (some s27)) fun x62 => Option.bind (know_lower x62) fun x63 => Option.bind (appendL 8796093022208 s12.1 ([x63] : List ByteArray)) fun x73 => some x73 else some s12.1) fun s52 => some (.nx (s52, w64 (s27 + 1))) else some (.bk (s12.1, s12.2))) (([] : (List ByteArray)), 0)) fun o1 => o1.andThen (fun y => some y) fun s2 =>
  some s2.1

/-- internal stringslite HasSuffix -/
def internal_stringslite_HasSuffix (s : ByteArray) (suffix : ByteArray) : Option Bool :=
  Option.bind (if (decide ((suffix.size : Int) ≤ (s.size : Int))) = true then (Option.bind (sliceS s (some (w64 ((s.size : Int) - (suffix.size : Int)))) none) fun x3 => some (strEq x3 suffix)) else (some false)) fun s2 =>
  some s2

/-- strings HasSuffix -/
def strings_HasSuffix (s : ByteArray) (suffix : ByteArray) : Option Bool :=
  Option.bind (internal_stringslite_HasSuffix s suffix) fun x1 =>
  some x1

/-- porterslodge know Stem -/
noncomputable def know_Stem (word : ByteArray) : Option ByteArray :=
  Option.bind (whileB (fun s8 => if (decide (s8 < (word.size : Int))) = true then Option.bind (idxS word s8) fun x18 => Option.bind (if (decide ((x18.toNat : Int) < 97)) = true then (some true) else (some (decide ((122 : Int) < (x18.toNat : Int))))) fun s20 => if s20 = true then some (.rt word) else some (.nx (w64 (s8 + 1))) else some (.bk s8)) 0) fun o1 => o1.andThen (fun y => some y) fun s2 =>
  if (decide ((word.size : Int) < 4)) = true then
    some word
  else
    Option.bind (strings_HasSuffix word (⟨#[105, 101, 115]⟩ : ByteArray)) fun x26 =>
    if x26 = true then
      Option.bind (sliceS word none (some (w64 ((word.size : Int) - 3)))) fun x28 =>
      Option.bind (catS x28 (⟨#[121]⟩ : ByteArray)) fun x29 =>
      some x29
    else
      Option.bind (strings_HasSuffix word (⟨#[115, 115, 101, 115]⟩ : ByteArray)) fun x30 =>
      if x30 = true then
        Option.bind (sliceS word none (some (w64 ((word.size : Int) - 2)))) fun x32 =>
        some x32
      else
        Option.bind (strings_HasSuffix word (⟨#[115, 115]⟩ : ByteArray)) fun x33 =>
        if x33 = true then
          some word
        else
          Option.bind (strings_HasSuffix word (⟨#[115]⟩ : ByteArray)) fun x35 =>
          if x35 = true then
            Option.bind (sliceS word none (some (w64 ((word.size : Int) - 1)))) fun x37 =>
            some x37
          else
            Option.bind (strings_HasSuffix word (⟨#[105, 110, 103]⟩ : ByteArray)) fun x38 =>
            if (x38 && (decide ((6 : Int) ≤ (word.size : Int)))) = true then
              Option.bind (sliceS word none (some (w64 ((word.size : Int) - 3)))) fun x42 =>
              some x42
            else
              Option.bind (strings_HasSuffix word (⟨#[101, 100]⟩ : ByteArray)) fun x43 =>
              if (x43 && (decide ((5 : Int) ≤ (word.size : Int)))) = true then
                Option.bind (sliceS word none (some (w64 ((word.size : Int) - 2)))) fun x47 =>
                some x47
              else
                some word

def sortStrsL (l : List ByteArray) : Option (List ByteArray) := if l.length < 4611686018427387904 then some (strsOf ((bytesOf l).mergeSort fun x y => decide (x ≤ y))) else none

/-- the posting of a stem, with one position more -/
noncomputable def idxPut (found : List (ByteArray × know_Posting)) (id : Int) (title : Bool) (s : ByteArray) (i : Int) : Option (List (ByteArray × know_Posting)) :=
  if title = true then Option.bind (appendL 17592186044416 ((mapGet found s).getD ⟨id, [], []⟩).title [i]) fun l => some (mapPut found s ⟨((mapGet found s).getD ⟨id, [], []⟩).id_, l, ((mapGet found s).getD ⟨id, [], []⟩).body⟩)
  else Option.bind (appendL 17592186044416 ((mapGet found s).getD ⟨id, [], []⟩).body [i]) fun l => some (mapPut found s ⟨((mapGet found s).getD ⟨id, [], []⟩).id_, ((mapGet found s).getD ⟨id, [], []⟩).title, l⟩)
/-- a round of note -/
noncomputable def idxNote (id : Int) (title : Bool) (l : List ByteArray) (k : Nat) (s : List (ByteArray × know_Posting) × List ByteArray) : Option (Ctl (List (ByteArray × know_Posting) × List ByteArray) Empty) :=
  Option.bind (idx l (k : Int)) fun w => Option.bind (know_Stem w) fun t => Option.bind (if (mapGet s.1 t).isSome = true then some s.2 else appendL 8796093022208 s.2 [t]) fun q => Option.bind (idxPut s.1 id title t (k : Int)) fun m => some (.nx (m, q))
/-- porterslodge/know.postings$1 -/
noncomputable def know_postings_note (id : Int) (text : ByteArray) (title : Bool) (st : List (ByteArray × know_Posting) × List ByteArray) : Option (Int × List (ByteArray × know_Posting) × List ByteArray) :=
  Option.bind (know_Words text) fun l => Option.bind (rangeB (idxNote id title l) l.length 0 st) fun o => o.andThen (fun y => y.elim) fun s => some ((l.length : Int), s)
/-- porterslodge/know.postings -/
noncomputable def know_postings (v : know_Entry) : Option (List know_Term × Int) :=
  Option.bind (know_postings_note v.id_ v.title true ([], [])) fun a =>
  Option.bind (know_postings_note v.id_ v.body false a.2) fun b =>
  Option.bind (sortStrsL b.2.2) fun q =>
  Option.bind (rangeB (R := Empty) (fun k s => Option.bind (idx q (k : Int)) fun t => Option.bind (mapGet b.2.1 t) fun p => Option.bind (appendL 3518437208883 s [(⟨t, [p]⟩ : know_Term)]) fun x => some (.nx x)) q.length 0 ([] : List know_Term)) fun o => o.andThen (fun y => y.elim) fun l => some (l, w64 (a.1 + b.1))

/-- slices BinarySearchFunc porterslodge know Term porterslodge know Term porterslodge know Term -/
noncomputable def slices_BinarySearchFunc_Lknow_Term_know_Term_know_Term (x : (List know_Term)) (target : know_Term) (cmp : know_Term → know_Term → Option Int) : Option (Int × Bool) :=
  Option.bind (whileB (fun s20 => if (decide (s20.1 < s20.2)) = true then Option.bind (Option.bind (shr .u64 (IntKind.wrap .u64 (w64 (s20.1 + s20.2))) 1) fun x40 => Option.bind (idx x (IntKind.wrap .i64 x40)) fun x41 => Option.bind (cmp x41 target) fun x51 => Option.bind (if (decide (x51 < 0)) = true then some (w64 ((IntKind.wrap .i64 x40) + 1), s20.2) else some (s20.1, IntKind.wrap .i64 x40)) fun s56 => some (s56.1, s56.2)) fun s33 => some (.nx (s33.1, s33.2)) else some (.bk (s20.1, s20.2))) (0, (x.length : Int))) fun o11 => o11.andThen (fun y => some y) fun s12 =>
  Option.bind (if (decide (s12.1 < (x.length : Int))) = true then (Option.bind (idx x s12.1) fun x70 => Option.bind (cmp x70 target) fun x80 => some (x80 == 0)) else (some false)) fun s69 =>
  some (s12.1, s69)

/-- strings.Compare -/
def strings_Compare (a : ByteArray) (b : ByteArray) : Option Int := some (Go.Lib.compareBytes a.data.toList b.data.toList)

/-- porterslodge know byWord -/
def know_byWord (a_ : know_Term) (b : know_Term) : Option Int :=
  Option.bind (strings_Compare a_.word b.word) fun x19 =>
  some x19

/-- porterslodge know merged porterslodge know Posting -/
noncomputable def know_merged_know_Posting (a_ : (List know_Posting)) (b : (List know_Posting)) (compare : know_Posting → know_Posting → Option Int) : Option (List know_Posting) :=
  Option.bind (whileB (fun s20 => if ((decide ((0 : Int) < (s20.1.length : Int))) && (decide ((0 : Int) < (s20.2.1.length : Int)))) = true then Option.bind (Option.bind (idx s20.1 0) fun x54 => Option.bind (idx s20.2.1 0) fun x63 => Option.bind (compare x54 x63) fun x72 => if (decide (x72 < 0)) = true then Option.bind (appendL 2513169434916 s20.2.2 ([x54] : List know_Posting)) fun x96 => Option.bind (sliceL s20.1 (some 1) none) fun x102 => some (x102, s20.2.1, x96) else Option.bind (if (x72 == 0) = true then Option.bind (sliceL s20.1 (some 1) none) fun x115 => some x115 else some s20.1) fun s107 => Option.bind (appendL 2513169434916 s20.2.2 ([x63] : List know_Posting)) fun x139 => Option.bind (sliceL s20.2.1 (some 1) none) fun x145 => some (s107, x145, x139)) fun s41 => some (.nx (s41.1, s41.2.1, s41.2.2)) else some (.bk (s20.1, s20.2.1, s20.2.2))) (a_, b, ([] : (List know_Posting)))) fun o5 => o5.andThen (fun y => some y) fun s6 =>
  Option.bind (appendL 2513169434916 s6.2.2 s6.1) fun x152 =>
  Option.bind (appendL 2513169434916 x152 s6.2.1) fun x158 =>
  some x158

/-- cmp isNaN int -/
def cmp_isNaN_int (x : Int) : Bool :=
  x != x

/-- cmp Compare int -/
def cmp_Compare_int (x : Int) (y : Int) : Int :=
  if (cmp_isNaN_int x) = true then
    if (cmp_isNaN_int y) = true then
      0
    else
      (-1)
  else
    if (cmp_isNaN_int y) = true then
      1
    else
      if (decide (x < y)) = true then
        (-1)
      else
        if (decide (y < x)) = true then
          1
        else
          0

/-- porterslodge know byId -/
def know_byId (a_ : know_Posting) (b : know_Posting) : Option Int :=
  some (cmp_Compare_int a_.id_ b.id_)

/-- cmp Less int -/
def cmp_Less_int (x : Int) (y : Int) : Bool :=
  (((cmp_isNaN_int x) && (!(cmp_isNaN_int y))) || (decide (x < y)))

/-- slices isNaN int -/
def slices_isNaN_int (x : Int) : Bool :=
  x != x

/-- slices BinarySearch int int -/
noncomputable def slices_BinarySearch_Lint_int (x : (List Int)) (target : Int) : Option (Int × Bool) :=
  Option.bind (whileB (fun s10 => if (decide (s10.1 < s10.2)) = true then Option.bind (Option.bind (shr .u64 (IntKind.wrap .u64 (w64 (s10.1 + s10.2))) 1) fun x26 => Option.bind (idx x (IntKind.wrap .i64 x26)) fun x27 => Option.bind (if (cmp_Less_int x27 target) = true then some (w64 ((IntKind.wrap .i64 x26) + 1), s10.2) else some (s10.1, IntKind.wrap .i64 x26)) fun s32 => some (s32.1, s32.2)) fun s21 => some (.nx (s21.1, s21.2)) else some (.bk (s10.1, s10.2))) (0, (x.length : Int))) fun o3 => o3.andThen (fun y => some y) fun s4 =>
  Option.bind (if (decide (s4.1 < (x.length : Int))) = true then (Option.bind (idx x s4.1) fun x46 => Option.bind (if (x46 == target) = true then (some true) else (some ((slices_isNaN_int x46) && (slices_isNaN_int target)))) fun s51 => some s51) else (some false)) fun s45 =>
  some (s4.1, s45)

/-- slices Clone int int -/
def slices_Clone_Lint_int (s : (List Int)) : Option (List Int) :=
  Option.bind (appendL 17592186044416 ([] : List Int) s) fun x8 =>
  some x8

/-- slices.Insert, where there is something to insert -/
def slices_Insert_Lint_int {α : Type} (l : List α) (k : Int) (vs : List α) : Option (List α) :=
  if 0 ≤ k ∧ k ≤ (l.length : Int) ∧ vs ≠ [] ∧ l.length + vs.length ≤ 17592186044416 then some (l.take k.toNat ++ vs ++ l.drop k.toNat) else none

/-- porterslodge know merged porterslodge know Term -/
noncomputable def know_merged_know_Term (a_ : (List know_Term)) (b : (List know_Term)) (compare : know_Term → know_Term → Option Int) : Option (List know_Term) :=
  Option.bind (whileB (fun s20 => if ((decide ((0 : Int) < (s20.1.length : Int))) && (decide ((0 : Int) < (s20.2.1.length : Int)))) = true then Option.bind (Option.bind (idx s20.1 0) fun x54 => Option.bind (idx s20.2.1 0) fun x61 => Option.bind (compare x54 x61) fun x68 => if (decide (x68 < 0)) = true then Option.bind (appendL 3518437208883 s20.2.2 ([x54] : List know_Term)) fun x87 => Option.bind (sliceL s20.1 (some 1) none) fun x93 => some (x93, s20.2.1, x87) else Option.bind (if (x68 == 0) = true then Option.bind (sliceL s20.1 (some 1) none) fun x106 => some x106 else some s20.1) fun s98 => Option.bind (appendL 3518437208883 s20.2.2 ([x61] : List know_Term)) fun x125 => Option.bind (sliceL s20.2.1 (some 1) none) fun x131 => some (s98, x131, x125)) fun s41 => some (.nx (s41.1, s41.2.1, s41.2.2)) else some (.bk (s20.1, s20.2.1, s20.2.2))) (a_, b, ([] : (List know_Term)))) fun o5 => o5.andThen (fun y => some y) fun s6 =>
  Option.bind (appendL 3518437208883 s6.2.2 s6.1) fun x138 =>
  Option.bind (appendL 3518437208883 x138 s6.2.1) fun x144 =>
  some x144

/-- porterslodge know Index with -/
noncomputable def know_Index_with (x : know_Index) (v : know_Entry) : Option know_Index :=
  Option.bind (know_postings v) fun x25 =>
  Option.bind (rangeB (fun k35 s43 => Option.bind (Option.bind (idx s43 (k35 : Int)) fun x68 => Option.bind (slices_BinarySearchFunc_Lknow_Term_know_Term_know_Term x.terms x68 (fun y90 y91 => know_byWord y90 y91)) fun x92 => Option.bind (if x92.2 = true then Option.bind (idx x.terms x92.1) fun x124 => Option.bind (know_merged_know_Posting x124.list_ x68.list_ (fun y136 y137 => know_byId y136 y137)) fun x138 => Option.bind (setI s43 (k35 : Int) ({ (x68 : know_Term) with list_ := x138 })) fun x176 => some x176 else some s43) fun s111 => some s111) fun s59 => some (.nx s59)) x25.1.length 0 x25.1) fun o32 => o32.andThen (fun y => some y) fun s33 =>
  Option.bind (slices_BinarySearch_Lint_int x.ids v.id_) fun x190 =>
  Option.bind (slices_Clone_Lint_int x.ids) fun x310 =>
  Option.bind (slices_Insert_Lint_int x310 x190.1 ([v.id_] : List Int)) fun x325 =>
  Option.bind (slices_Clone_Lint_int x.sizes) fun x342 =>
  Option.bind (slices_Insert_Lint_int x342 x190.1 ([x25.2] : List Int)) fun x357 =>
  Option.bind (know_merged_know_Term x.terms s33 (fun y379 y380 => know_byWord y379 y380)) fun x381 =>
  some (⟨x325, x357, x381⟩ : know_Index)

/-- porterslodge know NewIndex -/
noncomputable def know_NewIndex (l : (List know_Entry)) : Option (know_Index × Int) :=
  if (decide ((200 : Int) < (l.length : Int))) = true then
    some ((⟨([] : (List Int)), ([] : (List Int)), ([] : (List know_Term))⟩ : know_Index), 4)
  else
    Option.bind (rangeB (fun k15 s28 => Option.bind (idx l (k15 : Int)) fun x47 => Option.bind (know_checkEntry x47 s28.1) fun x61 => if (x61 != 0) = true then some (.rt ((⟨([] : (List Int)), ([] : (List Int)), ([] : (List know_Term))⟩ : know_Index), x61)) else some (.nx (x47.id_, s28.2))) l.length 0 (0, (⟨([] : (List Int)), ([] : (List Int)), ([] : (List know_Term))⟩ : know_Index))) fun o12 => o12.andThen (fun y => some y) fun s13 =>
    Option.bind (rangeB (fun k81 s93 => Option.bind (idx l (k81 : Int)) fun x112 => Option.bind (know_Index_with s93 x112) fun x126 => some (.nx x126)) l.length 0 (⟨([] : (List Int)), ([] : (List Int)), ([] : (List know_Term))⟩ : know_Index)) fun o78 => o78.andThen (fun y => some y) fun s79 =>
    some (s79, 0)

/-- strings.ReplaceAll -/
def strings_ReplaceAll (s : ByteArray) (old : ByteArray) (new : ByteArray) : Option ByteArray :=
  if s.size < 4294967281 ∧ 1 ≤ old.size ∧ s.size + Go.Lib.countB s old * new.size ≤ 140737488355328 then some ⟨(Go.Lib.replaceAll s.data.toList old.data.toList new.data.toList).toArray⟩ else none

/-- porterslodge portref2 lowByte 1 -/
def portref2_lowByte_1 (r_ : Int) : Bool :=
  ((decide (r_ < 32)) || (r_ == 127))

/-- porterslodge portref2 lowByte -/
def portref2_lowByte (s : ByteArray) : Option Bool :=
  some (decide (0 ≤ Go.Lib.idxFunc (fun y => portref2_lowByte_1 (y : Int)) true s))

/-- porterslodge portref2 entryFault -/
def portref2_entryFault (v : know_Entry) : Option Int :=
  if ((decide ((200 : Int) < (v.title.size : Int))) || (decide ((20000 : Int) < (v.body.size : Int)))) = true then
    some 4
  else
    Option.bind (Option.bind (portref2_lowByte v.title) fun x21 => if x21 = true then (some true) else (Option.bind (strings_ReplaceAll v.body (⟨#[10]⟩ : ByteArray) (⟨#[]⟩ : ByteArray)) fun x28 => Option.bind (portref2_lowByte x28) fun x32 => some x32)) fun s13 =>
    if s13 = true then
      some 9
    else
      some 0

/-- porterslodge portref2 isWordByte -/
def portref2_isWordByte (b : Int) : Bool :=
  (((((decide ((97 : Int) ≤ b)) && (decide (b ≤ 122))) || ((decide ((65 : Int) ≤ b)) && (decide (b ≤ 90)))) || ((decide ((48 : Int) ≤ b)) && (decide (b ≤ 57)))) || (decide ((128 : Int) ≤ b)))

/-- porterslodge portref2 lower -/
def portref2_lower (s : ByteArray) : Option ByteArray :=
  Option.bind (bytesL s) fun x1 =>
  Option.bind (rangeB (fun k10 s18 => Option.bind (Option.bind (idx s18 (k10 : Int)) fun x43 => Option.bind (if ((decide ((65 : Int) ≤ (x43.toNat : Int))) && (decide ((x43.toNat : Int) ≤ 90))) = true then Option.bind (setI s18 (k10 : Int) (toU8 ((x43.toNat : Int) + 32))) fun x65 => some x65 else some s18) fun s51 => some s51) fun s34 => some (.nx s34)) x1.length 0 x1) fun o7 => o7.andThen (fun y => some y) fun s8 =>
  some (⟨s8.toArray⟩ : ByteArray)

/-- porterslodge portref2 WordsOf -/
noncomputable def portref2_WordsOf (s : ByteArray) : Option (List ByteArray) :=
  Option.bind (whileB (fun s12 => if (decide (s12.2 < (s.size : Int))) = true then Option.bind (whileB (fun s33 => Option.bind (if (decide (s33 < (s.size : Int))) = true then (Option.bind (idxS s s33) fun x44 => some (portref2_isWordByte (x44.toNat : Int))) else (some false)) fun s43 => if s43 = true then some (.nx (w64 (s33 + 1))) else some (.bk s33)) s12.2) fun o26 => o26.andThen (fun y => some (.rt y)) fun s27 => Option.bind (if ((decide (s12.2 < s27)) && (decide ((w64 (s27 - s12.2)) ≤ 30))) = true then Option.bind (sliceS s (some s12.2) (some s27)) fun x62 => Option.bind (portref2_lower x62) fun x63 => Option.bind (appendL 8796093022208 s12.1 ([x63] : List ByteArray)) fun x73 => some x73 else some s12.1) fun s52 => some (.nx (s52, (if s27 < w64 (s12.2 + 1) then w64 (s12.2 + 1) else s27))) else some (.bk (s12.1, s12.2))) (([] : (List ByteArray)), 0)) fun o1 => o1.andThen (fun y => some y) fun s2 =>
  some s2.1

/-- strings.Trim -/
def strings_Trim (s : ByteArray) (cutset : ByteArray) : Option ByteArray :=
  if s.size ≤ 9223372036854775807 ∧ cutset.size < 4294967281 ∧ (cutset.data.toList.all fun b => decide (b.toNat < 128)) = true then some ⟨(Go.Lib.trimS s.data.toList cutset.data.toList).toArray⟩ else none

/-- porterslodge portref2 StemOf 1 -/
def portref2_StemOf_1 (s : ByteArray) (p1 : ByteArray) : Option Bool :=
  Option.bind (strings_HasSuffix p1 s) fun x1 =>
  some x1

/-- porterslodge portref2 StemOf -/
def portref2_StemOf (w_ : ByteArray) : Option ByteArray :=
  Option.bind (if (decide ((w_.size : Int) < 4)) = true then (some true) else (Option.bind (strings_Trim w_ (⟨#[97, 98, 99, 100, 101, 102, 103, 104, 105, 106, 107, 108, 109, 110, 111, 112, 113, 114, 115, 116, 117, 118, 119, 120, 121, 122]⟩ : ByteArray)) fun x17 => some (!(strEq x17 (⟨#[]⟩ : ByteArray))))) fun s8 =>
  if s8 = true then
    some w_
  else
    Option.bind (portref2_StemOf_1 (⟨#[105, 101, 115]⟩ : ByteArray) w_) fun x23 =>
    if x23 = true then
      Option.bind (sliceS w_ none (some (w64 ((w_.size : Int) - 3)))) fun x25 =>
      Option.bind (catS x25 (⟨#[121]⟩ : ByteArray)) fun x26 =>
      some x26
    else
      Option.bind (portref2_StemOf_1 (⟨#[115, 115, 101, 115]⟩ : ByteArray) w_) fun x27 =>
      if x27 = true then
        Option.bind (sliceS w_ none (some (w64 ((w_.size : Int) - 2)))) fun x29 =>
        some x29
      else
        Option.bind (portref2_StemOf_1 (⟨#[115, 115]⟩ : ByteArray) w_) fun x30 =>
        if x30 = true then
          some w_
        else
          Option.bind (portref2_StemOf_1 (⟨#[115]⟩ : ByteArray) w_) fun x32 =>
          if x32 = true then
            Option.bind (sliceS w_ none (some (w64 ((w_.size : Int) - 1)))) fun x34 =>
            some x34
          else
            Option.bind (portref2_StemOf_1 (⟨#[105, 110, 103]⟩ : ByteArray) w_) fun x35 =>
            if (x35 && (decide ((6 : Int) ≤ (w_.size : Int)))) = true then
              Option.bind (sliceS w_ none (some (w64 ((w_.size : Int) - 3)))) fun x39 =>
              some x39
            else
              Option.bind (portref2_StemOf_1 (⟨#[101, 100]⟩ : ByteArray) w_) fun x40 =>
              if (x40 && (decide ((5 : Int) ≤ (w_.size : Int)))) = true then
                Option.bind (sliceS w_ none (some (w64 ((w_.size : Int) - 2)))) fun x44 =>
                some x44
              else
                some w_

/-- porterslodge portref2 indexOf 2 -/
def portref2_indexOf_2 (a_ : know_Posting) (b : know_Posting) : Option Int :=
  some (cmp_Compare_int a_.id_ b.id_)

/-- where a stem's postings stand with one position more -/
noncomputable def idxAtPut (at_ : List (ByteArray × List (Int × know_Posting))) (stem : ByteArray) (id pos : Int) (title : Bool) : Option (List (ByteArray × List (Int × know_Posting))) :=
  if title = true then Option.bind (appendL 17592186044416 ((mapGet ((mapGet at_ stem).getD []) id).getD ⟨id, [], []⟩).title [pos]) fun l => some (mapPut at_ stem (mapPut ((mapGet at_ stem).getD []) id ⟨((mapGet ((mapGet at_ stem).getD []) id).getD ⟨id, [], []⟩).id_, l, ((mapGet ((mapGet at_ stem).getD []) id).getD ⟨id, [], []⟩).body⟩))
  else Option.bind (appendL 17592186044416 ((mapGet ((mapGet at_ stem).getD []) id).getD ⟨id, [], []⟩).body [pos]) fun l => some (mapPut at_ stem (mapPut ((mapGet at_ stem).getD []) id ⟨((mapGet ((mapGet at_ stem).getD []) id).getD ⟨id, [], []⟩).id_, ((mapGet ((mapGet at_ stem).getD []) id).getD ⟨id, [], []⟩).title, l⟩))
noncomputable def idxAtWord (id : Int) (title : Bool) (l : List ByteArray) (k : Nat) (s : List (ByteArray × List (Int × know_Posting))) : Option (Ctl (List (ByteArray × List (Int × know_Posting))) Empty) :=
  Option.bind (idx l (k : Int)) fun w => Option.bind (portref2_StemOf w) fun t => Option.bind (idxAtPut s t id (k : Int) title) fun m => some (.nx m)
noncomputable def idxAtEntry (l : List know_Entry) (k : Nat) (s : List Int × List Int × List (ByteArray × List (Int × know_Posting))) : Option (Ctl (List Int × List Int × List (ByteArray × List (Int × know_Posting))) Empty) :=
  Option.bind (idx l (k : Int)) fun v => Option.bind (portref2_WordsOf v.title) fun a => Option.bind (portref2_WordsOf v.body) fun b =>
  Option.bind (appendL 17592186044416 s.1 [v.id_]) fun ids => Option.bind (appendL 17592186044416 s.2.1 [w64 ((a.length : Int) + (b.length : Int))]) fun sizes =>
  Option.bind (rangeB (idxAtWord v.id_ true a) a.length 0 s.2.2) fun o1 => o1.andThen (fun y => y.elim) fun m1 =>
  Option.bind (rangeB (idxAtWord v.id_ false b) b.length 0 m1) fun o2 => o2.andThen (fun y => y.elim) fun m2 => some (.nx (ids, sizes, m2))
noncomputable def idxTerm (at_ : List (ByteArray × List (Int × know_Posting))) (q : List ByteArray) (k : Nat) (s : List know_Term) : Option (Ctl (List know_Term) Empty) :=
  Option.bind (idx q (k : Int)) fun t => Option.bind (mapGet at_ t) fun m => if (m.length : Int) ≤ 2513169434916 then Option.bind (sortFuncL (fun x y => portref2_indexOf_2 x y) (m.map (·.2))) fun l => Option.bind (appendL 3518437208883 s [(⟨t, l⟩ : know_Term)]) fun x => some (.nx x) else none
/-- porterslodge/portref2.indexOf -/
noncomputable def portref2_indexOf (l : List know_Entry) : Option know_Index :=
  Option.bind (rangeB (idxAtEntry l) l.length 0 ([], [], [])) fun o => o.andThen (fun y => y.elim) fun s =>
  if (s.2.2.length : Int) ≤ 8796093022208 then
    Option.bind (sortStrsL (s.2.2.map (·.1))) fun q => Option.bind (rangeB (idxTerm s.2.2 q) q.length 0 []) fun o2 => o2.andThen (fun y => y.elim) fun terms => some (⟨s.1, s.2.1, terms⟩ : know_Index)
  else none

/-- porterslodge portref2 IndexOf -/
noncomputable def portref2_IndexOf (l : (List know_Entry)) : Option (know_Index × Int) :=
  if (decide ((200 : Int) < (l.length : Int))) = true then
    some ((⟨([] : (List Int)), ([] : (List Int)), ([] : (List know_Term))⟩ : know_Index), 4)
  else
    Option.bind (rangeB (fun k15 s28 => Option.bind (idx l (k15 : Int)) fun x47 => if ((decide (x47.id_ < 1)) || (decide ((3000000 : Int) < x47.id_))) = true then some (.rt ((⟨([] : (List Int)), ([] : (List Int)), ([] : (List know_Term))⟩ : know_Index), 2)) else Option.bind (if (decide ((0 : Int) < (k15 : Int))) = true then (Option.bind (idx l (w64 ((k15 : Int) - 1))) fun x71 => some (decide (x47.id_ ≤ x71.id_))) else (some false)) fun s69 => if s69 = true then some (.rt ((⟨([] : (List Int)), ([] : (List Int)), ([] : (List know_Term))⟩ : know_Index), 5)) else Option.bind (portref2_entryFault x47) fun x84 => if (x84 != 0) = true then some (.rt ((⟨([] : (List Int)), ([] : (List Int)), ([] : (List know_Term))⟩ : know_Index), x84)) else some (.nx s28)) l.length 0 (⟨([] : (List Int)), ([] : (List Int)), ([] : (List know_Term))⟩ : know_Index)) fun o12 => o12.andThen (fun y => some y) fun s13 =>
    Option.bind (portref2_indexOf l) fun x95 =>
    some (x95, 0)

/-- slices Equal int int -/
def slices_Equal_Lint_int (s1 : (List Int)) (s2 : (List Int)) : Option Bool :=
  if ((s1.length : Int) != (s2.length : Int)) = true then
    some false
  else
    Option.bind (rangeB (fun k9 _ => Option.bind (idx s1 (k9 : Int)) fun x29 => Option.bind (idx s2 (k9 : Int)) fun x33 => if (x29 != x33) = true then some (.rt false) else some (.nx ())) s1.length 0 ()) fun o6 => o6.andThen (fun y => some y) fun s7 =>
    some true

/-- slices EqualFunc porterslodge know Term porterslodge know Term porterslodge know Term porterslodge know Term -/
def slices_EqualFunc_Lknow_Term_Lknow_Term_know_Term_know_Term (s1 : (List know_Term)) (s2 : (List know_Term)) (eq : know_Term → know_Term → Option Bool) : Option Bool :=
  if ((s1.length : Int) != (s2.length : Int)) = true then
    some false
  else
    Option.bind (rangeB (fun k9 _ => Option.bind (idx s1 (k9 : Int)) fun x29 => Option.bind (idx s2 (k9 : Int)) fun x47 => Option.bind (eq x29 x47) fun x71 => if (!x71) = true then some (.rt false) else some (.nx ())) s1.length 0 ()) fun o6 => o6.andThen (fun y => some y) fun s7 =>
    some true

/-- slices EqualFunc porterslodge know Posting porterslodge know Posting porterslodge know Posting porterslodge know Posting -/
def slices_EqualFunc_Lknow_Posting_Lknow_Posting_know_Posting_know_Posting (s1 : (List know_Posting)) (s2 : (List know_Posting)) (eq : know_Posting → know_Posting → Option Bool) : Option Bool :=
  if ((s1.length : Int) != (s2.length : Int)) = true then
    some false
  else
    Option.bind (rangeB (fun k9 _ => Option.bind (idx s1 (k9 : Int)) fun x29 => Option.bind (idx s2 (k9 : Int)) fun x52 => Option.bind (eq x29 x52) fun x86 => if (!x86) = true then some (.rt false) else some (.nx ())) s1.length 0 ()) fun o6 => o6.andThen (fun y => some y) fun s7 =>
    some true

/-- porterslodge portref2 Alike 4 1 -/
def portref2_Alike_4_1 (p : know_Posting) (q : know_Posting) : Option Bool :=
  Option.bind (if (p.id_ == q.id_) = true then (Option.bind (slices_Equal_Lint_int p.title q.title) fun x41 => if x41 = true then (Option.bind (slices_Equal_Lint_int p.body q.body) fun x54 => some x54) else (some false)) else (if false = true then (Option.bind (slices_Equal_Lint_int p.body q.body) fun x69 => some x69) else (some false))) fun s23 =>
  some s23

/-- porterslodge portref2 Alike 4 -/
def portref2_Alike_4 (a_ : know_Term) (b : know_Term) : Option Bool :=
  Option.bind (if (strEq a_.word b.word) = true then (Option.bind (slices_EqualFunc_Lknow_Posting_Lknow_Posting_know_Posting_know_Posting a_.list_ b.list_ (fun y36 y37 => portref2_Alike_4_1 y36 y37)) fun x38 => some x38) else (some false)) fun s18 =>
  some s18

/-- porterslodge portref2 Alike -/
def portref2_Alike (a_ : know_Index) (b : know_Index) : Option Bool :=
  Option.bind (if true = true then (Option.bind (slices_Equal_Lint_int a_.ids b.ids) fun x66 => if x66 = true then (Option.bind (slices_Equal_Lint_int a_.sizes b.sizes) fun x79 => if x79 = true then (Option.bind (slices_EqualFunc_Lknow_Term_Lknow_Term_know_Term_know_Term a_.terms b.terms (fun y92 y93 => portref2_Alike_4 y92 y93)) fun x94 => some x94) else (some false)) else (if false = true then (Option.bind (slices_EqualFunc_Lknow_Term_Lknow_Term_know_Term_know_Term a_.terms b.terms (fun y123 y124 => portref2_Alike_4 y123 y124)) fun x125 => some x125) else (some false))) else (if false = true then (Option.bind (slices_Equal_Lint_int a_.sizes b.sizes) fun x154 => if x154 = true then (Option.bind (slices_EqualFunc_Lknow_Term_Lknow_Term_know_Term_know_Term a_.terms b.terms (fun y167 y168 => portref2_Alike_4 y167 y168)) fun x169 => some x169) else (some false)) else (if false = true then (Option.bind (slices_EqualFunc_Lknow_Term_Lknow_Term_know_Term_know_Term a_.terms b.terms (fun y198 y199 => portref2_Alike_4 y198 y199)) fun x200 => some x200) else (some false)))) fun s50 =>
  some s50

/-- porterslodge portlaw2 IndexMakes -/
noncomputable def portlaw2_IndexMakes (l : (List know_Entry)) : Option Bool :=
  Option.bind (know_NewIndex l) fun x3 =>
  Option.bind (portref2_IndexOf l) fun x31 =>
  Option.bind (if (x3.2 == x31.2) = true then (Option.bind (portref2_Alike x3.1 x31.1) fun x81 => some x81) else (some false)) fun s59 =>
  some s59

end Go.Proofs.YtldkdabcdbgpbaaGreatDoor.M
