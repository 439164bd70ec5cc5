/-
  Written by program (gen.py) from the IR of the dump: plain models of the functions.
-/
import Derived.Test.YteoinebegjpodaaGreatDoorPu
import Derived.Lib.AtoiAll
import Derived.Lib.Replace
import Derived.Lib.Split
import Derived.Test.YteoinebegjpodaaGreatDoorPr
import Derived.Lib.SlicesCompact
import Derived.Test.YteoinebegjpodaaGreatDoorPj
import Derived.Shelf.GgClosure.StringsIndexFunc
namespace Go.Proofs.YteoinebegjpodaaGreatDoor.M
open Go Go.Pu
set_option linter.unusedVariables false
set_option linter.unusedSimpArgs false

structure know_Version where
  at_ : Int
  title : ByteArray
  body : ByteArray

structure know_Article where
  id_ : Int
  group : Int
  versions : (List know_Version)

structure know_Entry where
  id_ : Int
  title : ByteArray
  body : ByteArray

def sortIntsL (l : List Int) : Option (List Int) := if l.length < 4611686018427387904 then some (l.mergeSort fun x y => decide (x ≤ y)) else none

/-- porterslodge know within -/
def know_within (n : Int) (low : Int) (high : Int) : Bool :=
  ((decide (low ≤ n)) && (decide (n ≤ high)))

/-- strings.genSplit -/
def strings_genSplit (s : ByteArray) (sep : ByteArray) (sepSave : Int) (n : Int) : Option (List ByteArray) :=
  if s.size < 4294967281 ∧ 1 ≤ sep.size ∧ 0 ≤ sepSave ∧ sepSave ≤ (sep.size : Int) ∧ n = -1 then some (Go.Lib.splitB sep sepSave.toNat (min (Go.Lib.countB s sep + 1) (s.size + 1) - 1) s) else none

/-- strings SplitAfter -/
def strings_SplitAfter (s : ByteArray) (sep : ByteArray) : Option (List ByteArray) :=
  Option.bind (strings_genSplit s sep (sep.size : Int) (-1)) fun x1 =>
  some x1

/-- porterslodge know lines -/
def know_lines (body : ByteArray) : Option (List ByteArray) :=
  Option.bind (strings_SplitAfter body (⟨#[10]⟩ : ByteArray)) fun x1 =>
  Option.bind (idx x1 (w64 ((x1.length : Int) - 1))) fun x7 =>
  Option.bind (if (strEq x7 (⟨#[]⟩ : ByteArray)) = true then Option.bind (sliceL x1 none (some (w64 ((x1.length : Int) - 1)))) fun x21 => some x21 else some x1) fun s12 =>
  some s12

/-- porterslodge know plain -/
noncomputable def know_plain (s : ByteArray) (feeds : Bool) : Option Bool :=
  Option.bind (whileB (fun s8 => if (decide (s8 < (s.size : Int))) = true then Option.bind (idxS s s8) fun x18 => Option.bind (if (decide ((x18.toNat : Int) < 32)) = true then (some true) else (some ((x18.toNat : Int) == 127))) fun s20 => Option.bind (if s20 = true then (some (((x18.toNat : Int) != 10) || (!feeds))) else (some false)) fun s22 => if s22 = true then some (.rt false) else some (.nx (w64 (s8 + 1))) else some (.bk s8)) 0) fun o1 => o1.andThen (fun y => some y) fun s2 =>
  some true

/-- porterslodge know checkText -/
noncomputable def know_checkText (title : ByteArray) (body : ByteArray) : Option Int :=
  if ((decide ((200 : Int) < (title.size : Int))) || (decide ((20000 : Int) < (body.size : Int)))) = true then
    some 4
  else
    Option.bind (know_plain title false) fun x4 =>
    Option.bind (if (!x4) = true then (some true) else (Option.bind (know_plain body true) fun x7 => some (!x7))) fun s6 =>
    if s6 = true then
      some 9
    else
      some 0

/-- porterslodge know checkVersion -/
noncomputable def know_checkVersion (v : know_Version) (before : Int) : Option Int :=
  if (!(know_within v.at_ 0 3000000)) = true then
    some 2
  else
    if (decide (v.at_ < before)) = true then
      some 5
    else
      Option.bind (if (decide ((v.body.size : Int) ≤ 20000)) = true then (Option.bind (know_lines v.body) fun x22 => some (decide ((2000 : Int) < (x22.length : Int)))) else (some false)) fun s12 =>
      if s12 = true then
        some 4
      else
        Option.bind (know_checkText v.title v.body) fun x33 =>
        if (x33 != 0) = true then
          some x33
        else
          if ((strEq v.title (⟨#[]⟩ : ByteArray)) && (!(strEq v.body (⟨#[]⟩ : ByteArray)))) = true then
            some 1
          else
            some 0

/-- porterslodge know CheckArticles -/
noncomputable def know_CheckArticles (l : (List know_Article)) : Option Int :=
  if (decide ((200 : Int) < (l.length : Int))) = true then
    some 4
  else
    Option.bind (rangeB (fun k7 _ => Option.bind (α := Lp _ _) (Option.bind (idx l (k7 : Int)) fun x35 => if (!(know_within x35.id_ 1 3000000)) = true then some (.rt 2) else Option.bind (if (decide ((0 : Int) < (k7 : Int))) = true then (Option.bind (idx l (w64 ((k7 : Int) - 1))) fun x58 => some (decide (x35.id_ ≤ x58.id_))) else (some false)) fun s56 => if s56 = true then some (.rt 5) else if (!(know_within x35.group 0 40)) = true then some (.rt 2) else if (!(know_within (x35.versions.length : Int) 1 40)) = true then some (.rt 4) else Option.bind (rangeB (fun k81 s87 => Option.bind (idx x35.versions (k81 : Int)) fun x100 => Option.bind (know_checkVersion x100 s87) fun x114 => if (x114 != 0) = true then some (.rt x114) else some (.nx x100.at_)) x35.versions.length 0 0) fun o78 => o78.andThen (fun y => some (.rt y)) fun s79 => some (.fin ())) fun o27 => o27.andThen (fun y => some (.rt y)) fun s28 => some (.nx ())) l.length 0 ()) fun o4 => o4.andThen (fun y => some y) fun s5 =>
    some 0

/-- porterslodge know current -/
def know_current (l : (List know_Article)) (m : Int) (wanted : Int → Option Bool) : Option ((List know_Entry) × (List know_Version)) :=
  Option.bind (rangeB (fun k6 s16 => Option.bind (Option.bind (idx l (k6 : Int)) fun x45 => Option.bind (rangeB (R := Empty) (fun k70 s76 => Option.bind (Option.bind (idx x45.versions (k70 : Int)) fun x97 => Option.bind (if (decide (x97.at_ ≤ m)) = true then some (k70 : Int) else some s76) fun s112 => some s112) fun s90 => some (.nx s90)) x45.versions.length 0 (-1)) fun o67 => o67.andThen (fun y => y.elim) fun s68 => Option.bind (wanted x45.group) fun x125 => Option.bind (if ((!x125) || (decide (s68 < 0))) = true then (some true) else (Option.bind (idx x45.versions s68) fun x137 => some (strEq x137.title (⟨#[]⟩ : ByteArray)))) fun s132 => if s132 = true then some (s16.1, s16.2) else Option.bind (idx x45.versions s68) fun x148 => Option.bind (appendL 3518437208883 s16.1 ([(⟨x45.id_, x148.title, x148.body⟩ : know_Entry)] : List know_Entry)) fun x169 => Option.bind (appendL 3518437208883 s16.2 ([x148] : List know_Version)) fun x181 => some (x169, x181)) fun s34 => some (.nx (s34.1, s34.2))) l.length 0 (([] : (List know_Entry)), ([] : (List know_Version)))) fun o3 => o3.andThen (fun y => some y) fun s4 =>
  some (s4.1, s4.2)

/-- porterslodge know Stale 1 -/
def know_Stale_1 (p0 : Int) : Bool :=
  true

/-- porterslodge know letter -/
def know_letter (c : Int) : Bool :=
  (((decide ((97 : Int) ≤ c)) && (decide (c ≤ 122))) || ((decide ((65 : Int) ≤ c)) && (decide (c ≤ 90))))

/-- porterslodge know digit -/
def know_digit (c : Int) : Bool :=
  ((decide ((48 : Int) ≤ c)) && (decide (c ≤ 57)))

def compactIntsL (l : List Int) : Option (List Int) := if l.length ≤ 9223372036854775807 then some (Go.Lib.compact l) else none

/-- porterslodge know Links -/
noncomputable def know_Links (body : ByteArray) : Option (List Int) :=
  Option.bind (whileB (fun s12 => if (decide (s12.2 < (body.size : Int))) = true then Option.bind (Option.bind (idxS body s12.2) fun x36 => Option.bind (if ((x36.toNat : Int) != 35) = true then (some true) else (Option.bind (if (decide ((0 : Int) < s12.2)) = true then (Option.bind (idxS body (w64 (s12.2 - 1))) fun x41 => Option.bind (if (know_letter (x41.toNat : Int)) = true then (some true) else (some (know_digit (x41.toNat : Int)))) fun s43 => Option.bind (if s43 = true then (some true) else (some ((x41.toNat : Int) == 35))) fun s45 => some s45) else (some false)) fun s40 => some s40)) fun s38 => if s38 = true then some s12.1 else Option.bind (whileB (R := Empty) (fun s55 => Option.bind (if (decide (s55.2 < (body.size : Int))) = true then (Option.bind (idxS body s55.2) fun x66 => some (know_digit (x66.toNat : Int))) else (some false)) fun s65 => if (s65 && (decide ((w64 (s55.2 - s12.2)) ≤ 7))) = true then Option.bind (idxS body s55.2) fun x70 => some (.nx (w64 ((w64 (10 * s55.1)) + (IntKind.wrap .i64 ((toU8 ((x70.toNat : Int) - 48)).toNat : Int))), w64 (s55.2 + 1))) else some (.bk (s55.1, s55.2))) (0, w64 (s12.2 + 1))) fun o48 => o48.andThen (fun y => y.elim) fun s49 => Option.bind (if (s49.2 == (w64 (s12.2 + 1))) = true then (some true) else (Option.bind (idxS body (w64 (s12.2 + 1))) fun x76 => some ((x76.toNat : Int) == 48))) fun s75 => Option.bind (if s75 = true then (some true) else (Option.bind (if (decide (s49.2 < (body.size : Int))) = true then (Option.bind (idxS body s49.2) fun x81 => Option.bind (if (know_digit (x81.toNat : Int)) = true then (some true) else (some (know_letter (x81.toNat : Int)))) fun s83 => some s83) else (some false)) fun s80 => some s80)) fun s78 => if s78 = true then some s12.1 else Option.bind (appendL 17592186044416 s12.1 ([s49.1] : List Int)) fun x91 => some x91) fun s27 => some (.nx (s27, w64 (s12.2 + 1))) else some (.bk (s12.1, s12.2))) (([] : (List Int)), 0)) fun o1 => o1.andThen (fun y => some y) fun s2 =>
  Option.bind (sortIntsL s2.1) fun x101 =>
  Option.bind (compactIntsL x101) fun x105 =>
  some x105

/-- slices IndexFunc int int -/
def slices_IndexFunc_Lint_int (s : (List Int)) (f : Int → Option Bool) : Option Int :=
  Option.bind (rangeB (fun k6 _ => Option.bind (idx s (k6 : Int)) fun x25 => Option.bind (f x25) fun x29 => if x29 = true then some (.rt (k6 : Int)) else some (.nx ())) s.length 0 ()) fun o3 => o3.andThen (fun y => some y) fun s4 =>
  some (-1)

/-- slices ContainsFunc int int -/
def slices_ContainsFunc_Lint_int (s : (List Int)) (f : Int → Option Bool) : Option Bool :=
  Option.bind (slices_IndexFunc_Lint_int s f) fun x3 =>
  some (decide ((0 : Int) ≤ x3))

/-- porterslodge know Stale 2 -/
def know_Stale_2 (n : Int) (p1 : (Fmap Int Bool)) : Option Bool :=
  some (!((mapGet p1.l n).getD false))

/-- porterslodge know Stale -/
noncomputable def know_Stale (l : (List know_Article)) (m : Int) (age : Int) : Option ((List Int) × Int) :=
  Option.bind (know_CheckArticles l) fun x3 =>
  if (x3 != 0) = true then
    some (([] : (List Int)), x3)
  else
    if ((!(know_within m 0 3000000)) || (decide (age < 0))) = true then
      some (([] : (List Int)), 2)
    else
      Option.bind (know_current l m (fun y11 => some (know_Stale_1 y11))) fun x12 =>
      Option.bind (rangeB (fun k45 s51 => Option.bind (idx x12.1 (k45 : Int)) fun x64 => some (.nx (mapPut s51 x64.id_ true))) x12.1.length 0 ([] : List (Int × Bool))) fun o42 => o42.andThen (fun y => some y) fun s43 =>
      Option.bind (rangeB (fun k92 s100 => Option.bind (Option.bind (idx x12.1 (k92 : Int)) fun x125 => Option.bind (Option.bind (idx x12.2 (k92 : Int)) fun x147 => if (decide (age < (w64 (m - x147.at_)))) = true then (some true) else (Option.bind (know_Links x125.body) fun x156 => Option.bind (slices_ContainsFunc_Lint_int x156 (fun y164 => know_Stale_2 y164 (⟨s43⟩ : (Fmap Int Bool)))) fun x165 => some x165)) fun s140 => Option.bind (if s140 = true then Option.bind (appendL 17592186044416 s100 ([x125.id_] : List Int)) fun x195 => some x195 else some s100) fun s179 => some s179) fun s116 => some (.nx s116)) x12.1.length 0 ([] : (List Int))) fun o89 => o89.andThen (fun y => some y) fun s90 =>
      some (s90, 0)

/-- porterslodge portref2 IsMoment -/
def portref2_IsMoment (m : Int) : Bool :=
  ((decide ((0 : Int) ≤ m)) && (decide (m ≤ 3000000)))

/-- porterslodge portref2 bodyLines -/
def portref2_bodyLines (s : ByteArray) : Option (List ByteArray) :=
  Option.bind (strings_SplitAfter s (⟨#[10]⟩ : ByteArray)) fun x1 =>
  Option.bind (idx x1 (w64 ((x1.length : Int) - 1))) fun x7 =>
  Option.bind (if (strEq x7 (⟨#[]⟩ : ByteArray)) = true then Option.bind (sliceL x1 none (some (w64 ((x1.length : Int) - 1)))) fun x21 => some x21 else some x1) fun s12 =>
  some s12

/-- strings.ReplaceAll -/
def strings_ReplaceAll (s : ByteArray) (old : ByteArray) (new : ByteArray) : Option ByteArray :=
  if s.size < 4294967281 ∧ 1 ≤ old.size ∧ s.size + Go.Lib.countB s old * new.size ≤ 140737488355328 then some ⟨(Go.Lib.replaceAll s.data.toList old.data.toList new.data.toList).toArray⟩ else none

/-- porterslodge portref2 lowByte 1 -/
def portref2_lowByte_1 (r_ : Int) : Bool :=
  ((decide (r_ < 32)) || (r_ == 127))

/-- porterslodge portref2 lowByte -/
def portref2_lowByte (s : ByteArray) : Option Bool :=
  some (decide (0 ≤ Go.Lib.idxFunc (fun y => portref2_lowByte_1 (y : Int)) true s))

/-- porterslodge portref2 versionFault -/
def portref2_versionFault (v : know_Version) : Option Int :=
  Option.bind (if (decide ((200 : Int) < (v.title.size : Int))) = true then (if true = true then (some true) else (Option.bind (portref2_bodyLines v.body) fun x20 => some (decide ((2000 : Int) < (x20.length : Int))))) else (if (decide ((20000 : Int) < (v.body.size : Int))) = true then (some true) else (Option.bind (portref2_bodyLines v.body) fun x31 => some (decide ((2000 : Int) < (x31.length : Int)))))) fun s8 =>
  if s8 = true then
    some 4
  else
    Option.bind (Option.bind (portref2_lowByte v.title) fun x48 => if x48 = true then (some true) else (Option.bind (strings_ReplaceAll v.body (⟨#[10]⟩ : ByteArray) (⟨#[]⟩ : ByteArray)) fun x55 => Option.bind (portref2_lowByte x55) fun x59 => some x59)) fun s40 =>
    if s40 = true then
      some 9
    else
      if ((strEq v.title (⟨#[]⟩ : ByteArray)) && (!(strEq v.body (⟨#[]⟩ : ByteArray)))) = true then
        some 1
      else
        some 0

/-- porterslodge portref2 ArticlesFault -/
def portref2_ArticlesFault (l : (List know_Article)) : Option Int :=
  if (decide ((200 : Int) < (l.length : Int))) = true then
    some 4
  else
    Option.bind (rangeB (fun k7 _ => Option.bind (α := Lp _ _) (Option.bind (idx l (k7 : Int)) fun x35 => if ((decide (x35.id_ < 1)) || (decide ((3000000 : Int) < x35.id_))) = true then some (.rt 2) else Option.bind (if (decide ((0 : Int) < (k7 : Int))) = true then (Option.bind (idx l (w64 ((k7 : Int) - 1))) fun x61 => some (decide (x35.id_ ≤ x61.id_))) else (some false)) fun s59 => if s59 = true then some (.rt 5) else if ((decide (x35.group < 0)) || (decide ((40 : Int) < x35.group))) = true then some (.rt 2) else if ((decide ((x35.versions.length : Int) < 1)) || (decide ((40 : Int) < (x35.versions.length : Int)))) = true then some (.rt 4) else Option.bind (rangeB (fun k93 _ => Option.bind (idx x35.versions (k93 : Int)) fun x112 => if (!(portref2_IsMoment x112.at_)) = true then some (.rt 2) else Option.bind (if (decide ((0 : Int) < (k93 : Int))) = true then (Option.bind (idx x35.versions (w64 ((k93 : Int) - 1))) fun x134 => some (decide (x112.at_ < x134.at_))) else (some false)) fun s128 => if s128 = true then some (.rt 5) else Option.bind (portref2_versionFault x112) fun x144 => if (x144 != 0) = true then some (.rt x144) else some (.nx ())) x35.versions.length 0 ()) fun o90 => o90.andThen (fun y => some (.rt y)) fun s91 => some (.fin ())) fun o27 => o27.andThen (fun y => some (.rt y)) fun s28 => some (.nx ())) l.length 0 ()) fun o4 => o4.andThen (fun y => some y) fun s5 =>
    some 0

/-- porterslodge portref2 versionAt -/
def portref2_versionAt (a_ : know_Article) (m : Int) : Option (know_Version × Bool) :=
  Option.bind (rangeB (fun k26 s32 => Option.bind (Option.bind (idx a_.versions (k26 : Int)) fun x53 => Option.bind (if (decide (x53.at_ ≤ m)) = true then some (true, x53) else some (s32.1, s32.2)) fun s68 => some (s68.1, s68.2)) fun s46 => some (.nx (s46.1, s46.2))) a_.versions.length 0 (false, (⟨0, ByteArray.empty, ByteArray.empty⟩ : know_Version))) fun o23 => o23.andThen (fun y => some y) fun s24 =>
  if s24.1 = true then (some (s24.2, !(strEq s24.2.title (⟨#[]⟩ : ByteArray)))) else (some (s24.2, false))

/-- porterslodge portref2 isWordByte -/
def portref2_isWordByte (b : Int) : Bool :=
  (((((decide ((97 : Int) ≤ b)) && (decide (b ≤ 122))) || ((decide ((65 : Int) ≤ b)) && (decide (b ≤ 90)))) || ((decide ((48 : Int) ≤ b)) && (decide (b ≤ 57)))) || (decide ((128 : Int) ≤ b)))

/-- porterslodge portref2 LinksOf 1 -/
def portref2_LinksOf_1 (b : Int) : Bool :=
  ((decide (b < 128)) && (portref2_isWordByte b))

/-- strconv.Atoi -/
def strconv_Atoi (s : ByteArray) : Option (Int × Bool) :=
  if s.size ≤ 281474976710656 then some (match Go.Lib.atoiAll s.data.toList with | .ok v => (v, false) | .range => (Go.Lib.atoiSat s.data.toList, true) | _ => (0, true)) else none

/-- porterslodge portref2 LinksOf -/
noncomputable def portref2_LinksOf (s : ByteArray) : Option (List Int) :=
  Option.bind (whileB (fun s12 => if (decide (s12.2 < (s.size : Int))) = true then Option.bind (Option.bind (Option.bind (idxS s s12.2) fun x44 => if ((x44.toNat : Int) != 35) = true then (some true) else (if (decide ((0 : Int) < s12.2)) = true then (Option.bind (idxS s (w64 (s12.2 - 1))) fun x48 => if (portref2_LinksOf_1 (x48.toNat : Int)) = true then (some true) else (some ((x48.toNat : Int) == 35))) else (some false))) fun s37 => if s37 = true then some s12.1 else Option.bind (whileB (R := Empty) (fun s62 => Option.bind (if (decide (s62 < (s.size : Int))) = true then (Option.bind (idxS s s62) fun x73 => some (decide ((48 : Int) ≤ (x73.toNat : Int)))) else (some false)) fun s72 => Option.bind (if s72 = true then (Option.bind (idxS s s62) fun x76 => some (decide ((x76.toNat : Int) ≤ 57))) else (some false)) fun s75 => if s75 = true then some (.nx (w64 (s62 + 1))) else some (.bk s62)) (w64 (s12.2 + 1))) fun o55 => o55.andThen (fun y => y.elim) fun s56 => Option.bind (if (decide ((w64 ((w64 (s56 - s12.2)) - 1)) < 1)) = true then (if true = true then (if true = true then (some true) else (if (decide (s56 < (s.size : Int))) = true then (Option.bind (idxS s s56) fun x94 => some (portref2_LinksOf_1 (x94.toNat : Int))) else (some false))) else (Option.bind (idxS s (w64 (s12.2 + 1))) fun x97 => if ((x97.toNat : Int) == 48) = true then (some true) else (if (decide (s56 < (s.size : Int))) = true then (Option.bind (idxS s s56) fun x101 => some (portref2_LinksOf_1 (x101.toNat : Int))) else (some false)))) else (if (decide ((7 : Int) < (w64 ((w64 (s56 - s12.2)) - 1)))) = true then (if true = true then (some true) else (if (decide (s56 < (s.size : Int))) = true then (Option.bind (idxS s s56) fun x108 => some (portref2_LinksOf_1 (x108.toNat : Int))) else (some false))) else (Option.bind (idxS s (w64 (s12.2 + 1))) fun x111 => if ((x111.toNat : Int) == 48) = true then (some true) else (if (decide (s56 < (s.size : Int))) = true then (Option.bind (idxS s s56) fun x115 => some (portref2_LinksOf_1 (x115.toNat : Int))) else (some false))))) fun s82 => if s82 = true then some s12.1 else Option.bind (sliceS s (some (w64 (s12.2 + 1))) (some s56)) fun x120 => Option.bind (strconv_Atoi x120) fun x121 => Option.bind (appendL 17592186044416 s12.1 ([x121.1] : List Int)) fun x132 => some x132) fun s27 => some (.nx (s27, w64 (s12.2 + 1))) else some (.bk (s12.1, s12.2))) (([] : (List Int)), 0)) fun o1 => o1.andThen (fun y => some y) fun s2 =>
  Option.bind (sortIntsL s2.1) fun x142 =>
  Option.bind (compactIntsL x142) fun x146 =>
  some x146

/-- porterslodge portref2 StaleOf 1 -/
def portref2_StaleOf_1 (n : Int) (p1 : (Fmap Int Bool)) : Option Bool :=
  some (!((mapGet p1.l n).getD false))

/-- porterslodge portref2 StaleOf -/
noncomputable def portref2_StaleOf (l : (List know_Article)) (m : Int) (age : Int) : Option ((List Int) × Int) :=
  Option.bind (portref2_ArticlesFault l) fun x3 =>
  if (x3 != 0) = true then
    some (([] : (List Int)), x3)
  else
    if ((!(portref2_IsMoment m)) || (decide (age < 0))) = true then
      some (([] : (List Int)), 2)
    else
      Option.bind (rangeB (fun k27 s33 => Option.bind (idx l (k27 : Int)) fun x46 => Option.bind (portref2_versionAt x46 m) fun x67 => some (.nx (mapPut s33 x46.id_ x67.2))) l.length 0 ([] : List (Int × Bool))) fun o24 => o24.andThen (fun y => some y) fun s25 =>
      Option.bind (rangeB (fun k93 s101 => Option.bind (Option.bind (idx l (k93 : Int)) fun x126 => Option.bind (portref2_versionAt x126 m) fun x147 => Option.bind (if x147.2 = true then (if (decide (age < (w64 (m - x147.1.at_)))) = true then (some true) else (Option.bind (portref2_LinksOf x147.1.body) fun x172 => Option.bind (slices_ContainsFunc_Lint_int x172 (fun y180 => portref2_StaleOf_1 y180 (⟨s25⟩ : (Fmap Int Bool)))) fun x181 => some x181)) else (some false)) fun s160 => Option.bind (if s160 = true then Option.bind (appendL 17592186044416 s101 ([x126.id_] : List Int)) fun x212 => some x212 else some s101) fun s196 => some s196) fun s117 => some (.nx s117)) l.length 0 ([] : (List Int))) fun o90 => o90.andThen (fun y => some y) fun s91 =>
      some (s91, 0)

/-- slices Equal int int -/
def slices_Equal_Lint_int (s1 : (List Int)) (s2 : (List Int)) : Option Bool :=
  if ((s1.length : Int) != (s2.length : Int)) = true then
    some false
  else
    Option.bind (rangeB (fun k9 _ => Option.bind (idx s1 (k9 : Int)) fun x29 => Option.bind (idx s2 (k9 : Int)) fun x33 => if (x29 != x33) = true then some (.rt false) else some (.nx ())) s1.length 0 ()) fun o6 => o6.andThen (fun y => some y) fun s7 =>
    some true

/-- porterslodge portlaw2 KnowStale -/
noncomputable def portlaw2_KnowStale (l : (List know_Article)) (m : Int) (age : Int) : Option Bool :=
  Option.bind (know_Stale l m age) fun x3 =>
  Option.bind (portref2_StaleOf l m age) fun x11 =>
  Option.bind (if (x3.2 == x11.2) = true then (Option.bind (slices_Equal_Lint_int x3.1 x11.1) fun x28 => some x28) else (some false)) fun s20 =>
  some s20

end Go.Proofs.YteoinebegjpodaaGreatDoor.M
