/-
  Written by program (gen.py) from the IR of the dump: plain models of the functions.
-/
import Derived.Test.YtcokjipcmpfgbaaDoorPu
import Derived.Lib.Replace
import Derived.Lib.Split
import Derived.Shelf.GgClosure.StringsIndexFunc
namespace Go.Proofs.YtcokjipcmpfgbaaDoor.M
open Go Go.Pu
set_option linter.unusedVariables false
set_option linter.unusedSimpArgs false

structure know_Version where
  at_ : Int
  title : ByteArray
  body : ByteArray

structure know_Article where
  id : Int
  group : Int
  versions : (List know_Version)

structure know_Entry where
  id : Int
  title : ByteArray
  body : ByteArray

/-- porterslodge know within -/
def know_within (n : Int) (low : Int) (high : Int) : Bool :=
  ((decide (low ≤ n)) && (decide (n ≤ high)))

/-- strings.genSplit -/
def strings_genSplit (s : ByteArray) (sep : ByteArray) (sepSave : Int) (n : Int) : Option (List ByteArray) :=
  if s.size < 4294967281 ∧ 1 ≤ sep.size ∧ 0 ≤ sepSave ∧ sepSave ≤ (sep.size : Int) ∧ n = -1 then some (Go.Lib.splitB sep sepSave.toNat (min (Go.Lib.countB s sep + 1) (s.size + 1) - 1) s) else none

/-- strings SplitAfter -/
def strings_SplitAfter (s : ByteArray) (sep : ByteArray) : Option (List ByteArray) :=
  Option.bind (strings_genSplit s sep (sep.size : Int) (-1)) fun x1 =>
  some x1

/-- porterslodge know lines -/
def know_lines (body : ByteArray) : Option (List ByteArray) :=
  Option.bind (strings_SplitAfter body (⟨#[10]⟩ : ByteArray)) fun x1 =>
  Option.bind (idx x1 (w64 ((x1.length : Int) - 1))) fun x7 =>
  Option.bind (if (strEq x7 (⟨#[]⟩ : ByteArray)) = true then Option.bind (sliceL x1 none (some (w64 ((x1.length : Int) - 1)))) fun x21 => some x21 else some x1) fun s12 =>
  some s12

/-- porterslodge know plain -/
noncomputable def know_plain (s : ByteArray) (feeds : Bool) : Option Bool :=
  Option.bind (whileB (fun s8 => if (decide (s8 < (s.size : Int))) = true then Option.bind (idxS s s8) fun x18 => Option.bind (if (decide ((x18.toNat : Int) < 32)) = true then (some true) else (some ((x18.toNat : Int) == 127))) fun s20 => Option.bind (if s20 = true then (some (((x18.toNat : Int) != 10) || (!feeds))) else (some false)) fun s22 => if s22 = true then some (.rt false) else some (.nx (w64 (s8 + 1))) else some (.bk s8)) 0) fun o1 => o1.andThen (fun y => some y) fun s2 =>
  some true

/-- porterslodge know checkText -/
noncomputable def know_checkText (title : ByteArray) (body : ByteArray) : Option Int :=
  if ((decide ((200 : Int) < (title.size : Int))) || (decide ((20000 : Int) < (body.size : Int)))) = true then
    some 4
  else
    Option.bind (know_plain title false) fun x4 =>
    Option.bind (if (!x4) = true then (some true) else (Option.bind (know_plain body true) fun x7 => some (!x7))) fun s6 =>
    if s6 = true then
      some 9
    else
      some 0

/-- porterslodge know checkVersion -/
noncomputable def know_checkVersion (v : know_Version) (before : Int) : Option Int :=
  if (!(know_within v.at_ 0 3000000)) = true then
    some 2
  else
    if (decide (v.at_ < before)) = true then
      some 5
    else
      Option.bind (if (decide ((v.body.size : Int) ≤ 20000)) = true then (Option.bind (know_lines v.body) fun x22 => some (decide ((2000 : Int) < (x22.length : Int)))) else (some false)) fun s12 =>
      if s12 = true then
        some 4
      else
        Option.bind (know_checkText v.title v.body) fun x33 =>
        if (x33 != 0) = true then
          some x33
        else
          if ((strEq v.title (⟨#[]⟩ : ByteArray)) && (!(strEq v.body (⟨#[]⟩ : ByteArray)))) = true then
            some 1
          else
            some 0

/-- porterslodge know CheckArticles -/
noncomputable def know_CheckArticles (l : (List know_Article)) : Option Int :=
  if (decide ((200 : Int) < (l.length : Int))) = true then
    some 4
  else
    Option.bind (rangeB (fun k7 _ => Option.bind (α := Lp _ _) (Option.bind (idx l (k7 : Int)) fun x35 => if (!(know_within x35.id 1 3000000)) = true then some (.rt 2) else Option.bind (if (decide ((0 : Int) < (k7 : Int))) = true then (Option.bind (idx l (w64 ((k7 : Int) - 1))) fun x58 => some (decide (x35.id ≤ x58.id))) else (some false)) fun s56 => if s56 = true then some (.rt 5) else if (!(know_within x35.group 0 40)) = true then some (.rt 2) else if (!(know_within (x35.versions.length : Int) 1 40)) = true then some (.rt 4) else Option.bind (rangeB (fun k81 s87 => Option.bind (idx x35.versions (k81 : Int)) fun x100 => Option.bind (know_checkVersion x100 s87) fun x114 => if (x114 != 0) = true then some (.rt x114) else some (.nx x100.at_)) x35.versions.length 0 0) fun o78 => o78.andThen (fun y => some (.rt y)) fun s79 => some (.fin ())) fun o27 => o27.andThen (fun y => some (.rt y)) fun s28 => some (.nx ())) l.length 0 ()) fun o4 => o4.andThen (fun y => some y) fun s5 =>
    some 0

/-- porterslodge know current -/
def know_current (l : (List know_Article)) (m : Int) (wanted : Int → Option Bool) : Option ((List know_Entry) × (List know_Version)) :=
  Option.bind (rangeB (fun k6 s16 => Option.bind (Option.bind (idx l (k6 : Int)) fun x45 => Option.bind (rangeB (R := Empty) (fun k70 s76 => Option.bind (Option.bind (idx x45.versions (k70 : Int)) fun x97 => Option.bind (if (decide (x97.at_ ≤ m)) = true then some (k70 : Int) else some s76) fun s112 => some s112) fun s90 => some (.nx s90)) x45.versions.length 0 (-1)) fun o67 => o67.andThen (fun y => y.elim) fun s68 => Option.bind (wanted x45.group) fun x125 => Option.bind (if ((!x125) || (decide (s68 < 0))) = true then (some true) else (Option.bind (idx x45.versions s68) fun x137 => some (strEq x137.title (⟨#[]⟩ : ByteArray)))) fun s132 => if s132 = true then some (s16.1, s16.2) else Option.bind (idx x45.versions s68) fun x148 => Option.bind (appendL 3518437208883 s16.1 ([(⟨x45.id, x148.title, x148.body⟩ : know_Entry)] : List know_Entry)) fun x169 => Option.bind (appendL 3518437208883 s16.2 ([x148] : List know_Version)) fun x181 => some (x169, x181)) fun s34 => some (.nx (s34.1, s34.2))) l.length 0 (([] : (List know_Entry)), ([] : (List know_Version)))) fun o3 => o3.andThen (fun y => some y) fun s4 =>
  some (s4.1, s4.2)

/-- slices Index int int -/
def slices_Index_Lint_int (s : (List Int)) (v : Int) : Option Int :=
  Option.bind (rangeB (fun k6 _ => Option.bind (idx s (k6 : Int)) fun x21 => if (v == x21) = true then some (.rt (k6 : Int)) else some (.nx ())) s.length 0 ()) fun o3 => o3.andThen (fun y => some y) fun s4 =>
  some (-1)

/-- slices Contains int int -/
def slices_Contains_Lint_int (s : (List Int)) (v : Int) : Option Bool :=
  Option.bind (slices_Index_Lint_int s v) fun x3 =>
  some (decide ((0 : Int) ≤ x3))

/-- porterslodge know Current 1 -/
def know_Current_1 (group : Int) (p1 : (List Int)) : Option Bool :=
  Option.bind (slices_Contains_Lint_int p1 group) fun x4 =>
  some x4

/-- porterslodge know Current -/
noncomputable def know_Current (l : (List know_Article)) (groups : (List Int)) (m : Int) : Option ((List know_Entry) × Int) :=
  Option.bind (know_CheckArticles l) fun x14 =>
  if (x14 != 0) = true then
    some (([] : (List know_Entry)), x14)
  else
    if (!(know_within m 0 3000000)) = true then
      some (([] : (List know_Entry)), 2)
    else
      if (decide ((41 : Int) < (groups.length : Int))) = true then
        some (([] : (List know_Entry)), 4)
      else
        Option.bind (know_current l m (fun y24 => know_Current_1 y24 groups)) fun x25 =>
        some (x25.1, 0)

/-- porterslodge portref2 IsMoment -/
def portref2_IsMoment (m : Int) : Bool :=
  ((decide ((0 : Int) ≤ m)) && (decide (m ≤ 3000000)))

/-- porterslodge portref2 bodyLines -/
def portref2_bodyLines (s : ByteArray) : Option (List ByteArray) :=
  Option.bind (strings_SplitAfter s (⟨#[10]⟩ : ByteArray)) fun x1 =>
  Option.bind (idx x1 (w64 ((x1.length : Int) - 1))) fun x7 =>
  Option.bind (if (strEq x7 (⟨#[]⟩ : ByteArray)) = true then Option.bind (sliceL x1 none (some (w64 ((x1.length : Int) - 1)))) fun x21 => some x21 else some x1) fun s12 =>
  some s12

/-- strings.ReplaceAll -/
def strings_ReplaceAll (s : ByteArray) (old : ByteArray) (new : ByteArray) : Option ByteArray :=
  if s.size < 4294967281 ∧ 1 ≤ old.size ∧ s.size + Go.Lib.countB s old * new.size ≤ 140737488355328 then some ⟨(Go.Lib.replaceAll s.data.toList old.data.toList new.data.toList).toArray⟩ else none

/-- porterslodge portref2 lowByte 1 -/
def portref2_lowByte_1 (r_ : Int) : Bool :=
  ((decide (r_ < 32)) || (r_ == 127))

/-- porterslodge portref2 lowByte -/
def portref2_lowByte (s : ByteArray) : Option Bool :=
  some (decide (0 ≤ Go.Lib.idxFunc (fun y => portref2_lowByte_1 (y : Int)) true s))

/-- porterslodge portref2 versionFault -/
def portref2_versionFault (v : know_Version) : Option Int :=
  Option.bind (if (decide ((200 : Int) < (v.title.size : Int))) = true then (if true = true then (some true) else (Option.bind (portref2_bodyLines v.body) fun x20 => some (decide ((2000 : Int) < (x20.length : Int))))) else (if (decide ((20000 : Int) < (v.body.size : Int))) = true then (some true) else (Option.bind (portref2_bodyLines v.body) fun x31 => some (decide ((2000 : Int) < (x31.length : Int)))))) fun s8 =>
  if s8 = true then
    some 4
  else
    Option.bind (Option.bind (portref2_lowByte v.title) fun x48 => if x48 = true then (some true) else (Option.bind (strings_ReplaceAll v.body (⟨#[10]⟩ : ByteArray) (⟨#[]⟩ : ByteArray)) fun x55 => Option.bind (portref2_lowByte x55) fun x59 => some x59)) fun s40 =>
    if s40 = true then
      some 9
    else
      if ((strEq v.title (⟨#[]⟩ : ByteArray)) && (!(strEq v.body (⟨#[]⟩ : ByteArray)))) = true then
        some 1
      else
        some 0

/-- porterslodge portref2 ArticlesFault -/
def portref2_ArticlesFault (l : (List know_Article)) : Option Int :=
  if (decide ((200 : Int) < (l.length : Int))) = true then
    some 4
  else
    Option.bind (rangeB (fun k7 _ => Option.bind (α := Lp _ _) (Option.bind (idx l (k7 : Int)) fun x35 => if ((decide (x35.id < 1)) || (decide ((3000000 : Int) < x35.id))) = true then some (.rt 2) else Option.bind (if (decide ((0 : Int) < (k7 : Int))) = true then (Option.bind (idx l (w64 ((k7 : Int) - 1))) fun x61 => some (decide (x35.id ≤ x61.id))) else (some false)) fun s59 => if s59 = true then some (.rt 5) else if ((decide (x35.group < 0)) || (decide ((40 : Int) < x35.group))) = true then some (.rt 2) else if ((decide ((x35.versions.length : Int) < 1)) || (decide ((40 : Int) < (x35.versions.length : Int)))) = true then some (.rt 4) else Option.bind (rangeB (fun k93 _ => Option.bind (idx x35.versions (k93 : Int)) fun x112 => if (!(portref2_IsMoment x112.at_)) = true then some (.rt 2) else Option.bind (if (decide ((0 : Int) < (k93 : Int))) = true then (Option.bind (idx x35.versions (w64 ((k93 : Int) - 1))) fun x134 => some (decide (x112.at_ < x134.at_))) else (some false)) fun s128 => if s128 = true then some (.rt 5) else Option.bind (portref2_versionFault x112) fun x144 => if (x144 != 0) = true then some (.rt x144) else some (.nx ())) x35.versions.length 0 ()) fun o90 => o90.andThen (fun y => some (.rt y)) fun s91 => some (.fin ())) fun o27 => o27.andThen (fun y => some (.rt y)) fun s28 => some (.nx ())) l.length 0 ()) fun o4 => o4.andThen (fun y => some y) fun s5 =>
    some 0

/-- porterslodge portref2 versionAt -/
def portref2_versionAt (a_ : know_Article) (m : Int) : Option (know_Version × Bool) :=
  Option.bind (rangeB (fun k26 s32 => Option.bind (Option.bind (idx a_.versions (k26 : Int)) fun x53 => Option.bind (if (decide (x53.at_ ≤ m)) = true then some (true, x53) else some (s32.1, s32.2)) fun s68 => some (s68.1, s68.2)) fun s46 => some (.nx (s46.1, s46.2))) a_.versions.length 0 (false, (⟨0, ByteArray.empty, ByteArray.empty⟩ : know_Version))) fun o23 => o23.andThen (fun y => some y) fun s24 =>
  if s24.1 = true then (some (s24.2, !(strEq s24.2.title (⟨#[]⟩ : ByteArray)))) else (some (s24.2, false))

/-- porterslodge portref2 CurrentOf -/
def portref2_CurrentOf (l : (List know_Article)) (groups : (List Int)) (m : Int) : Option ((List know_Entry) × Int) :=
  Option.bind (portref2_ArticlesFault l) fun x5 =>
  if (x5 != 0) = true then
    some (([] : (List know_Entry)), x5)
  else
    if (!(portref2_IsMoment m)) = true then
      some (([] : (List know_Entry)), 2)
    else
      if (decide ((41 : Int) < (groups.length : Int))) = true then
        some (([] : (List know_Entry)), 4)
      else
        Option.bind (rangeB (fun k15 s24 => Option.bind (Option.bind (idx l (k15 : Int)) fun x49 => Option.bind (portref2_versionAt x49 m) fun x70 => Option.bind (if x70.2 = true then (Option.bind (slices_Contains_Lint_int groups x49.group) fun x85 => some x85) else (some false)) fun s83 => Option.bind (if s83 = true then Option.bind (appendL 3518437208883 s24 ([(⟨x49.id, x70.1.title, x70.1.body⟩ : know_Entry)] : List know_Entry)) fun x105 => some x105 else some s24) fun s87 => some s87) fun s40 => some (.nx s40)) l.length 0 ([] : (List know_Entry))) fun o12 => o12.andThen (fun y => some y) fun s13 =>
        some (s13, 0)

/-- slices Equal porterslodge know Entry porterslodge know Entry -/
def slices_Equal_Lknow_Entry_know_Entry (s1 : (List know_Entry)) (s2 : (List know_Entry)) : Option Bool :=
  if ((s1.length : Int) != (s2.length : Int)) = true then
    some false
  else
    Option.bind (rangeB (fun k9 _ => Option.bind (idx s1 (k9 : Int)) fun x29 => Option.bind (idx s2 (k9 : Int)) fun x34 => if (!(x29.id == x34.id && (strEq x29.title x34.title && (strEq x29.body x34.body)))) = true then some (.rt false) else some (.nx ())) s1.length 0 ()) fun o6 => o6.andThen (fun y => some y) fun s7 =>
    some true

/-- porterslodge portlaw2 KnowChecks -/
noncomputable def portlaw2_KnowChecks (l : (List know_Article)) (groups : (List Int)) (m : Int) : Option Bool :=
  Option.bind (know_Current l groups m) fun x5 =>
  Option.bind (portref2_CurrentOf l groups m) fun x12 =>
  Option.bind (if (x5.2 == x12.2) = true then (Option.bind (slices_Equal_Lknow_Entry_know_Entry x5.1 x12.1) fun x29 => if x29 = true then (Option.bind (know_CheckArticles l) fun x34 => Option.bind (portref2_ArticlesFault l) fun x38 => some (x34 == x38)) else (some false)) else (if false = true then (Option.bind (know_CheckArticles l) fun x45 => Option.bind (portref2_ArticlesFault l) fun x49 => some (x45 == x49)) else (some false))) fun s21 =>
  some s21

end Go.Proofs.YtcokjipcmpfgbaaDoor.M
