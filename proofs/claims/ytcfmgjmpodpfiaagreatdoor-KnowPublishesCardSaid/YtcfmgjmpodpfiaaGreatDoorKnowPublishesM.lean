/-
  Written by program (gen.py) from the IR of the dump: plain models of the functions.
-/
import Derived.Test.YtcfmgjmpodpfiaaGreatDoorPu
import Derived.Lib.Replace
import Derived.Lib.Split
import Derived.Test.YtcfmgjmpodpfiaaGreatDoorPr
import Derived.Shelf.GgClosure.StringsIndexFunc
namespace Go.Proofs.YtcfmgjmpodpfiaaGreatDoor.M
open Go Go.Pu
set_option linter.unusedVariables false
set_option linter.unusedSimpArgs false

structure know_Version where
  at_ : Int
  title : ByteArray
  body : ByteArray

structure know_Article where
  id_ : Int
  group : Int
  versions : (List know_Version)

/-- porterslodge know within -/
def know_within (n : Int) (low : Int) (high : Int) : Bool :=
  ((decide (low ≤ n)) && (decide (n ≤ high)))

/-- strings.genSplit -/
def strings_genSplit (s : ByteArray) (sep : ByteArray) (sepSave : Int) (n : Int) : Option (List ByteArray) :=
  if s.size < 4294967281 ∧ 1 ≤ sep.size ∧ 0 ≤ sepSave ∧ sepSave ≤ (sep.size : Int) ∧ n = -1 then some (Go.Lib.splitB sep sepSave.toNat (min (Go.Lib.countB s sep + 1) (s.size + 1) - 1) s) else none

/-- strings SplitAfter -/
def strings_SplitAfter (s : ByteArray) (sep : ByteArray) : Option (List ByteArray) :=
  Option.bind (strings_genSplit s sep (sep.size : Int) (-1)) fun x1 =>
  some x1

/-- porterslodge know lines -/
def know_lines (body : ByteArray) : Option (List ByteArray) :=
  Option.bind (strings_SplitAfter body (⟨#[10]⟩ : ByteArray)) fun x1 =>
  Option.bind (idx x1 (w64 ((x1.length : Int) - 1))) fun x7 =>
  Option.bind (if (strEq x7 (⟨#[]⟩ : ByteArray)) = true then Option.bind (sliceL x1 none (some (w64 ((x1.length : Int) - 1)))) fun x21 => some x21 else some x1) fun s12 =>
  some s12

/-- porterslodge know plain -/
noncomputable def know_plain (s : ByteArray) (feeds : Bool) : Option Bool :=
  Option.bind (whileB (fun s8 => if (decide (s8 < (s.size : Int))) = true then Option.bind (idxS s s8) fun x18 => Option.bind (if (decide ((x18.toNat : Int) < 32)) = true then (some true) else (some ((x18.toNat : Int) == 127))) fun s20 => Option.bind (if s20 = true then (some (((x18.toNat : Int) != 10) || (!feeds))) else (some false)) fun s22 => if s22 = true then some (.rt false) else some (.nx (w64 (s8 + 1))) else some (.bk s8)) 0) fun o1 => o1.andThen (fun y => some y) fun s2 =>
  some true

/-- porterslodge know checkText -/
noncomputable def know_checkText (title : ByteArray) (body : ByteArray) : Option Int :=
  if ((decide ((200 : Int) < (title.size : Int))) || (decide ((20000 : Int) < (body.size : Int)))) = true then
    some 4
  else
    Option.bind (know_plain title false) fun x4 =>
    Option.bind (if (!x4) = true then (some true) else (Option.bind (know_plain body true) fun x7 => some (!x7))) fun s6 =>
    if s6 = true then
      some 9
    else
      some 0

/-- porterslodge know checkVersion -/
noncomputable def know_checkVersion (v : know_Version) (before : Int) : Option Int :=
  if (!(know_within v.at_ 0 3000000)) = true then
    some 2
  else
    if (decide (v.at_ < before)) = true then
      some 5
    else
      Option.bind (if (decide ((v.body.size : Int) ≤ 20000)) = true then (Option.bind (know_lines v.body) fun x22 => some (decide ((2000 : Int) < (x22.length : Int)))) else (some false)) fun s12 =>
      if s12 = true then
        some 4
      else
        Option.bind (know_checkText v.title v.body) fun x33 =>
        if (x33 != 0) = true then
          some x33
        else
          if ((strEq v.title (⟨#[]⟩ : ByteArray)) && (!(strEq v.body (⟨#[]⟩ : ByteArray)))) = true then
            some 1
          else
            some 0

/-- porterslodge know CheckArticles -/
noncomputable def know_CheckArticles (l : (List know_Article)) : Option Int :=
  if (decide ((200 : Int) < (l.length : Int))) = true then
    some 4
  else
    Option.bind (rangeB (fun k7 _ => Option.bind (α := Lp _ _) (Option.bind (idx l (k7 : Int)) fun x35 => if (!(know_within x35.id_ 1 3000000)) = true then some (.rt 2) else Option.bind (if (decide ((0 : Int) < (k7 : Int))) = true then (Option.bind (idx l (w64 ((k7 : Int) - 1))) fun x58 => some (decide (x35.id_ ≤ x58.id_))) else (some false)) fun s56 => if s56 = true then some (.rt 5) else if (!(know_within x35.group 0 40)) = true then some (.rt 2) else if (!(know_within (x35.versions.length : Int) 1 40)) = true then some (.rt 4) else Option.bind (rangeB (fun k81 s87 => Option.bind (idx x35.versions (k81 : Int)) fun x100 => Option.bind (know_checkVersion x100 s87) fun x114 => if (x114 != 0) = true then some (.rt x114) else some (.nx x100.at_)) x35.versions.length 0 0) fun o78 => o78.andThen (fun y => some (.rt y)) fun s79 => some (.fin ())) fun o27 => o27.andThen (fun y => some (.rt y)) fun s28 => some (.nx ())) l.length 0 ()) fun o4 => o4.andThen (fun y => some y) fun s5 =>
    some 0

/-- slices Clone porterslodge know Article porterslodge know Article -/
def slices_Clone_Lknow_Article_know_Article (s : (List know_Article)) : Option (List know_Article) :=
  Option.bind (appendL 3518437208883 ([] : List know_Article) s) fun x8 =>
  some x8

/-- slices Clone porterslodge know Version porterslodge know Version -/
def slices_Clone_Lknow_Version_know_Version (s : (List know_Version)) : Option (List know_Version) :=
  Option.bind (appendL 3518437208883 ([] : List know_Version) s) fun x8 =>
  some x8

/-- slices BinarySearchFunc porterslodge know Article porterslodge know Article int -/
noncomputable def slices_BinarySearchFunc_Lknow_Article_know_Article_int (x : (List know_Article)) (target : Int) (cmp : know_Article → Int → Option Int) : Option (Int × Bool) :=
  Option.bind (whileB (fun s12 => if (decide (s12.1 < s12.2)) = true then Option.bind (Option.bind (shr .u64 (IntKind.wrap .u64 (w64 (s12.1 + s12.2))) 1) fun x32 => Option.bind (idx x (IntKind.wrap .i64 x32)) fun x33 => Option.bind (cmp x33 target) fun x40 => Option.bind (if (decide (x40 < 0)) = true then some (w64 ((IntKind.wrap .i64 x32) + 1), s12.2) else some (s12.1, IntKind.wrap .i64 x32)) fun s45 => some (s45.1, s45.2)) fun s25 => some (.nx (s25.1, s25.2)) else some (.bk (s12.1, s12.2))) (0, (x.length : Int))) fun o3 => o3.andThen (fun y => some y) fun s4 =>
  Option.bind (if (decide (s4.1 < (x.length : Int))) = true then (Option.bind (idx x s4.1) fun x66 => Option.bind (cmp x66 target) fun x73 => some (s4.1, x73 == 0)) else (some (s4.1, false))) fun s58 =>
  some (s58.1, s58.2)

/-- cmp isNaN int -/
def cmp_isNaN_int (x : Int) : Bool :=
  x != x

/-- cmp Compare int -/
def cmp_Compare_int (x : Int) (y : Int) : Int :=
  if (cmp_isNaN_int x) = true then
    if (cmp_isNaN_int y) = true then
      0
    else
      (-1)
  else
    if (cmp_isNaN_int y) = true then
      1
    else
      if (decide (x < y)) = true then
        (-1)
      else
        if (decide (y < x)) = true then
          1
        else
          0

/-- porterslodge know find 1 -/
def know_find_1 (a_ : know_Article) (id_ : Int) : Option Int :=
  some (cmp_Compare_int a_.id_ id_)

/-- porterslodge know find -/
noncomputable def know_find (l : (List know_Article)) (id_ : Int) : Option (Int × Bool) :=
  Option.bind (slices_BinarySearchFunc_Lknow_Article_know_Article_int l id_ (fun y3 y4 => know_find_1 y3 y4)) fun x5 =>
  some (x5.1, x5.2)

/-- slices.Insert, where there is something to insert -/
def slices_Insert_Lknow_Article_know_Article {α : Type} (l : List α) (k : Int) (vs : List α) : Option (List α) :=
  if 0 ≤ k ∧ k ≤ (l.length : Int) ∧ vs ≠ [] ∧ l.length + vs.length ≤ 3518437208883 then some (l.take k.toNat ++ vs ++ l.drop k.toNat) else none

/-- porterslodge know Publish -/
noncomputable def know_Publish (l : (List know_Article)) (id_ : Int) (v : know_Version) : Option ((List know_Article) × Int) :=
  Option.bind (know_CheckArticles l) fun x9 =>
  if (x9 != 0) = true then
    some (([] : (List know_Article)), x9)
  else
    if (!(know_within id_ 1 3000000)) = true then
      some (([] : (List know_Article)), 2)
    else
      Option.bind (slices_Clone_Lknow_Article_know_Article l) fun x15 =>
      Option.bind (rangeB (fun k25 s33 => Option.bind (idx s33 (k25 : Int)) fun x48 => Option.bind (slices_Clone_Lknow_Version_know_Version x48.versions) fun x57 => Option.bind (setI s33 (k25 : Int) ({ (x48 : know_Article) with versions := x57 })) fun x70 => some (.nx x70)) x15.length 0 x15) fun o22 => o22.andThen (fun y => some y) fun s23 =>
      Option.bind (know_find s23 id_) fun x77 =>
      Option.bind (if (!x77.2) = true then Option.bind (slices_Insert_Lknow_Article_know_Article s23 x77.1 ([(⟨id_, 0, ([] : (List know_Version))⟩ : know_Article)] : List know_Article)) fun x99 => some x99 else some s23) fun s82 =>
      Option.bind (idx s82 x77.1) fun x114 =>
      Option.bind (appendL 3518437208883 x114.versions ([v] : List know_Version)) fun x135 =>
      Option.bind (setI s82 x77.1 ({ (x114 : know_Article) with versions := x135 })) fun x148 =>
      Option.bind (know_CheckArticles x148) fun x152 =>
      if (x152 != 0) = true then
        some (([] : (List know_Article)), x152)
      else
        some (x148, 0)

/-- porterslodge portref2 IsMoment -/
def portref2_IsMoment (m : Int) : Bool :=
  ((decide ((0 : Int) ≤ m)) && (decide (m ≤ 3000000)))

/-- porterslodge portref2 bodyLines -/
def portref2_bodyLines (s : ByteArray) : Option (List ByteArray) :=
  Option.bind (strings_SplitAfter s (⟨#[10]⟩ : ByteArray)) fun x1 =>
  Option.bind (idx x1 (w64 ((x1.length : Int) - 1))) fun x7 =>
  Option.bind (if (strEq x7 (⟨#[]⟩ : ByteArray)) = true then Option.bind (sliceL x1 none (some (w64 ((x1.length : Int) - 1)))) fun x21 => some x21 else some x1) fun s12 =>
  some s12

/-- strings.ReplaceAll -/
def strings_ReplaceAll (s : ByteArray) (old : ByteArray) (new : ByteArray) : Option ByteArray :=
  if s.size < 4294967281 ∧ 1 ≤ old.size ∧ s.size + Go.Lib.countB s old * new.size ≤ 140737488355328 then some ⟨(Go.Lib.replaceAll s.data.toList old.data.toList new.data.toList).toArray⟩ else none

/-- porterslodge portref2 lowByte 1 -/
def portref2_lowByte_1 (r_ : Int) : Bool :=
  ((decide (r_ < 32)) || (r_ == 127))

/-- porterslodge portref2 lowByte -/
def portref2_lowByte (s : ByteArray) : Option Bool :=
  some (decide (0 ≤ Go.Lib.idxFunc (fun y => portref2_lowByte_1 (y : Int)) true s))

/-- porterslodge portref2 versionFault -/
def portref2_versionFault (v : know_Version) : Option Int :=
  Option.bind (if (decide ((200 : Int) < (v.title.size : Int))) = true then (if true = true then (some true) else (Option.bind (portref2_bodyLines v.body) fun x20 => some (decide ((2000 : Int) < (x20.length : Int))))) else (if (decide ((20000 : Int) < (v.body.size : Int))) = true then (some true) else (Option.bind (portref2_bodyLines v.body) fun x31 => some (decide ((2000 : Int) < (x31.length : Int)))))) fun s8 =>
  if s8 = true then
    some 4
  else
    Option.bind (Option.bind (portref2_lowByte v.title) fun x48 => if x48 = true then (some true) else (Option.bind (strings_ReplaceAll v.body (⟨#[10]⟩ : ByteArray) (⟨#[]⟩ : ByteArray)) fun x55 => Option.bind (portref2_lowByte x55) fun x59 => some x59)) fun s40 =>
    if s40 = true then
      some 9
    else
      if ((strEq v.title (⟨#[]⟩ : ByteArray)) && (!(strEq v.body (⟨#[]⟩ : ByteArray)))) = true then
        some 1
      else
        some 0

/-- porterslodge portref2 ArticlesFault -/
def portref2_ArticlesFault (l : (List know_Article)) : Option Int :=
  if (decide ((200 : Int) < (l.length : Int))) = true then
    some 4
  else
    Option.bind (rangeB (fun k7 _ => Option.bind (α := Lp _ _) (Option.bind (idx l (k7 : Int)) fun x35 => if ((decide (x35.id_ < 1)) || (decide ((3000000 : Int) < x35.id_))) = true then some (.rt 2) else Option.bind (if (decide ((0 : Int) < (k7 : Int))) = true then (Option.bind (idx l (w64 ((k7 : Int) - 1))) fun x61 => some (decide (x35.id_ ≤ x61.id_))) else (some false)) fun s59 => if s59 = true then some (.rt 5) else if ((decide (x35.group < 0)) || (decide ((40 : Int) < x35.group))) = true then some (.rt 2) else if ((decide ((x35.versions.length : Int) < 1)) || (decide ((40 : Int) < (x35.versions.length : Int)))) = true then some (.rt 4) else Option.bind (rangeB (fun k93 _ => Option.bind (idx x35.versions (k93 : Int)) fun x112 => if (!(portref2_IsMoment x112.at_)) = true then some (.rt 2) else Option.bind (if (decide ((0 : Int) < (k93 : Int))) = true then (Option.bind (idx x35.versions (w64 ((k93 : Int) - 1))) fun x134 => some (decide (x112.at_ < x134.at_))) else (some false)) fun s128 => if s128 = true then some (.rt 5) else Option.bind (portref2_versionFault x112) fun x144 => if (x144 != 0) = true then some (.rt x144) else some (.nx ())) x35.versions.length 0 ()) fun o90 => o90.andThen (fun y => some (.rt y)) fun s91 => some (.fin ())) fun o27 => o27.andThen (fun y => some (.rt y)) fun s28 => some (.nx ())) l.length 0 ()) fun o4 => o4.andThen (fun y => some y) fun s5 =>
    some 0

/-- slices IndexFunc porterslodge know Article porterslodge know Article -/
def slices_IndexFunc_Lknow_Article_know_Article (s : (List know_Article)) (f : know_Article → Option Bool) : Option Int :=
  Option.bind (rangeB (fun k6 _ => Option.bind (idx s (k6 : Int)) fun x25 => Option.bind (f x25) fun x32 => if x32 = true then some (.rt (k6 : Int)) else some (.nx ())) s.length 0 ()) fun o3 => o3.andThen (fun y => some y) fun s4 =>
  some (-1)

/-- porterslodge portref2 articleAt 1 -/
def portref2_articleAt_1 (a_ : know_Article) (p1 : Int) : Option Bool :=
  some (a_.id_ == p1)

/-- porterslodge portref2 articleAt -/
def portref2_articleAt (l : (List know_Article)) (id_ : Int) : Option Int :=
  Option.bind (slices_IndexFunc_Lknow_Article_know_Article l (fun y9 => portref2_articleAt_1 y9 id_)) fun x10 =>
  some x10

/-- porterslodge portref2 PublishOf 1 -/
def portref2_PublishOf_1 (a_ : know_Article) (b : know_Article) : Option Int :=
  some (cmp_Compare_int a_.id_ b.id_)

/-- porterslodge portref2 PublishOf -/
noncomputable def portref2_PublishOf (l : (List know_Article)) (id_ : Int) (v : know_Version) : Option ((List know_Article) × Int) :=
  Option.bind (portref2_ArticlesFault l) fun x9 =>
  if (x9 != 0) = true then
    some (([] : (List know_Article)), x9)
  else
    if ((decide (id_ < 1)) || (decide ((3000000 : Int) < id_))) = true then
      some (([] : (List know_Article)), 2)
    else
      Option.bind (slices_Clone_Lknow_Article_know_Article l) fun x17 =>
      Option.bind (portref2_articleAt l id_) fun x24 =>
      Option.bind (if (decide ((0 : Int) ≤ x24)) = true then Option.bind (idx l x24) fun x42 => Option.bind (slices_Clone_Lknow_Version_know_Version x42.versions) fun x89 => Option.bind (appendL 3518437208883 x89 ([v] : List know_Version)) fun x102 => Option.bind (idx x17 x24) fun x108 => Option.bind (setI x17 x24 ({ (x108 : know_Article) with versions := x102 })) fun x119 => some x119 else Option.bind (appendL 3518437208883 x17 ([(⟨id_, 0, ([v] : List know_Version)⟩ : know_Article)] : List know_Article)) fun x144 => Option.bind (sortFuncL (fun y154 y155 => portref2_PublishOf_1 y154 y155) x144) fun x150 => some x150) fun s29 =>
      Option.bind (portref2_ArticlesFault s29) fun x172 =>
      if (x172 != 0) = true then
        some (([] : (List know_Article)), x172)
      else
        some (s29, 0)

/-- porterslodge know Revert -/
noncomputable def know_Revert (l : (List know_Article)) (id_ : Int) (number : Int) (m : Int) : Option ((List know_Article) × Int) :=
  Option.bind (know_CheckArticles l) fun x3 =>
  if (x3 != 0) = true then
    some (([] : (List know_Article)), x3)
  else
    Option.bind (know_find l id_) fun x8 =>
    Option.bind (if (!x8.2) = true then (some true) else (Option.bind (idx l x8.1) fun x14 => some (!(know_within number 0 (w64 ((x14.versions.length : Int) - 1)))))) fun s13 =>
    if s13 = true then
      some (([] : (List know_Article)), 7)
    else
      Option.bind (idx l x8.1) fun x23 =>
      Option.bind (idx x23.versions number) fun x31 =>
      Option.bind (know_Publish l id_ (⟨m, x31.title, x31.body⟩ : know_Version)) fun x47 =>
      some (x47.1, x47.2)

/-- porterslodge portref2 RevertOf -/
noncomputable def portref2_RevertOf (l : (List know_Article)) (id_ : Int) (number : Int) (m : Int) : Option ((List know_Article) × Int) :=
  Option.bind (portref2_ArticlesFault l) fun x3 =>
  if (x3 != 0) = true then
    some (([] : (List know_Article)), x3)
  else
    Option.bind (portref2_articleAt l id_) fun x8 =>
    Option.bind (if ((decide (x8 < 0)) || (decide (number < 0))) = true then (some true) else (Option.bind (idx l x8) fun x16 => some (decide ((x16.versions.length : Int) ≤ number)))) fun s15 =>
    if s15 = true then
      some (([] : (List know_Article)), 7)
    else
      Option.bind (idx l x8) fun x25 =>
      Option.bind (idx x25.versions number) fun x33 =>
      Option.bind (portref2_PublishOf l id_ (⟨m, x33.title, x33.body⟩ : know_Version)) fun x49 =>
      some (x49.1, x49.2)

/-- slices EqualFunc porterslodge know Article porterslodge know Article porterslodge know Article porterslodge know Article -/
def slices_EqualFunc_Lknow_Article_Lknow_Article_know_Article_know_Article (s1 : (List know_Article)) (s2 : (List know_Article)) (eq : know_Article → know_Article → Option Bool) : Option Bool :=
  if ((s1.length : Int) != (s2.length : Int)) = true then
    some false
  else
    Option.bind (rangeB (fun k9 _ => Option.bind (idx s1 (k9 : Int)) fun x29 => Option.bind (idx s2 (k9 : Int)) fun x47 => Option.bind (eq x29 x47) fun x71 => if (!x71) = true then some (.rt false) else some (.nx ())) s1.length 0 ()) fun o6 => o6.andThen (fun y => some y) fun s7 =>
    some true

/-- slices Equal porterslodge know Version porterslodge know Version -/
def slices_Equal_Lknow_Version_know_Version (s1 : (List know_Version)) (s2 : (List know_Version)) : Option Bool :=
  if ((s1.length : Int) != (s2.length : Int)) = true then
    some false
  else
    Option.bind (rangeB (fun k9 _ => Option.bind (idx s1 (k9 : Int)) fun x29 => Option.bind (idx s2 (k9 : Int)) fun x34 => if (!(x29.at_ == x34.at_ && (strEq x29.title x34.title && (strEq x29.body x34.body)))) = true then some (.rt false) else some (.nx ())) s1.length 0 ()) fun o6 => o6.andThen (fun y => some y) fun s7 =>
    some true

/-- porterslodge portref2 Alike 2 -/
def portref2_Alike_2 (a_ : know_Article) (b : know_Article) : Option Bool :=
  Option.bind (if (a_.id_ == b.id_) = true then (if (a_.group == b.group) = true then (Option.bind (slices_Equal_Lknow_Version_know_Version a_.versions b.versions) fun x39 => some x39) else (some false)) else (if false = true then (Option.bind (slices_Equal_Lknow_Version_know_Version a_.versions b.versions) fun x54 => some x54) else (some false))) fun s18 =>
  some s18

/-- porterslodge portref2 Alike -/
def portref2_Alike (a_ : (List know_Article)) (b : (List know_Article)) : Option Bool :=
  Option.bind (if true = true then (Option.bind (slices_EqualFunc_Lknow_Article_Lknow_Article_know_Article_know_Article a_ b (fun y15 y16 => portref2_Alike_2 y15 y16)) fun x17 => some x17) else (some false)) fun s6 =>
  some s6

/-- porterslodge portlaw2 KnowPublishes -/
noncomputable def portlaw2_KnowPublishes (l : (List know_Article)) (id_ : Int) (number : Int) (m : Int) (v : know_Version) : Option Bool :=
  Option.bind (know_Publish l id_ v) fun x10 =>
  Option.bind (portref2_PublishOf l id_ v) fun x17 =>
  Option.bind (know_Revert l id_ number m) fun x24 =>
  Option.bind (portref2_RevertOf l id_ number m) fun x30 =>
  Option.bind (if (x10.2 == x17.2) = true then (if (x24.2 == x30.2) = true then (Option.bind (portref2_Alike x10.1 x17.1) fun x57 => if x57 = true then (Option.bind (portref2_Alike x24.1 x30.1) fun x62 => some x62) else (some false)) else (if false = true then (Option.bind (portref2_Alike x24.1 x30.1) fun x69 => some x69) else (some false))) else (if false = true then (Option.bind (portref2_Alike x10.1 x17.1) fun x76 => if x76 = true then (Option.bind (portref2_Alike x24.1 x30.1) fun x81 => some x81) else (some false)) else (if false = true then (Option.bind (portref2_Alike x24.1 x30.1) fun x88 => some x88) else (some false)))) fun s48 =>
  some s48

end Go.Proofs.YtcfmgjmpodpfiaaGreatDoor.M
