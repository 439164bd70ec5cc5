/-
  Written by program (gen.py) from the IR of the dump: plain models of the functions.
-/
import Derived.Test.YtcokjipcmpfgbaaDoorPu
import Derived.Lib.Index
import Derived.Lib.Join
import Derived.Lib.Split
namespace Go.Proofs.YtcokjipcmpfgbaaDoor.M
open Go Go.Pu
set_option linter.unusedVariables false
set_option linter.unusedSimpArgs false

structure know_Edit where
  at_ : Int
  drop : Int
  add : (List ByteArray)

/-- strings.genSplit -/
def strings_genSplit (s : ByteArray) (sep : ByteArray) (sepSave : Int) (n : Int) : Option (List ByteArray) :=
  if s.size < 4294967281 ∧ 1 ≤ sep.size ∧ 0 ≤ sepSave ∧ sepSave ≤ (sep.size : Int) ∧ n = -1 then some (Go.Lib.splitB sep sepSave.toNat (min (Go.Lib.countB s sep + 1) (s.size + 1) - 1) s) else none

/-- strings SplitAfter -/
def strings_SplitAfter (s : ByteArray) (sep : ByteArray) : Option (List ByteArray) :=
  Option.bind (strings_genSplit s sep (sep.size : Int) (-1)) fun x1 =>
  some x1

/-- porterslodge know lines -/
def know_lines (body : ByteArray) : Option (List ByteArray) :=
  Option.bind (strings_SplitAfter body (⟨#[10]⟩ : ByteArray)) fun x1 =>
  Option.bind (idx x1 (w64 ((x1.length : Int) - 1))) fun x7 =>
  Option.bind (if (strEq x7 (⟨#[]⟩ : ByteArray)) = true then Option.bind (sliceL x1 none (some (w64 ((x1.length : Int) - 1)))) fun x21 => some x21 else some x1) fun s12 =>
  some s12

/-- porterslodge know checkBody -/
def know_checkBody (s : ByteArray) : Option Int :=
  Option.bind (if (decide ((20000 : Int) < (s.size : Int))) = true then (some true) else (Option.bind (know_lines s) fun x11 => some (decide ((2000 : Int) < (x11.length : Int))))) fun s2 =>
  if s2 = true then
    some 4
  else
    some 0

/-- porterslodge know within -/
def know_within (n : Int) (low : Int) (high : Int) : Bool :=
  ((decide (low ≤ n)) && (decide (n ≤ high)))

/-- internal stringslite IndexByte -/
def internal_stringslite_IndexByte (s : ByteArray) (c : Int) : Int :=
  (indexByteS s c)

/-- strings IndexByte -/
def strings_IndexByte (s : ByteArray) (c : Int) : Int :=
  (internal_stringslite_IndexByte s c)

/-- porterslodge know checkEdit -/
def know_checkEdit (x : know_Edit) (before : Option know_Edit) (many : Int) : Option Int :=
  if ((!(know_within x.at_ 0 many)) || (!(know_within x.drop 0 (w64 (many - x.at_))))) = true then
    some 2
  else
    Option.bind (if before.isSome = true then (Option.bind (before) fun x18 => some (decide (x.at_ ≤ (w64 (x18.at_ + x18.drop))))) else (some false)) fun s16 =>
    if s16 = true then
      some 5
    else
      if ((x.drop == 0) && ((x.add.length : Int) == 0)) = true then
        some 1
      else
        Option.bind (rangeB (fun k48 _ => Option.bind (idx x.add (k48 : Int)) fun x63 => if ((strEq x63 (⟨#[]⟩ : ByteArray)) || ((decide ((0 : Int) ≤ (strings_IndexByte x63 10))) && (decide ((strings_IndexByte x63 10) < (w64 ((x63.size : Int) - 1)))))) = true then some (.rt 1) else some (.nx ())) x.add.length 0 ()) fun o45 => o45.andThen (fun y => some y) fun s46 =>
        some 0

/-- internal stringslite HasSuffix -/
def internal_stringslite_HasSuffix (s : ByteArray) (suffix : ByteArray) : Option Bool :=
  Option.bind (if (decide ((suffix.size : Int) ≤ (s.size : Int))) = true then (Option.bind (sliceS s (some (w64 ((s.size : Int) - (suffix.size : Int)))) none) fun x3 => some (strEq x3 suffix)) else (some false)) fun s2 =>
  some s2

/-- strings HasSuffix -/
def strings_HasSuffix (s : ByteArray) (suffix : ByteArray) : Option Bool :=
  Option.bind (internal_stringslite_HasSuffix s suffix) fun x1 =>
  some x1

/-- strings.Join -/
def strings_Join (elems : List ByteArray) (sep : ByteArray) : Option ByteArray :=
  if elems.length ≤ 140737488355328 ∧ (Go.Lib.join (elems.map (·.data.toList)) sep.data.toList).length ≤ 140737488355328 then some ⟨(Go.Lib.join (elems.map (·.data.toList)) sep.data.toList).toArray⟩ else none

/-- porterslodge know Patch -/
def know_Patch (a_ : ByteArray) (l : (List know_Edit)) : Option (ByteArray × Int) :=
  Option.bind (know_checkBody a_) fun x3 =>
  if (x3 != 0) = true then
    some ((⟨#[]⟩ : ByteArray), x3)
  else
    Option.bind (know_lines a_) fun x8 =>
    Option.bind (rangeB (fun k17 s25 => Option.bind (idx l (k17 : Int)) fun x40 => Option.bind (if (decide ((0 : Int) < (k17 : Int))) = true then Option.bind (idx l (w64 ((k17 : Int) - 1))) fun x65 => some (w64 ((k17 : Int) - 1)) else some (-1)) fun s59 => Option.bind (optE l s59) fun x71 => Option.bind (know_checkEdit x40 x71 (x8.length : Int)) fun x73 => if (x73 != 0) = true then some (.rt ((⟨#[]⟩ : ByteArray), x73)) else Option.bind (sliceL x8 (some s25.2) (some x40.at_)) fun x79 => Option.bind (appendL 8796093022208 s25.1 x79) fun x82 => Option.bind (appendL 8796093022208 x82 x40.add) fun x92 => some (.nx (x92, w64 (x40.at_ + x40.drop)))) l.length 0 (([] : (List ByteArray)), 0)) fun o14 => o14.andThen (fun y => some y) fun s15 =>
    Option.bind (sliceL x8 (some s15.2) none) fun x103 =>
    Option.bind (appendL 8796093022208 s15.1 x103) fun x106 =>
    Option.bind (rangeB (fun k115 s119 => Option.bind (idx x106 (k115 : Int)) fun x130 => Option.bind (if (decide ((k115 : Int) < (w64 ((x106.length : Int) - 1)))) = true then (Option.bind (strings_HasSuffix x130 (⟨#[10]⟩ : ByteArray)) fun x137 => some (!x137)) else (some false)) fun s136 => if s136 = true then some (.rt ((⟨#[]⟩ : ByteArray), 1)) else some (.nx (w64 (s119 + (x130.size : Int))))) x106.length 0 0) fun o112 => o112.andThen (fun y => some y) fun s113 =>
    if ((decide ((20000 : Int) < s113)) || (decide ((2000 : Int) < (x106.length : Int)))) = true then
      some ((⟨#[]⟩ : ByteArray), 4)
    else
      Option.bind (strings_Join x106 (⟨#[]⟩ : ByteArray)) fun x145 =>
      some (x145, 0)

/-- porterslodge portref2 bodyLines -/
def portref2_bodyLines (s : ByteArray) : Option (List ByteArray) :=
  Option.bind (strings_SplitAfter s (⟨#[10]⟩ : ByteArray)) fun x1 =>
  Option.bind (idx x1 (w64 ((x1.length : Int) - 1))) fun x7 =>
  Option.bind (if (strEq x7 (⟨#[]⟩ : ByteArray)) = true then Option.bind (sliceL x1 none (some (w64 ((x1.length : Int) - 1)))) fun x21 => some x21 else some x1) fun s12 =>
  some s12

/-- porterslodge portref2 bodyFault -/
def portref2_bodyFault (s : ByteArray) : Option Int :=
  Option.bind (if (decide ((20000 : Int) < (s.size : Int))) = true then (some true) else (Option.bind (portref2_bodyLines s) fun x11 => some (decide ((2000 : Int) < (x11.length : Int))))) fun s2 =>
  if s2 = true then
    some 4
  else
    some 0

/-- internal stringslite TrimSuffix -/
def internal_stringslite_TrimSuffix (s : ByteArray) (suffix : ByteArray) : Option ByteArray :=
  Option.bind (internal_stringslite_HasSuffix s suffix) fun x1 =>
  if x1 = true then
    Option.bind (sliceS s none (some (w64 ((s.size : Int) - (suffix.size : Int))))) fun x3 =>
    some x3
  else
    some s

/-- strings TrimSuffix -/
def strings_TrimSuffix (s : ByteArray) (suffix : ByteArray) : Option ByteArray :=
  Option.bind (internal_stringslite_TrimSuffix s suffix) fun x1 =>
  some x1

/-- strings.Contains -/
def strings_Contains (s : ByteArray) (substr : ByteArray) : Option Bool :=
  match substr.data.toList with
  | [c] => some (decide (0 ≤ Go.Lib.indexByte s.data.toList c))
  | _ => none

/-- porterslodge portref2 PatchOf -/
def portref2_PatchOf (a_ : ByteArray) (l : (List know_Edit)) : Option (ByteArray × Int) :=
  Option.bind (portref2_bodyFault a_) fun x3 =>
  if (x3 != 0) = true then
    some ((⟨#[]⟩ : ByteArray), x3)
  else
    Option.bind (portref2_bodyLines a_) fun x8 =>
    Option.bind (rangeB (fun k17 s25 => Option.bind (idx l (k17 : Int)) fun x40 => if ((((decide (x40.at_ < 0)) || (decide ((x8.length : Int) < x40.at_))) || (decide (x40.drop < 0))) || (decide ((w64 ((x8.length : Int) - x40.at_)) < x40.drop))) = true then some (.rt ((⟨#[]⟩ : ByteArray), 2)) else Option.bind (if (decide ((0 : Int) < (k17 : Int))) = true then (Option.bind (idx l (w64 ((k17 : Int) - 1))) fun x73 => some (decide (x40.at_ ≤ (w64 (x73.at_ + x73.drop))))) else (some false)) fun s71 => if s71 = true then some (.rt ((⟨#[]⟩ : ByteArray), 5)) else if ((x40.drop == 0) && ((x40.add.length : Int) == 0)) = true then some (.rt ((⟨#[]⟩ : ByteArray), 1)) else Option.bind (rangeB (fun k101 _ => Option.bind (idx x40.add (k101 : Int)) fun x120 => Option.bind (if (strEq x120 (⟨#[]⟩ : ByteArray)) = true then (some true) else (Option.bind (strings_TrimSuffix x120 (⟨#[10]⟩ : ByteArray)) fun x134 => Option.bind (strings_Contains x134 (⟨#[10]⟩ : ByteArray)) fun x135 => some x135)) fun s125 => if s125 = true then some (.rt ((⟨#[]⟩ : ByteArray), 1)) else some (.nx ())) x40.add.length 0 ()) fun o98 => o98.andThen (fun y => some (.rt y)) fun s99 => Option.bind (sliceL x8 (some s25.2) (some x40.at_)) fun x148 => Option.bind (appendL 8796093022208 s25.1 x148) fun x155 => Option.bind (appendL 8796093022208 x155 x40.add) fun x161 => some (.nx (x161, w64 (x40.at_ + x40.drop)))) l.length 0 (([] : (List ByteArray)), 0)) fun o14 => o14.andThen (fun y => some y) fun s15 =>
    Option.bind (sliceL x8 (some s15.2) none) fun x172 =>
    Option.bind (appendL 8796093022208 s15.1 x172) fun x175 =>
    Option.bind (rangeB (fun k184 _ => Option.bind (idx x175 (k184 : Int)) fun x199 => Option.bind (if (decide ((k184 : Int) < (w64 ((x175.length : Int) - 1)))) = true then (Option.bind (strings_HasSuffix x199 (⟨#[10]⟩ : ByteArray)) fun x206 => some (!x206)) else (some false)) fun s205 => if s205 = true then some (.rt ((⟨#[]⟩ : ByteArray), 1)) else some (.nx ())) x175.length 0 ()) fun o181 => o181.andThen (fun y => some y) fun s182 =>
    Option.bind (strings_Join x175 (⟨#[]⟩ : ByteArray)) fun x211 =>
    Option.bind (portref2_bodyFault x211) fun x215 =>
    if (x215 != 0) = true then
      some ((⟨#[]⟩ : ByteArray), 4)
    else
      some (x211, 0)

/-- porterslodge portlaw2 KnowPatches -/
def portlaw2_KnowPatches (a_ : ByteArray) (l : (List know_Edit)) : Option Bool :=
  Option.bind (know_Patch a_ l) fun x3 =>
  Option.bind (portref2_PatchOf a_ l) fun x7 =>
  some ((strEq x3.1 x7.1) && (x3.2 == x7.2))

end Go.Proofs.YtcokjipcmpfgbaaDoor.M
