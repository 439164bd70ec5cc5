/-
  Written by program (gen.py) from the IR of the dump: plain models of the functions.
-/
import Derived.Test.YtgeagllbckdfhaaPu
import Derived.Lib.Join
import Derived.Test.YtgeagllbckdfhaaPj
namespace Go.Proofs.Ytgeagllbckdfhaa.M
open Go Go.Pu
set_option linter.unusedVariables false
set_option linter.unusedSimpArgs false

structure know_Part where
  kind : Int
  not : Bool
  words : (List ByteArray)

structure know_Query where
  parts : (List know_Part)

/-- porterslodge know within -/
def know_within (n : Int) (low : Int) (high : Int) : Bool :=
  ((decide (low ≤ n)) && (decide (n ≤ high)))

/-- porterslodge know digit -/
def know_digit (c : Int) : Bool :=
  ((decide ((48 : Int) ≤ c)) && (decide (c ≤ 57)))

/-- porterslodge know letter -/
def know_letter (c : Int) : Bool :=
  (((decide ((97 : Int) ≤ c)) && (decide (c ≤ 122))) || ((decide ((65 : Int) ≤ c)) && (decide (c ≤ 90))))

/-- porterslodge know inWord -/
def know_inWord (c : Int) : Bool :=
  (((know_letter c) || (know_digit c)) || (decide ((128 : Int) ≤ c)))

/-- porterslodge know lower -/
def know_lower (s : ByteArray) : Option ByteArray :=
  Option.bind (bytesL s) fun x1 =>
  Option.bind (rangeB (fun k10 s18 => Option.bind (Option.bind (idx s18 (k10 : Int)) fun x43 => Option.bind (if ((decide ((65 : Int) ≤ (x43.toNat : Int))) && (decide ((x43.toNat : Int) ≤ 90))) = true then Option.bind (setI s18 (k10 : Int) (toU8 (((toU8 ((x43.toNat : Int) + 97)).toNat : Int) - 65))) fun x65 => some x65 else some s18) fun s51 => some s51) fun s34 => some (.nx s34)) x1.length 0 x1) fun o7 => o7.andThen (fun y => some y) fun s8 =>
  some (⟨s8.toArray⟩ : ByteArray)

/-- porterslodge know Words -/
noncomputable def know_Words (s : ByteArray) : Option (List ByteArray) :=
  Option.bind (whileB (fun s12 => if (decide (s12.2 < (s.size : Int))) = true then Option.bind (whileB (fun s33 => Option.bind (if (decide (s33 < (s.size : Int))) = true then (Option.bind (idxS s s33) fun x44 => some (know_inWord (x44.toNat : Int))) else (some false)) fun s43 => if s43 = true then some (.nx (w64 (s33 + 1))) else some (.bk s33)) s12.2) fun o26 => o26.andThen (fun y => some (.rt y)) fun s27 => Option.bind (if ((decide (s12.2 < s27)) && (decide ((w64 (s27 - s12.2)) ≤ 30))) = true then Option.bind (sliceS s (some s12.2) (some s27)) fun x62 => Option.bind (know_lower x62) fun x63 => Option.bind (appendL 8796093022208 s12.1 ([x63] : List ByteArray)) fun x73 => some x73 else some s12.1) fun s52 => some (.nx (s52, w64 (s27 + 1))) else some (.bk (s12.1, s12.2))) (([] : (List ByteArray)), 0)) fun o1 => o1.andThen (fun y => some y) fun s2 =>
  some s2.1

/-- strings.Join -/
def strings_Join (elems : List ByteArray) (sep : ByteArray) : Option ByteArray :=
  if elems.length ≤ 140737488355328 ∧ (Go.Lib.join (elems.map (·.data.toList)) sep.data.toList).length ≤ 140737488355328 then some ⟨(Go.Lib.join (elems.map (·.data.toList)) sep.data.toList).toArray⟩ else none

/-- porterslodge know QueryText -/
noncomputable def know_QueryText (q : know_Query) : Option (ByteArray × Int) :=
  if (decide ((20 : Int) < (q.parts.length : Int))) = true then
    some ((⟨#[]⟩ : ByteArray), 4)
  else
    Option.bind (rangeB (fun k21 s29 => Option.bind (idx q.parts (k21 : Int)) fun x44 => if (((!(know_within x44.kind 0 2)) || ((x44.words.length : Int) == 0)) || ((x44.kind != 1) && (decide ((1 : Int) < (x44.words.length : Int))))) = true then some (.rt ((⟨#[]⟩ : ByteArray), 1)) else Option.bind (rangeB (fun k86 _ => Option.bind (idx x44.words (k86 : Int)) fun x105 => Option.bind (know_Words x105) fun x109 => Option.bind (if ((x109.length : Int) != 1) = true then (some true) else (Option.bind (idx x109 0) fun x119 => some (!(strEq x119 x105)))) fun s118 => if s118 = true then some (.rt ((⟨#[]⟩ : ByteArray), 1)) else some (.nx ())) x44.words.length 0 ()) fun o83 => o83.andThen (fun y => some (.rt y)) fun s84 => Option.bind (strings_Join x44.words (⟨#[32]⟩ : ByteArray)) fun x132 => Option.bind (Option.bind (if (x44.kind == 1) = true then Option.bind (catS (⟨#[34]⟩ : ByteArray) x132) fun x150 => Option.bind (catS x150 (⟨#[34]⟩ : ByteArray)) fun x151 => some x151 else Option.bind (if (x44.kind == 2) = true then Option.bind (catS x132 (⟨#[42]⟩ : ByteArray)) fun x160 => some x160 else some x132) fun s154 => some s154) fun s144 => some s144) fun s138 => Option.bind (if x44.not = true then Option.bind (catS (⟨#[45]⟩ : ByteArray) s138) fun x173 => some x173 else some s138) fun s167 => Option.bind (appendL 8796093022208 s29 ([s167] : List ByteArray)) fun x181 => some (.nx x181)) q.parts.length 0 ([] : (List ByteArray))) fun o18 => o18.andThen (fun y => some y) fun s19 =>
    Option.bind (strings_Join s19 (⟨#[32]⟩ : ByteArray)) fun x190 =>
    if (decide ((400 : Int) < (x190.size : Int))) = true then
      some ((⟨#[]⟩ : ByteArray), 4)
    else
      some (x190, 0)

/-- porterslodge portref2 isWordByte -/
def portref2_isWordByte (b : Int) : Bool :=
  (((((decide ((97 : Int) ≤ b)) && (decide (b ≤ 122))) || ((decide ((65 : Int) ≤ b)) && (decide (b ≤ 90)))) || ((decide ((48 : Int) ≤ b)) && (decide (b ≤ 57)))) || (decide ((128 : Int) ≤ b)))

/-- porterslodge portref2 lower -/
def portref2_lower (s : ByteArray) : Option ByteArray :=
  Option.bind (bytesL s) fun x1 =>
  Option.bind (rangeB (fun k10 s18 => Option.bind (Option.bind (idx s18 (k10 : Int)) fun x43 => Option.bind (if ((decide ((65 : Int) ≤ (x43.toNat : Int))) && (decide ((x43.toNat : Int) ≤ 90))) = true then Option.bind (setI s18 (k10 : Int) (toU8 ((x43.toNat : Int) + 32))) fun x65 => some x65 else some s18) fun s51 => some s51) fun s34 => some (.nx s34)) x1.length 0 x1) fun o7 => o7.andThen (fun y => some y) fun s8 =>
  some (⟨s8.toArray⟩ : ByteArray)

/-- porterslodge portref2 WordsOf -/
noncomputable def portref2_WordsOf (s : ByteArray) : Option (List ByteArray) :=
  Option.bind (whileB (fun s12 => if (decide (s12.2 < (s.size : Int))) = true then Option.bind (whileB (fun s33 => Option.bind (if (decide (s33 < (s.size : Int))) = true then (Option.bind (idxS s s33) fun x44 => some (portref2_isWordByte (x44.toNat : Int))) else (some false)) fun s43 => if s43 = true then some (.nx (w64 (s33 + 1))) else some (.bk s33)) s12.2) fun o26 => o26.andThen (fun y => some (.rt y)) fun s27 => Option.bind (if ((decide (s12.2 < s27)) && (decide ((w64 (s27 - s12.2)) ≤ 30))) = true then Option.bind (sliceS s (some s12.2) (some s27)) fun x62 => Option.bind (portref2_lower x62) fun x63 => Option.bind (appendL 8796093022208 s12.1 ([x63] : List ByteArray)) fun x73 => some x73 else some s12.1) fun s52 => some (.nx (s52, (if s27 < w64 (s12.2 + 1) then w64 (s12.2 + 1) else s27))) else some (.bk (s12.1, s12.2))) (([] : (List ByteArray)), 0)) fun o1 => o1.andThen (fun y => some y) fun s2 =>
  some s2.1

/-- porterslodge portref2 QueryFault -/
noncomputable def portref2_QueryFault (q : know_Query) : Option (ByteArray × Int) :=
  if (decide ((20 : Int) < (q.parts.length : Int))) = true then
    some ((⟨#[]⟩ : ByteArray), 4)
  else
    Option.bind (rangeB (fun k21 s29 => Option.bind (idx q.parts (k21 : Int)) fun x44 => if ((((decide (x44.kind < 0)) || (decide ((2 : Int) < x44.kind))) || ((x44.words.length : Int) == 0)) || ((x44.kind != 1) && ((x44.words.length : Int) != 1))) = true then some (.rt ((⟨#[]⟩ : ByteArray), 1)) else Option.bind (rangeB (fun k89 _ => Option.bind (idx x44.words (k89 : Int)) fun x108 => Option.bind (portref2_WordsOf x108) fun x112 => Option.bind (if ((x112.length : Int) != 1) = true then (some true) else (Option.bind (idx x112 0) fun x122 => some (!(strEq x122 x108)))) fun s121 => if s121 = true then some (.rt ((⟨#[]⟩ : ByteArray), 1)) else some (.nx ())) x44.words.length 0 ()) fun o86 => o86.andThen (fun y => some (.rt y)) fun s87 => Option.bind (strings_Join x44.words (⟨#[32]⟩ : ByteArray)) fun x135 => Option.bind (Option.bind (if (x44.kind == 1) = true then Option.bind (catS (⟨#[34]⟩ : ByteArray) x135) fun x153 => Option.bind (catS x153 (⟨#[34]⟩ : ByteArray)) fun x154 => some x154 else Option.bind (if (x44.kind == 2) = true then Option.bind (catS x135 (⟨#[42]⟩ : ByteArray)) fun x163 => some x163 else some x135) fun s157 => some s157) fun s147 => some s147) fun s141 => Option.bind (if x44.not = true then Option.bind (catS (⟨#[45]⟩ : ByteArray) s141) fun x176 => some x176 else some s141) fun s170 => Option.bind (appendL 8796093022208 s29 ([s170] : List ByteArray)) fun x184 => some (.nx x184)) q.parts.length 0 ([] : (List ByteArray))) fun o18 => o18.andThen (fun y => some y) fun s19 =>
    Option.bind (strings_Join s19 (⟨#[32]⟩ : ByteArray)) fun x193 =>
    if (decide ((400 : Int) < (x193.size : Int))) = true then
      some ((⟨#[]⟩ : ByteArray), 4)
    else
      some (x193, 0)

/-- porterslodge portlaw2 QueryWrites -/
noncomputable def portlaw2_QueryWrites (q : know_Query) : Option Bool :=
  Option.bind (know_QueryText q) fun x12 =>
  Option.bind (portref2_QueryFault q) fun x19 =>
  some ((strEq x12.1 x19.1) && (x12.2 == x19.2))

end Go.Proofs.Ytgeagllbckdfhaa.M
