/-
  Written by program (gen.py) from the IR of the dump: plain models of the functions.
-/
import Derived.Test.YtcfhifbmjjhhdaaPu
import Derived.Test.YtcfhifbmjjhhdaaPr
import Derived.Test.YtcfhifbmjjhhdaaPj
namespace Go.Proofs.Ytcfhifbmjjhhdaa.M
open Go Go.Pu
set_option linter.unusedVariables false
set_option linter.unusedSimpArgs false

structure staff_Form where
  from_ : Int
  slots : Int

structure staff_Rules where
  people : Int
  rest_ : Int
  most : Int

structure staff_Duty where
  form : Int
  person : Int

structure staff_Breach where
  kind : Int
  first : Int
  second : Int

/-- porterslodge staff within -/
def staff_within (n : Int) (low : Int) (high : Int) : Bool :=
  ((decide (low ≤ n)) && (decide (n ≤ high)))

/-- cmp isNaN int -/
def cmp_isNaN_int (x : Int) : Bool :=
  x != x

/-- cmp Compare int -/
def cmp_Compare_int (x : Int) (y : Int) : Int :=
  if (cmp_isNaN_int x) = true then
    if (cmp_isNaN_int y) = true then
      0
    else
      (-1)
  else
    if (cmp_isNaN_int y) = true then
      1
    else
      if (decide (x < y)) = true then
        (-1)
      else
        if (decide (y < x)) = true then
          1
        else
          0

/-- cmp Or int -/
def cmp_Or_int (vals : (List Int)) : Option Int :=
  Option.bind (rangeB (fun k6 _ => Option.bind (idx vals (k6 : Int)) fun x21 => if (x21 != 0) = true then some (.rt x21) else some (.nx ())) vals.length 0 ()) fun o3 => o3.andThen (fun y => some y) fun s4 =>
  some 0

/-- porterslodge staff CheckForms -/
def staff_CheckForms (l : (List staff_Form)) : Option Int :=
  if (decide ((60 : Int) < (l.length : Int))) = true then
    some 4
  else
    Option.bind (rangeB (fun k7 _ => Option.bind (idx l (k7 : Int)) fun x27 => if ((!(staff_within x27.from_ 0 399)) || (!(staff_within x27.slots 1 (w64 (400 - x27.from_))))) = true then some (.rt 2) else Option.bind (if (decide ((0 : Int) < (k7 : Int))) = true then (Option.bind (idx l (w64 ((k7 : Int) - 1))) fun x56 => Option.bind (cmp_Or_int ([(cmp_Compare_int x27.from_ x56.from_), (cmp_Compare_int x27.slots x56.slots)] : List Int)) fun x76 => some (decide (x76 ≤ 0))) else (some false)) fun s47 => if s47 = true then some (.rt 5) else some (.nx ())) l.length 0 ()) fun o4 => o4.andThen (fun y => some y) fun s5 =>
    some 0

/-- porterslodge staff CheckRules -/
def staff_CheckRules (r_ : staff_Rules) : Option Int :=
  if (((!(staff_within r_.people 0 60)) || (!(staff_within r_.rest_ 0 400))) || (!(staff_within r_.most 0 400))) = true then
    some 2
  else
    some 0

/-- cmp Or porterslodge api Errno -/
def cmp_Or_api_Errno (vals : (List Int)) : Option Int :=
  Option.bind (rangeB (fun k6 _ => Option.bind (idx vals (k6 : Int)) fun x21 => if (x21 != 0) = true then some (.rt x21) else some (.nx ())) vals.length 0 ()) fun o3 => o3.andThen (fun y => some y) fun s4 =>
  some 0

/-- porterslodge staff apart -/
def staff_apart (a_ : staff_Form) (b : staff_Form) (rest_ : Int) : Option Bool :=
  some ((decide ((w64 ((w64 (a_.from_ + a_.slots)) + rest_)) ≤ b.from_)) || (decide ((w64 ((w64 (b.from_ + b.slots)) + rest_)) ≤ a_.from_)))

/-- porterslodge staff Judge 1 -/
def staff_Judge_1 (a_ : staff_Breach) (b : staff_Breach) : Option Int :=
  Option.bind (cmp_Or_int ([(cmp_Compare_int a_.first b.first), (cmp_Compare_int a_.kind b.kind), (cmp_Compare_int a_.second b.second)] : List Int)) fun x31 =>
  some x31

/-- porterslodge staff Judge -/
noncomputable def staff_Judge (forms : (List staff_Form)) (r_ : staff_Rules) (l : (List staff_Duty)) : Option ((List staff_Breach) × Int) :=
  Option.bind (staff_CheckForms forms) fun x11 =>
  Option.bind (staff_CheckRules r_) fun x13 =>
  Option.bind (cmp_Or_api_Errno ([x11, x13] : List Int)) fun x22 =>
  if (x22 != 0) = true then
    some (([] : (List staff_Breach)), x22)
  else
    if (decide ((2000 : Int) < (l.length : Int))) = true then
      some (([] : (List staff_Breach)), 4)
    else
      Option.bind (makeL 35184372088832 (w64 (r_.people + 1)) (0 : Int)) fun x26 =>
      Option.bind (makeL 281474976710656 (w64 (r_.people + 1)) (false : Bool)) fun x33 =>
      Option.bind (makeL 11728124029610 (w64 (r_.people + 1)) ([] : (List Int))) fun x40 =>
      Option.bind (rangeB (fun k49 s63 => Option.bind (Option.bind (idx l (k49 : Int)) fun x101 => Option.bind (if (!(staff_within x101.form 0 (w64 ((forms.length : Int) - 1)))) = true then Option.bind (appendL 5864062014805 s63.1 ([(⟨1, (k49 : Int), (-1)⟩ : staff_Breach)] : List staff_Breach)) fun x133 => some x133 else some s63.1) fun s116 => Option.bind (if (!(staff_within x101.person 1 r_.people)) = true then Option.bind (appendL 5864062014805 s116 ([(⟨2, (k49 : Int), (-1)⟩ : staff_Breach)] : List staff_Breach)) fun x161 => some x161 else some s116) fun s144 => if ((!(staff_within x101.form 0 (w64 ((forms.length : Int) - 1)))) || (!(staff_within x101.person 1 r_.people))) = true then some (s144, s63.2.1, s63.2.2.1, s63.2.2.2) else Option.bind (idx s63.2.2.2 x101.person) fun x179 => Option.bind (rangeB (R := Empty) (fun k190 s198 => Option.bind (Option.bind (idx x179 (k190 : Int)) fun x223 => Option.bind (idx l x223) fun x228 => Option.bind (idx forms x228.form) fun x233 => Option.bind (idx forms x101.form) fun x239 => Option.bind (staff_apart x233 x239 r_.rest_) fun x245 => Option.bind (if (!x245) = true then Option.bind (appendL 5864062014805 s198 ([(⟨3, x223, (k49 : Int)⟩ : staff_Breach)] : List staff_Breach)) fun x266 => some x266 else some s198) fun s250 => some s250) fun s214 => some (.nx s214)) x179.length 0 s144) fun o187 => o187.andThen (fun y => y.elim) fun s188 => Option.bind (appendL 17592186044416 x179 ([(k49 : Int)] : List Int)) fun x298 => Option.bind (setI s63.2.2.2 x101.person x298) fun x308 => Option.bind (idx s63.2.1 x101.person) fun x313 => Option.bind (idx forms x101.form) fun x319 => Option.bind (setI s63.2.1 x101.person (w64 (x313 + x319.slots))) fun x331 => Option.bind (idx x331 x101.person) fun x336 => Option.bind (if (decide (r_.most < x336)) = true then (Option.bind (idx s63.2.2.1 x101.person) fun x345 => some (!x345)) else (some false)) fun s343 => Option.bind (if s343 = true then Option.bind (idx s63.2.2.1 x101.person) fun x367 => Option.bind (setI s63.2.2.1 x101.person true) fun x372 => Option.bind (appendL 5864062014805 s188 ([(⟨4, (k49 : Int), (-1)⟩ : staff_Breach)] : List staff_Breach)) fun x383 => some (x383, x372) else some (s188, s63.2.2.1)) fun s354 => some (s354.1, x331, s354.2, x308)) fun s86 => some (.nx (s86.1, s86.2.1, s86.2.2.1, s86.2.2.2))) l.length 0 (([] : (List staff_Breach)), x26, x33, x40)) fun o46 => o46.andThen (fun y => some y) fun s47 =>
      Option.bind (sortFuncL (fun y399 y400 => staff_Judge_1 y399 y400) s47.1) fun x395 =>
      some (x395, 0)

/-- porterslodge portref2 FormsFault -/
def portref2_FormsFault (l : (List staff_Form)) : Option Int :=
  if (decide ((60 : Int) < (l.length : Int))) = true then
    some 4
  else
    Option.bind (rangeB (fun k7 _ => Option.bind (idx l (k7 : Int)) fun x27 => if ((((decide (x27.from_ < 0)) || (decide ((400 : Int) ≤ x27.from_))) || (decide (x27.slots < 1))) || (decide ((w64 (400 - x27.from_)) < x27.slots))) = true then some (.rt 2) else Option.bind (if (decide ((0 : Int) < (k7 : Int))) = true then (Option.bind (idx l (w64 ((k7 : Int) - 1))) fun x61 => Option.bind (cmp_Or_int ([(cmp_Compare_int x61.from_ x27.from_), (cmp_Compare_int x61.slots x27.slots)] : List Int)) fun x82 => some (decide ((0 : Int) ≤ x82))) else (some false)) fun s53 => if s53 = true then some (.rt 5) else some (.nx ())) l.length 0 ()) fun o4 => o4.andThen (fun y => some y) fun s5 =>
    some 0

/-- porterslodge portref2 RulesFault -/
def portref2_RulesFault (r_ : staff_Rules) : Option Int :=
  if ((((((decide (r_.people < 0)) || (decide ((60 : Int) < r_.people))) || (decide (r_.rest_ < 0))) || (decide ((400 : Int) < r_.rest_))) || (decide (r_.most < 0))) || (decide ((400 : Int) < r_.most))) = true then
    some 2
  else
    some 0

/-- porterslodge portref2 JudgeOf 1 -/
def portref2_JudgeOf_1 (x : staff_Duty) (p1 : (List staff_Form)) : Option Bool :=
  some ((decide (x.form < 0)) || (decide ((p1.length : Int) ≤ x.form)))

/-- porterslodge portref2 JudgeOf 2 -/
def portref2_JudgeOf_2 (x : staff_Duty) (p1 : staff_Rules) : Option Bool :=
  some ((decide (x.person < 1)) || (decide (p1.people < x.person)))

/-- porterslodge portref2 apart -/
def portref2_apart (a_ : staff_Form) (b : staff_Form) (rest_ : Int) : Option Bool :=
  some ((decide ((w64 ((w64 (a_.from_ + a_.slots)) + rest_)) ≤ b.from_)) || (decide ((w64 ((w64 (b.from_ + b.slots)) + rest_)) ≤ a_.from_)))

/-- porterslodge portref2 JudgeOf 3 -/
def portref2_JudgeOf_3 (a_ : staff_Breach) (b : staff_Breach) : Option Int :=
  Option.bind (cmp_Or_int ([(cmp_Compare_int a_.first b.first), (cmp_Compare_int a_.kind b.kind), (cmp_Compare_int a_.second b.second)] : List Int)) fun x31 =>
  some x31

/-- porterslodge portref2 JudgeOf -/
noncomputable def portref2_JudgeOf (forms : (List staff_Form)) (r_ : staff_Rules) (l : (List staff_Duty)) : Option ((List staff_Breach) × Int) :=
  Option.bind (portref2_FormsFault forms) fun x23 =>
  if (x23 != 0) = true then
    some (([] : (List staff_Breach)), x23)
  else
    Option.bind (portref2_RulesFault r_) fun x29 =>
    if (x29 != 0) = true then
      some (([] : (List staff_Breach)), x29)
    else
      if (decide ((2000 : Int) < (l.length : Int))) = true then
        some (([] : (List staff_Breach)), 4)
      else
        Option.bind (rangeB (fun k43 s51 => Option.bind (Option.bind (idx l (k43 : Int)) fun x76 => Option.bind (portref2_JudgeOf_1 x76 forms) fun x90 => Option.bind (if x90 = true then Option.bind (appendL 5864062014805 s51.1 ([(⟨1, (k43 : Int), (-1)⟩ : staff_Breach)] : List staff_Breach)) fun x112 => some x112 else some s51.1) fun s95 => Option.bind (portref2_JudgeOf_2 x76 r_) fun x121 => Option.bind (if x121 = true then Option.bind (appendL 5864062014805 s95 ([(⟨2, (k43 : Int), (-1)⟩ : staff_Breach)] : List staff_Breach)) fun x143 => some x143 else some s95) fun s126 => Option.bind (Option.bind (portref2_JudgeOf_1 x76 forms) fun x160 => if x160 = true then (some true) else (Option.bind (portref2_JudgeOf_2 x76 r_) fun x167 => some x167)) fun s152 => if s152 = true then some (s126, s51.2) else Option.bind (whileB (R := Empty) (fun s185 => if (decide (s185.2 < (l.length : Int))) = true then Option.bind (Option.bind (idx l s185.2) fun x209 => Option.bind (portref2_JudgeOf_1 x209 forms) fun x223 => Option.bind (if ((!x223) && (x209.person == x76.person)) = true then (Option.bind (idx forms x76.form) fun x234 => Option.bind (idx forms x209.form) fun x243 => Option.bind (portref2_apart x234 x243 r_.rest_) fun x249 => some (!x249)) else (some false)) fun s229 => Option.bind (if s229 = true then Option.bind (appendL 5864062014805 s185.1 ([(⟨3, (k43 : Int), s185.2⟩ : staff_Breach)] : List staff_Breach)) fun x270 => some x270 else some s185.1) fun s254 => some s254) fun s200 => some (.nx (s200, w64 (s185.2 + 1))) else some (.bk (s185.1, s185.2))) (s126, w64 ((k43 : Int) + 1))) fun o174 => o174.andThen (fun y => y.elim) fun s175 => Option.bind (idx forms x76.form) fun x288 => Option.bind (if ((decide (((mapGet s51.2 x76.person).getD 0) ≤ r_.most)) && (decide (r_.most < ((mapGet (mapPut s51.2 x76.person (w64 (((mapGet s51.2 x76.person).getD 0) + x288.slots))) x76.person).getD 0)))) = true then Option.bind (appendL 5864062014805 s175.1 ([(⟨4, (k43 : Int), (-1)⟩ : staff_Breach)] : List staff_Breach)) fun x322 => some x322 else some s175.1) fun s305 => some (s305, (mapPut s51.2 x76.person (w64 (((mapGet s51.2 x76.person).getD 0) + x288.slots))))) fun s67 => some (.nx (s67.1, s67.2))) l.length 0 (([] : (List staff_Breach)), ([] : List (Int × Int)))) fun o40 => o40.andThen (fun y => some y) fun s41 =>
        Option.bind (sortFuncL (fun y338 y339 => portref2_JudgeOf_3 y338 y339) s41.1) fun x334 =>
        some (x334, 0)

/-- slices Equal porterslodge staff Breach porterslodge staff Breach -/
def slices_Equal_Lstaff_Breach_staff_Breach (s1 : (List staff_Breach)) (s2 : (List staff_Breach)) : Option Bool :=
  if ((s1.length : Int) != (s2.length : Int)) = true then
    some false
  else
    Option.bind (rangeB (fun k9 _ => Option.bind (idx s1 (k9 : Int)) fun x29 => Option.bind (idx s2 (k9 : Int)) fun x34 => if (!(x29.kind == x34.kind && (x29.first == x34.first && (x29.second == x34.second)))) = true then some (.rt false) else some (.nx ())) s1.length 0 ()) fun o6 => o6.andThen (fun y => some y) fun s7 =>
    some true

/-- porterslodge portlaw2 RosterJudges -/
noncomputable def portlaw2_RosterJudges (forms : (List staff_Form)) (r_ : staff_Rules) (l : (List staff_Duty)) : Option Bool :=
  Option.bind (staff_Judge forms r_ l) fun x12 =>
  Option.bind (portref2_JudgeOf forms r_ l) fun x21 =>
  Option.bind (if (x12.2 == x21.2) = true then (Option.bind (slices_Equal_Lstaff_Breach_staff_Breach x12.1 x21.1) fun x39 => some x39) else (some false)) fun s30 =>
  some s30

end Go.Proofs.Ytcfhifbmjjhhdaa.M
