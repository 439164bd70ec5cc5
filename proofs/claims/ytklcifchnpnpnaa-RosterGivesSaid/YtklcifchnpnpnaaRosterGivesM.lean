/-
  Written by program (gen.py) from the IR of the dump: plain models of the functions.
-/
import Derived.Test.YtklcifchnpnpnaaPu
namespace Go.Proofs.Ytklcifchnpnpnaa.M
open Go Go.Pu
set_option linter.unusedVariables false
set_option linter.unusedSimpArgs false

structure staff_Form where
  from_ : Int
  slots : Int

structure staff_Rules where
  people : Int
  rest_ : Int
  most : Int

structure staff_Duty where
  form : Int
  person : Int

/-- porterslodge staff within -/
def staff_within (n : Int) (low : Int) (high : Int) : Bool :=
  ((decide (low ≤ n)) && (decide (n ≤ high)))

/-- cmp isNaN int -/
def cmp_isNaN_int (x : Int) : Bool :=
  x != x

/-- cmp Compare int -/
def cmp_Compare_int (x : Int) (y : Int) : Int :=
  if (cmp_isNaN_int x) = true then
    if (cmp_isNaN_int y) = true then
      0
    else
      (-1)
  else
    if (cmp_isNaN_int y) = true then
      1
    else
      if (decide (x < y)) = true then
        (-1)
      else
        if (decide (y < x)) = true then
          1
        else
          0

/-- cmp Or int -/
def cmp_Or_int (vals : (List Int)) : Option Int :=
  Option.bind (rangeB (fun k6 _ => Option.bind (idx vals (k6 : Int)) fun x21 => if (x21 != 0) = true then some (.rt x21) else some (.nx ())) vals.length 0 ()) fun o3 => o3.andThen (fun y => some y) fun s4 =>
  some 0

/-- porterslodge staff CheckForms -/
def staff_CheckForms (l : (List staff_Form)) : Option Int :=
  if (decide ((60 : Int) < (l.length : Int))) = true then
    some 4
  else
    Option.bind (rangeB (fun k7 _ => Option.bind (idx l (k7 : Int)) fun x27 => if ((!(staff_within x27.from_ 0 399)) || (!(staff_within x27.slots 1 (w64 (400 - x27.from_))))) = true then some (.rt 2) else Option.bind (if (decide ((0 : Int) < (k7 : Int))) = true then (Option.bind (idx l (w64 ((k7 : Int) - 1))) fun x56 => Option.bind (cmp_Or_int ([(cmp_Compare_int x27.from_ x56.from_), (cmp_Compare_int x27.slots x56.slots)] : List Int)) fun x74 => some (decide (x74 ≤ 0))) else (some false)) fun s47 => if s47 = true then some (.rt 5) else some (.nx ())) l.length 0 ()) fun o4 => o4.andThen (fun y => some y) fun s5 =>
    some 0

/-- porterslodge staff checkNumbers -/
def staff_checkNumbers (l : (List Int)) (most : Int) : Option Int :=
  Option.bind (rangeB (fun k6 _ => Option.bind (idx l (k6 : Int)) fun x21 => if (!(staff_within x21 0 most)) = true then some (.rt 2) else some (.nx ())) l.length 0 ()) fun o3 => o3.andThen (fun y => some y) fun s4 =>
  some 0

/-- porterslodge staff checkPlan -/
def staff_checkPlan (forms : (List staff_Form)) (plan : (List Int)) : Option Int :=
  if ((plan.length : Int) != (forms.length : Int)) = true then
    some 1
  else
    Option.bind (staff_checkNumbers plan 60) fun x6 =>
    some x6

/-- porterslodge staff CheckRules -/
def staff_CheckRules (r_ : staff_Rules) : Option Int :=
  if (((!(staff_within r_.people 0 60)) || (!(staff_within r_.rest_ 0 400))) || (!(staff_within r_.most 0 400))) = true then
    some 2
  else
    some 0

/-- cmp Or porterslodge api Errno -/
def cmp_Or_api_Errno (vals : (List Int)) : Option Int :=
  Option.bind (rangeB (fun k6 _ => Option.bind (idx vals (k6 : Int)) fun x21 => if (x21 != 0) = true then some (.rt x21) else some (.nx ())) vals.length 0 ()) fun o3 => o3.andThen (fun y => some y) fun s4 =>
  some 0

/-- slices IndexFunc porterslodge staff Form porterslodge staff Form -/
def slices_IndexFunc_Lstaff_Form_staff_Form (s : (List staff_Form)) (f : staff_Form → Option Bool) : Option Int :=
  Option.bind (rangeB (fun k6 _ => Option.bind (idx s (k6 : Int)) fun x25 => Option.bind (f x25) fun x30 => if x30 = true then some (.rt (k6 : Int)) else some (.nx ())) s.length 0 ()) fun o3 => o3.andThen (fun y => some y) fun s4 =>
  some (-1)

/-- slices ContainsFunc porterslodge staff Form porterslodge staff Form -/
def slices_ContainsFunc_Lstaff_Form_staff_Form (s : (List staff_Form)) (f : staff_Form → Option Bool) : Option Bool :=
  Option.bind (slices_IndexFunc_Lstaff_Form_staff_Form s f) fun x3 =>
  some (decide ((0 : Int) ≤ x3))

/-- porterslodge staff apart -/
def staff_apart (a_ : staff_Form) (b : staff_Form) (rest_ : Int) : Option Bool :=
  some ((decide ((w64 ((w64 (a_.from_ + a_.slots)) + rest_)) ≤ b.from_)) || (decide ((w64 ((w64 (b.from_ + b.slots)) + rest_)) ≤ a_.from_)))

/-- porterslodge staff Roster 1 -/
def staff_Roster_1 (x : staff_Form) (p1 : staff_Form) (p2 : staff_Rules) : Option Bool :=
  Option.bind (staff_apart x p1 p2.rest_) fun x10 =>
  some (!x10)

/-- porterslodge staff Roster -/
noncomputable def staff_Roster (forms : (List staff_Form)) (plan : (List Int)) (r_ : staff_Rules) : Option ((List staff_Duty) × (List staff_Duty) × Int) :=
  Option.bind (staff_CheckForms forms) fun x11 =>
  Option.bind (staff_checkPlan forms plan) fun x12 =>
  Option.bind (staff_CheckRules r_) fun x14 =>
  Option.bind (cmp_Or_api_Errno ([x11, x12, x14] : List Int)) fun x23 =>
  if (x23 != 0) = true then
    some (([] : (List staff_Duty)), ([] : (List staff_Duty)), x23)
  else
    Option.bind (rangeB (fun k28 s32 => Option.bind (idx plan (k28 : Int)) fun x43 => some (.nx (w64 (s32 + x43)))) plan.length 0 0) fun o25 => o25.andThen (fun y => some y) fun s26 =>
    if (decide ((2000 : Int) < s26)) = true then
      some (([] : (List staff_Duty)), ([] : (List staff_Duty)), 4)
    else
      Option.bind (makeL 11728124029610 r_.people ([] : (List staff_Form))) fun x52 =>
      Option.bind (makeL 35184372088832 r_.people (0 : Int)) fun x59 =>
      Option.bind (rangeB (fun k68 s82 => Option.bind (Option.bind (idx forms (k68 : Int)) fun x119 => Option.bind (idx plan (k68 : Int)) fun x132 => Option.bind (whileB (R := Empty) (fun s153 => if (decide (s153.2.2.2.2 < x132)) = true then Option.bind (Option.bind (whileB (R := Empty) (fun s199 => if (decide (s199.2 < r_.people)) = true then Option.bind (Option.bind (idx s153.2.1 s199.2) fun x219 => Option.bind (if (decide ((w64 (x219 + x119.slots)) ≤ r_.most)) = true then (Option.bind (idx s153.1 s199.2) fun x228 => Option.bind (slices_ContainsFunc_Lstaff_Form_staff_Form x228 (fun y236 => staff_Roster_1 y236 x119 r_)) fun x237 => some (!x237)) else (some false)) fun s227 => Option.bind (if s227 = true then (Option.bind (if (decide (s199.1 < 0)) = true then (some true) else (Option.bind (idx s153.2.1 s199.1) fun x257 => some (decide (x219 < x257)))) fun s252 => some s252) else (some false)) fun s250 => Option.bind (if s250 = true then some s199.2 else some s199.1) fun s266 => some s266) fun s212 => some (.nx (s212, w64 (s199.2 + 1))) else some (.bk (s199.1, s199.2))) ((-1), 0)) fun o190 => o190.andThen (fun y => y.elim) fun s191 => if (decide (s191.1 < 0)) = true then Option.bind (appendL 8796093022208 s153.2.2.2.1 ([(⟨(k68 : Int), 0⟩ : staff_Duty)] : List staff_Duty)) fun x284 => some (s153.1, s153.2.1, s153.2.2.1, x284) else Option.bind (idx s153.1 s191.1) fun x296 => Option.bind (appendL 8796093022208 x296 ([x119] : List staff_Form)) fun x310 => Option.bind (setI s153.1 s191.1 x310) fun x320 => Option.bind (idx s153.2.1 s191.1) fun x324 => Option.bind (setI s153.2.1 s191.1 (w64 (x324 + x119.slots))) fun x337 => Option.bind (appendL 8796093022208 s153.2.2.1 ([(⟨(k68 : Int), w64 (s191.1 + 1)⟩ : staff_Duty)] : List staff_Duty)) fun x346 => some (x320, x337, x346, s153.2.2.2.1)) fun s174 => some (.nx (s174.1, s174.2.1, s174.2.2.1, s174.2.2.2, w64 (s153.2.2.2.2 + 1))) else some (.bk (s153.1, s153.2.1, s153.2.2.1, s153.2.2.2.1, s153.2.2.2.2))) (s82.1, s82.2.1, s82.2.2.1, s82.2.2.2, 0)) fun o136 => o136.andThen (fun y => y.elim) fun s137 => some (s137.1, s137.2.1, s137.2.2.1, s137.2.2.2.1)) fun s104 => some (.nx (s104.1, s104.2.1, s104.2.2.1, s104.2.2.2))) forms.length 0 (x52, x59, ([] : (List staff_Duty)), ([] : (List staff_Duty)))) fun o65 => o65.andThen (fun y => some y) fun s66 =>
      some (s66.2.2.1, s66.2.2.2, 0)

/-- porterslodge portref2 FormsFault -/
def portref2_FormsFault (l : (List staff_Form)) : Option Int :=
  if (decide ((60 : Int) < (l.length : Int))) = true then
    some 4
  else
    Option.bind (rangeB (fun k7 _ => Option.bind (idx l (k7 : Int)) fun x27 => if ((((decide (x27.from_ < 0)) || (decide ((400 : Int) ≤ x27.from_))) || (decide (x27.slots < 1))) || (decide ((w64 (400 - x27.from_)) < x27.slots))) = true then some (.rt 2) else Option.bind (if (decide ((0 : Int) < (k7 : Int))) = true then (Option.bind (idx l (w64 ((k7 : Int) - 1))) fun x61 => Option.bind (cmp_Or_int ([(cmp_Compare_int x61.from_ x27.from_), (cmp_Compare_int x61.slots x27.slots)] : List Int)) fun x80 => some (decide ((0 : Int) ≤ x80))) else (some false)) fun s53 => if s53 = true then some (.rt 5) else some (.nx ())) l.length 0 ()) fun o4 => o4.andThen (fun y => some y) fun s5 =>
    some 0

/-- slices IndexFunc int int -/
def slices_IndexFunc_Lint_int (s : (List Int)) (f : Int → Option Bool) : Option Int :=
  Option.bind (rangeB (fun k6 _ => Option.bind (idx s (k6 : Int)) fun x25 => Option.bind (f x25) fun x29 => if x29 = true then some (.rt (k6 : Int)) else some (.nx ())) s.length 0 ()) fun o3 => o3.andThen (fun y => some y) fun s4 =>
  some (-1)

/-- slices ContainsFunc int int -/
def slices_ContainsFunc_Lint_int (s : (List Int)) (f : Int → Option Bool) : Option Bool :=
  Option.bind (slices_IndexFunc_Lint_int s f) fun x3 =>
  some (decide ((0 : Int) ≤ x3))

/-- porterslodge portref2 outside 1 -/
def portref2_outside_1 (n : Int) (p1 : Int) : Option Bool :=
  some ((decide (n < 0)) || (decide (p1 < n)))

/-- porterslodge portref2 outside -/
def portref2_outside (l : (List Int)) (most : Int) : Option Bool :=
  Option.bind (slices_ContainsFunc_Lint_int l (fun y9 => portref2_outside_1 y9 most)) fun x10 =>
  some x10

/-- porterslodge portref2 planAlone -/
def portref2_planAlone (forms : (List staff_Form)) (plan : (List Int)) : Option Int :=
  if ((plan.length : Int) != (forms.length : Int)) = true then
    some 1
  else
    Option.bind (portref2_outside plan 60) fun x6 =>
    if x6 = true then
      some 2
    else
      some 0

/-- porterslodge portref2 planFault -/
def portref2_planFault (forms : (List staff_Form)) (plan : (List Int)) : Option Int :=
  Option.bind (portref2_FormsFault forms) fun x5 =>
  if (x5 != 0) = true then
    some x5
  else
    Option.bind (portref2_planAlone forms plan) fun x10 =>
    some x10

/-- porterslodge portref2 RulesFault -/
def portref2_RulesFault (r_ : staff_Rules) : Option Int :=
  if ((((((decide (r_.people < 0)) || (decide ((60 : Int) < r_.people))) || (decide (r_.rest_ < 0))) || (decide ((400 : Int) < r_.rest_))) || (decide (r_.most < 0))) || (decide ((400 : Int) < r_.most))) = true then
    some 2
  else
    some 0

/-- slices IndexFunc porterslodge staff Duty porterslodge staff Duty -/
def slices_IndexFunc_Lstaff_Duty_staff_Duty (s : (List staff_Duty)) (f : staff_Duty → Option Bool) : Option Int :=
  Option.bind (rangeB (fun k6 _ => Option.bind (idx s (k6 : Int)) fun x25 => Option.bind (f x25) fun x30 => if x30 = true then some (.rt (k6 : Int)) else some (.nx ())) s.length 0 ()) fun o3 => o3.andThen (fun y => some y) fun s4 =>
  some (-1)

/-- slices ContainsFunc porterslodge staff Duty porterslodge staff Duty -/
def slices_ContainsFunc_Lstaff_Duty_staff_Duty (s : (List staff_Duty)) (f : staff_Duty → Option Bool) : Option Bool :=
  Option.bind (slices_IndexFunc_Lstaff_Duty_staff_Duty s f) fun x3 =>
  some (decide ((0 : Int) ≤ x3))

/-- porterslodge portref2 apart -/
def portref2_apart (a_ : staff_Form) (b : staff_Form) (rest_ : Int) : Option Bool :=
  some ((decide ((w64 ((w64 (a_.from_ + a_.slots)) + rest_)) ≤ b.from_)) || (decide ((w64 ((w64 (b.from_ + b.slots)) + rest_)) ≤ a_.from_)))

/-- porterslodge portref2 RosterOf 2 -/
def portref2_RosterOf_2 (x : staff_Duty) (p1 : Int) (p2 : (List staff_Form)) (p3 : staff_Form) (p4 : staff_Rules) : Option Bool :=
  Option.bind (if (x.person == p1) = true then (Option.bind (idx p2 x.form) fun x14 => Option.bind (portref2_apart x14 p3 p4.rest_) fun x21 => some (!x21)) else (some false)) fun s9 =>
  some s9

/-- porterslodge portref2 RosterOf 1 -/
def portref2_RosterOf_1 (p : Int) (p1 : (List staff_Duty)) (p2 : (List staff_Form)) : Option Int :=
  Option.bind (rangeB (fun k7 s14 => Option.bind (Option.bind (idx p1 (k7 : Int)) fun x35 => Option.bind (if (x35.person == p) = true then Option.bind (idx p2 x35.form) fun x60 => some (w64 (s14 + x60.slots)) else some s14) fun s50 => some s50) fun s28 => some (.nx s28)) p1.length 0 0) fun o4 => o4.andThen (fun y => some y) fun s5 =>
  some s5

/-- porterslodge portref2 RosterOf -/
noncomputable def portref2_RosterOf (forms : (List staff_Form)) (plan : (List Int)) (r_ : staff_Rules) : Option ((List staff_Duty) × (List staff_Duty) × Int) :=
  Option.bind (portref2_planFault forms plan) fun x28 =>
  if (x28 != 0) = true then
    some (([] : (List staff_Duty)), ([] : (List staff_Duty)), x28)
  else
    Option.bind (portref2_RulesFault r_) fun x38 =>
    if (x38 != 0) = true then
      some (([] : (List staff_Duty)), ([] : (List staff_Duty)), x38)
    else
      Option.bind (rangeB (fun k50 s54 => Option.bind (idx plan (k50 : Int)) fun x65 => some (.nx (w64 (s54 + x65)))) plan.length 0 0) fun o47 => o47.andThen (fun y => some y) fun s48 =>
      if (decide ((2000 : Int) < s48)) = true then
        some (([] : (List staff_Duty)), ([] : (List staff_Duty)), 4)
      else
        Option.bind (rangeB (fun k83 s93 => Option.bind (Option.bind (idx forms (k83 : Int)) fun x122 => Option.bind (idx plan (k83 : Int)) fun x135 => Option.bind (whileB (R := Empty) (fun s152 => if (decide (s152.2.1 < x135)) = true then Option.bind (Option.bind (whileB (R := Empty) (fun s198 => if (decide (s198.2 ≤ r_.people)) = true then Option.bind (Option.bind (slices_ContainsFunc_Lstaff_Duty_staff_Duty s152.2.2 (fun y220 => portref2_RosterOf_2 y220 s198.2 forms x122 r_)) fun x221 => Option.bind (if (!x221) = true then (Option.bind (portref2_RosterOf_1 s198.2 s152.2.2 forms) fun x235 => some (decide ((w64 (x235 + x122.slots)) ≤ r_.most))) else (some false)) fun s234 => Option.bind (if s234 = true then (Option.bind (if (s198.1 == 0) = true then (some true) else (Option.bind (portref2_RosterOf_1 s198.2 s152.2.2 forms) fun x242 => Option.bind (portref2_RosterOf_1 s198.1 s152.2.2 forms) fun x243 => some (decide (x242 < x243)))) fun s241 => some s241) else (some false)) fun s239 => Option.bind (if s239 = true then some s198.2 else some s198.1) fun s248 => some s248) fun s213 => some (.nx (s213, w64 (s198.2 + 1))) else some (.bk (s198.1, s198.2))) (0, 1)) fun o188 => o188.andThen (fun y => y.elim) fun s189 => Option.bind (if (s189.1 == 0) = true then Option.bind (appendL 8796093022208 s152.1 ([(⟨(k83 : Int), 0⟩ : staff_Duty)] : List staff_Duty)) fun x289 => some (x289, s152.2.2) else Option.bind (appendL 8796093022208 s152.2.2 ([(⟨(k83 : Int), s189.1⟩ : staff_Duty)] : List staff_Duty)) fun x301 => some (s152.1, x301)) fun s272 => some (s272.1, s272.2)) fun s169 => some (.nx (s169.1, w64 (s152.2.1 + 1), s169.2)) else some (.bk (s152.1, s152.2.1, s152.2.2))) (s93.1, 0, s93.2)) fun o139 => o139.andThen (fun y => y.elim) fun s140 => some (s140.1, s140.2.2)) fun s111 => some (.nx (s111.1, s111.2))) forms.length 0 (([] : (List staff_Duty)), ([] : (List staff_Duty)))) fun o80 => o80.andThen (fun y => some y) fun s81 =>
        some (s81.2, s81.1, 0)

/-- slices Equal porterslodge staff Duty porterslodge staff Duty -/
def slices_Equal_Lstaff_Duty_staff_Duty (s1 : (List staff_Duty)) (s2 : (List staff_Duty)) : Option Bool :=
  if ((s1.length : Int) != (s2.length : Int)) = true then
    some false
  else
    Option.bind (rangeB (fun k9 _ => Option.bind (idx s1 (k9 : Int)) fun x29 => Option.bind (idx s2 (k9 : Int)) fun x34 => if (!(x29.form == x34.form && (x29.person == x34.person))) = true then some (.rt false) else some (.nx ())) s1.length 0 ()) fun o6 => o6.andThen (fun y => some y) fun s7 =>
    some true

/-- porterslodge portlaw2 RosterGives -/
noncomputable def portlaw2_RosterGives (forms : (List staff_Form)) (plan : (List Int)) (r_ : staff_Rules) : Option Bool :=
  Option.bind (staff_Roster forms plan r_) fun x12 =>
  Option.bind (portref2_RosterOf forms plan r_) fun x22 =>
  Option.bind (if (x12.2.2 == x22.2.2) = true then (Option.bind (slices_Equal_Lstaff_Duty_staff_Duty x12.1 x22.1) fun x33 => some x33) else (some false)) fun s32 =>
  Option.bind (if s32 = true then (Option.bind (slices_Equal_Lstaff_Duty_staff_Duty x12.2.1 x22.2.1) fun x36 => some x36) else (some false)) fun s35 =>
  Option.bind (if s35 = true then (Option.bind (staff_CheckRules r_) fun x40 => Option.bind (portref2_RulesFault r_) fun x42 => some (x40 == x42)) else (some false)) fun s38 =>
  some s38

end Go.Proofs.Ytklcifchnpnpnaa.M
