/-
  Written by program (gen.py) from the IR of the dump: plain models of the functions.
-/
import Derived.Test.YtlclnbcjebpfkaaPu
namespace Go.Proofs.Ytlclnbcjebpfkaa.M
open Go Go.Pu
set_option linter.unusedVariables false

structure staff_Form where
  from_ : Int
  slots : Int

/-- porterslodge staff within -/
def staff_within (n : Int) (low : Int) (high : Int) : Bool :=
  ((decide (low ≤ n)) && (decide (n ≤ high)))

/-- cmp isNaN int -/
def cmp_isNaN_int (x : Int) : Bool :=
  x != x

/-- cmp Compare int -/
def cmp_Compare_int (x : Int) (y : Int) : Int :=
  if (cmp_isNaN_int x) = true then
    if (cmp_isNaN_int y) = true then
      0
    else
      (-1)
  else
    if (cmp_isNaN_int y) = true then
      1
    else
      if (decide (x < y)) = true then
        (-1)
      else
        if (decide (y < x)) = true then
          1
        else
          0

/-- cmp Or int -/
def cmp_Or_int (vals : (List Int)) : Option Int :=
  Option.bind (rangeB (fun k11 _ => Option.bind (idx vals (k11 : Int)) fun x26 => if (x26 != 0) = true then some (.rt x26) else some (.nx ())) vals.length 0 ()) fun o7 => o7.andThen (fun y => some y) fun s8 =>
  some 0

/-- porterslodge staff CheckForms -/
def staff_CheckForms (l : (List staff_Form)) : Option Int :=
  if (decide ((60 : Int) < (l.length : Int))) = true then
    some 4
  else
    Option.bind (rangeB (fun k16 _ => Option.bind (idx l (k16 : Int)) fun x30 => if ((!(staff_within x30.from_ 0 399)) || (!(staff_within x30.slots 1 (w64 (400 - x30.from_))))) = true then some (.rt 2) else Option.bind (if (decide ((0 : Int) < (k16 : Int))) = true then (Option.bind (idx l (w64 ((k16 : Int) - 1))) fun x57 => Option.bind (cmp_Or_int ([(cmp_Compare_int x30.from_ x57.from_), (cmp_Compare_int x30.slots x57.slots)] : List Int)) fun x73 => some (decide (x73 ≤ 0))) else (some false)) fun s50 => if s50 = true then some (.rt 5) else some (.nx ())) l.length 0 ()) fun o12 => o12.andThen (fun y => some y) fun s13 =>
    some 0

/-- porterslodge staff checkNumbers -/
def staff_checkNumbers (l : (List Int)) (most : Int) : Option Int :=
  Option.bind (rangeB (fun k11 _ => Option.bind (idx l (k11 : Int)) fun x26 => if (!(staff_within x26 0 most)) = true then some (.rt 2) else some (.nx ())) l.length 0 ()) fun o7 => o7.andThen (fun y => some y) fun s8 =>
  some 0

/-- porterslodge staff checkPlan -/
def staff_checkPlan (forms : (List staff_Form)) (plan : (List Int)) : Option Int :=
  if ((plan.length : Int) != (forms.length : Int)) = true then
    some 1
  else
    Option.bind (staff_checkNumbers plan 60) fun x14 =>
    some x14

/-- porterslodge staff checkDemand -/
def staff_checkDemand (l : (List Int)) (most : Int) : Option Int :=
  if (decide ((400 : Int) < (l.length : Int))) = true then
    some 4
  else
    Option.bind (staff_checkNumbers l most) fun x8 =>
    some x8

/-- cmp Or porterslodge api Errno -/
def cmp_Or_api_Errno (vals : (List Int)) : Option Int :=
  Option.bind (rangeB (fun k11 _ => Option.bind (idx vals (k11 : Int)) fun x26 => if (x26 != 0) = true then some (.rt x26) else some (.nx ())) vals.length 0 ()) fun o7 => o7.andThen (fun y => some y) fun s8 =>
  some 0

/-- porterslodge staff cover -/
noncomputable def staff_cover (forms : (List staff_Form)) (slots : Int) (plan : (List Int)) : Option (List Int) :=
  Option.bind (makeL 35184372088832 slots (0 : Int)) fun x5 =>
  Option.bind (rangeB (fun k20 s27 => Option.bind (Option.bind (idx forms (k20 : Int)) fun x49 => Option.bind (whileB (R := Empty) (fun s74 => if (decide (s74.2 < (if w64 (x49.from_ + x49.slots) < slots then w64 (x49.from_ + x49.slots) else slots))) = true then Option.bind (idx s74.1 s74.2) fun x89 => Option.bind (idx plan (k20 : Int)) fun x94 => Option.bind (setI s74.1 s74.2 (w64 (x89 + x94))) fun x105 => some (.nx (x105, w64 (s74.2 + 1))) else some (.bk (s74.1, s74.2))) (s27, x49.from_)) fun o63 => o63.andThen (fun y => y.elim) fun s64 => some s64.1) fun s41 => some (.nx s41)) forms.length 0 x5) fun o16 => o16.andThen (fun y => some y) fun s17 =>
  some s17

/-- porterslodge staff Spare -/
noncomputable def staff_Spare (forms : (List staff_Form)) (demand : (List Int)) (plan : (List Int)) : Option ((List Int) × Int) :=
  Option.bind (staff_CheckForms forms) fun x7 =>
  Option.bind (staff_checkPlan forms plan) fun x12 =>
  Option.bind (staff_checkDemand demand 60) fun x13 =>
  Option.bind (cmp_Or_api_Errno ([x7, x12, x13] : List Int)) fun x19 =>
  if (x19 != 0) = true then
    some (([] : (List Int)), x19)
  else
    Option.bind (staff_cover forms (demand.length : Int) plan) fun x25 =>
    Option.bind (makeL 35184372088832 (forms.length : Int) (0 : Int)) fun x35 =>
    Option.bind (rangeB (fun k51 _ => Option.bind (idx demand (k51 : Int)) fun x65 => Option.bind (idx x25 (k51 : Int)) fun x69 => if (decide (x69 < x65)) = true then some (.rt (x35, 0)) else some (.nx ())) demand.length 0 ()) fun o47 => o47.andThen (fun y => some y) fun s48 =>
    Option.bind (rangeB (fun k84 s91 => Option.bind (Option.bind (idx forms (k84 : Int)) fun x115 => Option.bind (idx plan (k84 : Int)) fun x128 => Option.bind (idx s91 (k84 : Int)) fun x132 => Option.bind (setI s91 (k84 : Int) x128) fun x137 => Option.bind (whileB (R := Empty) (fun s154 => if (decide (s154.2 < (if w64 (x115.from_ + x115.slots) < (demand.length : Int) then w64 (x115.from_ + x115.slots) else (demand.length : Int)))) = true then Option.bind (idx s154.1 (k84 : Int)) fun x174 => Option.bind (idx x25 s154.2) fun x179 => Option.bind (idx demand s154.2) fun x184 => Option.bind (setI s154.1 (k84 : Int) (if w64 (x179 - x184) < x174 then w64 (x179 - x184) else x174)) fun x195 => some (.nx (x195, w64 (s154.2 + 1))) else some (.bk (s154.1, s154.2))) (x137, x115.from_)) fun o142 => o142.andThen (fun y => y.elim) fun s143 => some s143.1) fun s106 => some (.nx s106)) forms.length 0 x35) fun o80 => o80.andThen (fun y => some y) fun s81 =>
    some (s81, 0)

/-- porterslodge portref2 FormsFault -/
def portref2_FormsFault (l : (List staff_Form)) : Option Int :=
  if (decide ((60 : Int) < (l.length : Int))) = true then
    some 4
  else
    Option.bind (rangeB (fun k16 _ => Option.bind (idx l (k16 : Int)) fun x30 => if ((((decide (x30.from_ < 0)) || (decide ((400 : Int) ≤ x30.from_))) || (decide (x30.slots < 1))) || (decide ((w64 (400 - x30.from_)) < x30.slots))) = true then some (.rt 2) else Option.bind (if (decide ((0 : Int) < (k16 : Int))) = true then (Option.bind (idx l (w64 ((k16 : Int) - 1))) fun x64 => Option.bind (cmp_Or_int ([(cmp_Compare_int x64.from_ x30.from_), (cmp_Compare_int x64.slots x30.slots)] : List Int)) fun x81 => some (decide ((0 : Int) ≤ x81))) else (some false)) fun s58 => if s58 = true then some (.rt 5) else some (.nx ())) l.length 0 ()) fun o12 => o12.andThen (fun y => some y) fun s13 =>
    some 0

/-- slices IndexFunc int int -/
def slices_IndexFunc_Lint_int (s : (List Int)) (f : Int → Option Bool) : Option Int :=
  Option.bind (rangeB (fun k11 _ => Option.bind (idx s (k11 : Int)) fun x26 => Option.bind (f x26) fun x30 => if x30 = true then some (.rt (k11 : Int)) else some (.nx ())) s.length 0 ()) fun o7 => o7.andThen (fun y => some y) fun s8 =>
  some (-1)

/-- slices ContainsFunc int int -/
def slices_ContainsFunc_Lint_int (s : (List Int)) (f : Int → Option Bool) : Option Bool :=
  Option.bind (slices_IndexFunc_Lint_int s f) fun x3 =>
  some (decide ((0 : Int) ≤ x3))

/-- porterslodge portref2 outside 1 -/
def portref2_outside_1 (n : Int) (p1 : Int) : Option Bool :=
  some ((decide (n < 0)) || (decide (p1 < n)))

/-- porterslodge portref2 outside -/
def portref2_outside (l : (List Int)) (most : Int) : Option Bool :=
  Option.bind (slices_ContainsFunc_Lint_int l (fun y8 => portref2_outside_1 y8 most)) fun x9 =>
  some x9

/-- porterslodge portref2 planAlone -/
def portref2_planAlone (forms : (List staff_Form)) (plan : (List Int)) : Option Int :=
  if ((plan.length : Int) != (forms.length : Int)) = true then
    some 1
  else
    Option.bind (portref2_outside plan 60) fun x14 =>
    if x14 = true then
      some 2
    else
      some 0

/-- porterslodge portref2 demandFault -/
def portref2_demandFault (l : (List Int)) (most : Int) : Option Int :=
  if (decide ((400 : Int) < (l.length : Int))) = true then
    some 4
  else
    Option.bind (portref2_outside l most) fun x8 =>
    if x8 = true then
      some 2
    else
      some 0

/-- slices Clone int int -/
def slices_Clone_Lint_int (s : (List Int)) : Option (List Int) :=
  Option.bind (appendL 17592186044416 ([] : List Int) s) fun x9 =>
  some x9

/-- porterslodge portref2 cover -/
noncomputable def portref2_cover (forms : (List staff_Form)) (slots : Int) (plan : (List Int)) : Option (List Int) :=
  Option.bind (makeL 35184372088832 slots (0 : Int)) fun x5 =>
  Option.bind (rangeB (fun k20 s27 => Option.bind (Option.bind (idx forms (k20 : Int)) fun x49 => Option.bind (whileB (R := Empty) (fun s73 => if (decide (s73.2 < slots)) = true then Option.bind (Option.bind (if ((decide (x49.from_ ≤ s73.2)) && (decide (s73.2 < (w64 (x49.from_ + x49.slots))))) = true then Option.bind (idx s73.1 s73.2) fun x111 => Option.bind (idx plan (k20 : Int)) fun x116 => Option.bind (setI s73.1 s73.2 (w64 (x111 + x116))) fun x127 => some x127 else some s73.1) fun s102 => some s102) fun s87 => some (.nx (s87, w64 (s73.2 + 1))) else some (.bk (s73.1, s73.2))) (s27, 0)) fun o62 => o62.andThen (fun y => y.elim) fun s63 => some s63.1) fun s41 => some (.nx s41)) forms.length 0 x5) fun o16 => o16.andThen (fun y => some y) fun s17 =>
  some s17

/-- porterslodge portref2 covered -/
noncomputable def portref2_covered (forms : (List staff_Form)) (demand : (List Int)) (plan : (List Int)) : Option Bool :=
  Option.bind (portref2_cover forms (demand.length : Int) plan) fun x11 =>
  Option.bind (rangeB (fun k21 _ => Option.bind (idx x11 (k21 : Int)) fun x35 => Option.bind (idx demand (k21 : Int)) fun x40 => if (decide (x35 < x40)) = true then some (.rt false) else some (.nx ())) x11.length 0 ()) fun o17 => o17.andThen (fun y => some y) fun s18 =>
  some true

/-- porterslodge portref2 SpareOf -/
noncomputable def portref2_SpareOf (forms : (List staff_Form)) (demand : (List Int)) (plan : (List Int)) : Option ((List Int) × Int) :=
  Option.bind (portref2_FormsFault forms) fun x7 =>
  if (x7 != 0) = true then
    some (([] : (List Int)), x7)
  else
    Option.bind (portref2_planAlone forms plan) fun x13 =>
    if (x13 != 0) = true then
      some (([] : (List Int)), x13)
    else
      Option.bind (portref2_demandFault demand 60) fun x18 =>
      if (x18 != 0) = true then
        some (([] : (List Int)), x18)
      else
        Option.bind (makeL 35184372088832 (forms.length : Int) (0 : Int)) fun x27 =>
        Option.bind (rangeB (fun k42 s49 => Option.bind (Option.bind (slices_Clone_Lint_int plan) fun x71 => Option.bind (whileB (R := Empty) (fun s92 => Option.bind (portref2_covered forms demand s92.2) fun x107 => Option.bind (if x107 = true then (Option.bind (idx s92.2 (k42 : Int)) fun x114 => some (decide ((0 : Int) < x114))) else (some false)) fun s112 => if s112 = true then Option.bind (Option.bind (idx s92.2 (k42 : Int)) fun x132 => Option.bind (setI s92.2 (k42 : Int) (w64 (x132 - 1))) fun x141 => Option.bind (portref2_covered forms demand x141) fun x145 => Option.bind (if x145 = true then Option.bind (idx s92.1 (k42 : Int)) fun x160 => Option.bind (setI s92.1 (k42 : Int) (w64 (x160 + 1))) fun x169 => some x169 else some s92.1) fun s150 => some (s150, x141)) fun s121 => some (.nx (s121.1, s121.2)) else some (.bk (s92.1, s92.2))) (s49, x71)) fun o78 => o78.andThen (fun y => y.elim) fun s79 => some s79.1) fun s63 => some (.nx s63)) forms.length 0 x27) fun o38 => o38.andThen (fun y => some y) fun s39 =>
        some (s39, 0)

/-- slices Equal int int -/
def slices_Equal_Lint_int (s1 : (List Int)) (s2 : (List Int)) : Option Bool :=
  if ((s1.length : Int) != (s2.length : Int)) = true then
    some false
  else
    Option.bind (rangeB (fun k22 _ => Option.bind (idx s1 (k22 : Int)) fun x36 => Option.bind (idx s2 (k22 : Int)) fun x40 => if (x36 != x40) = true then some (.rt false) else some (.nx ())) s1.length 0 ()) fun o18 => o18.andThen (fun y => some y) fun s19 =>
    some true

/-- porterslodge portlaw2 PlanSpares -/
noncomputable def portlaw2_PlanSpares (forms : (List staff_Form)) (demand : (List Int)) (plan : (List Int)) : Option Bool :=
  Option.bind (staff_Spare forms demand plan) fun x7 =>
  Option.bind (portref2_SpareOf forms demand plan) fun x13 =>
  Option.bind (if (x7.2 == x13.2) = true then (Option.bind (slices_Equal_Lint_int x7.1 x13.1) fun x24 => some x24) else (some false)) fun s22 =>
  some s22

end Go.Proofs.Ytlclnbcjebpfkaa.M
