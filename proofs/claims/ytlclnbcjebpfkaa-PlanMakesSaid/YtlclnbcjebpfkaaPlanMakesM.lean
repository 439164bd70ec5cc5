/-
  Written by program (gen.py) from the IR of the dump: plain models of the functions.
-/
import Derived.Test.YtlclnbcjebpfkaaPu
namespace Go.Proofs.Ytlclnbcjebpfkaa.M
open Go Go.Pu
set_option linter.unusedVariables false

structure staff_Form where
  from_ : Int
  slots : Int

/-- porterslodge staff within -/
def staff_within (n : Int) (low : Int) (high : Int) : Bool :=
  ((decide (low ≤ n)) && (decide (n ≤ high)))

/-- cmp isNaN int -/
def cmp_isNaN_int (x : Int) : Bool :=
  x != x

/-- cmp Compare int -/
def cmp_Compare_int (x : Int) (y : Int) : Int :=
  if (cmp_isNaN_int x) = true then
    if (cmp_isNaN_int y) = true then
      0
    else
      (-1)
  else
    if (cmp_isNaN_int y) = true then
      1
    else
      if (decide (x < y)) = true then
        (-1)
      else
        if (decide (y < x)) = true then
          1
        else
          0

/-- cmp Or int -/
def cmp_Or_int (vals : (List Int)) : Option Int :=
  Option.bind (rangeB (fun k6 _ => Option.bind (idx vals (k6 : Int)) fun x21 => if (x21 != 0) = true then some (.rt x21) else some (.nx ())) vals.length 0 ()) fun o3 => o3.andThen (fun y => some y) fun s4 =>
  some 0

/-- porterslodge staff CheckForms -/
def staff_CheckForms (l : (List staff_Form)) : Option Int :=
  if (decide ((60 : Int) < (l.length : Int))) = true then
    some 4
  else
    Option.bind (rangeB (fun k7 _ => Option.bind (idx l (k7 : Int)) fun x27 => if ((!(staff_within x27.from_ 0 399)) || (!(staff_within x27.slots 1 (w64 (400 - x27.from_))))) = true then some (.rt 2) else Option.bind (if (decide ((0 : Int) < (k7 : Int))) = true then (Option.bind (idx l (w64 ((k7 : Int) - 1))) fun x56 => Option.bind (cmp_Or_int ([(cmp_Compare_int x27.from_ x56.from_), (cmp_Compare_int x27.slots x56.slots)] : List Int)) fun x74 => some (decide (x74 ≤ 0))) else (some false)) fun s47 => if s47 = true then some (.rt 5) else some (.nx ())) l.length 0 ()) fun o4 => o4.andThen (fun y => some y) fun s5 =>
    some 0

/-- porterslodge staff checkNumbers -/
def staff_checkNumbers (l : (List Int)) (most : Int) : Option Int :=
  Option.bind (rangeB (fun k6 _ => Option.bind (idx l (k6 : Int)) fun x21 => if (!(staff_within x21 0 most)) = true then some (.rt 2) else some (.nx ())) l.length 0 ()) fun o3 => o3.andThen (fun y => some y) fun s4 =>
  some 0

/-- porterslodge staff checkDemand -/
def staff_checkDemand (l : (List Int)) (most : Int) : Option Int :=
  if (decide ((400 : Int) < (l.length : Int))) = true then
    some 4
  else
    Option.bind (staff_checkNumbers l most) fun x4 =>
    some x4

/-- cmp Or porterslodge api Errno -/
def cmp_Or_api_Errno (vals : (List Int)) : Option Int :=
  Option.bind (rangeB (fun k6 _ => Option.bind (idx vals (k6 : Int)) fun x21 => if (x21 != 0) = true then some (.rt x21) else some (.nx ())) vals.length 0 ()) fun o3 => o3.andThen (fun y => some y) fun s4 =>
  some 0

/-- porterslodge staff longest -/
def staff_longest (forms : (List staff_Form)) (slot : Int) : Option Int :=
  Option.bind (rangeB (fun k6 s12 => Option.bind (Option.bind (idx forms (k6 : Int)) fun x33 => Option.bind (if ((decide (x33.from_ ≤ slot)) && (decide (slot < (w64 (x33.from_ + x33.slots))))) = true then (Option.bind (if (decide (s12 < 0)) = true then (some true) else (Option.bind (idx forms s12) fun x57 => some (decide ((w64 (x57.from_ + x57.slots)) < (w64 (x33.from_ + x33.slots)))))) fun s54 => some s54) else (some false)) fun s52 => Option.bind (if s52 = true then some (k6 : Int) else some s12) fun s70 => some s70) fun s26 => some (.nx s26)) forms.length 0 (-1)) fun o3 => o3.andThen (fun y => some y) fun s4 =>
  some s4

/-- porterslodge staff Plan -/
noncomputable def staff_Plan (forms : (List staff_Form)) (demand : (List Int)) : Option ((List Int) × Int) :=
  Option.bind (staff_CheckForms forms) fun x5 =>
  Option.bind (staff_checkDemand demand 60) fun x9 =>
  Option.bind (cmp_Or_api_Errno ([x5, x9] : List Int)) fun x15 =>
  if (x15 != 0) = true then
    some (([] : (List Int)), x15)
  else
    Option.bind (rangeB (fun k20 _ => Option.bind (idx demand (k20 : Int)) fun x39 => Option.bind (if (decide ((0 : Int) < x39)) = true then (Option.bind (staff_longest forms (k20 : Int)) fun x52 => some (decide (x52 < 0))) else (some false)) fun s44 => if s44 = true then some (.rt (([] : (List Int)), 7)) else some (.nx ())) demand.length 0 ()) fun o17 => o17.andThen (fun y => some y) fun s18 =>
    Option.bind (makeL 35184372088832 (forms.length : Int) (0 : Int)) fun x62 =>
    Option.bind (makeL 35184372088832 (demand.length : Int) (0 : Int)) fun x69 =>
    Option.bind (rangeB (fun k78 s88 => Option.bind (α := Lp _ _) (Option.bind (idx demand (k78 : Int)) fun x117 => Option.bind (idx s88.2 (k78 : Int)) fun x121 => if (decide ((w64 (x117 - x121)) ≤ 0)) = true then some (.fin (s88.1, s88.2)) else Option.bind (staff_longest forms (k78 : Int)) fun x128 => Option.bind (idx s88.1 x128) fun x132 => Option.bind (setI s88.1 x128 (w64 (x132 + (w64 (x117 - x121))))) fun x141 => Option.bind (idx x141 x128) fun x145 => if (decide ((60 : Int) < x145)) = true then some (.rt (([] : (List Int)), 4)) else Option.bind (idx forms x128) fun x151 => Option.bind (whileB (fun s167 => if (decide (s167.2 < (if w64 (x151.from_ + x151.slots) < (s167.1.length : Int) then w64 (x151.from_ + x151.slots) else (s167.1.length : Int)))) = true then Option.bind (idx s167.1 s167.2) fun x192 => Option.bind (setI s167.1 s167.2 (w64 (x192 + (w64 (x117 - x121))))) fun x201 => some (.nx (x201, w64 (s167.2 + 1))) else some (.bk (s167.1, s167.2))) (s88.2, x151.from_)) fun o156 => o156.andThen (fun y => some (.rt y)) fun s157 => some (.fin (x141, s157.1))) fun o105 => o105.andThen (fun y => some (.rt y)) fun s106 => some (.nx (s106.1, s106.2))) demand.length 0 (x62, x69)) fun o75 => o75.andThen (fun y => some y) fun s76 =>
    some (s76.1, 0)

/-- porterslodge portref2 FormsFault -/
def portref2_FormsFault (l : (List staff_Form)) : Option Int :=
  if (decide ((60 : Int) < (l.length : Int))) = true then
    some 4
  else
    Option.bind (rangeB (fun k7 _ => Option.bind (idx l (k7 : Int)) fun x27 => if ((((decide (x27.from_ < 0)) || (decide ((400 : Int) ≤ x27.from_))) || (decide (x27.slots < 1))) || (decide ((w64 (400 - x27.from_)) < x27.slots))) = true then some (.rt 2) else Option.bind (if (decide ((0 : Int) < (k7 : Int))) = true then (Option.bind (idx l (w64 ((k7 : Int) - 1))) fun x61 => Option.bind (cmp_Or_int ([(cmp_Compare_int x61.from_ x27.from_), (cmp_Compare_int x61.slots x27.slots)] : List Int)) fun x80 => some (decide ((0 : Int) ≤ x80))) else (some false)) fun s53 => if s53 = true then some (.rt 5) else some (.nx ())) l.length 0 ()) fun o4 => o4.andThen (fun y => some y) fun s5 =>
    some 0

/-- slices IndexFunc int int -/
def slices_IndexFunc_Lint_int (s : (List Int)) (f : Int → Option Bool) : Option Int :=
  Option.bind (rangeB (fun k6 _ => Option.bind (idx s (k6 : Int)) fun x25 => Option.bind (f x25) fun x29 => if x29 = true then some (.rt (k6 : Int)) else some (.nx ())) s.length 0 ()) fun o3 => o3.andThen (fun y => some y) fun s4 =>
  some (-1)

/-- slices ContainsFunc int int -/
def slices_ContainsFunc_Lint_int (s : (List Int)) (f : Int → Option Bool) : Option Bool :=
  Option.bind (slices_IndexFunc_Lint_int s f) fun x3 =>
  some (decide ((0 : Int) ≤ x3))

/-- porterslodge portref2 outside 1 -/
def portref2_outside_1 (n : Int) (p1 : Int) : Option Bool :=
  some ((decide (n < 0)) || (decide (p1 < n)))

/-- porterslodge portref2 outside -/
def portref2_outside (l : (List Int)) (most : Int) : Option Bool :=
  Option.bind (slices_ContainsFunc_Lint_int l (fun y9 => portref2_outside_1 y9 most)) fun x10 =>
  some x10

/-- porterslodge portref2 demandFault -/
def portref2_demandFault (l : (List Int)) (most : Int) : Option Int :=
  if (decide ((400 : Int) < (l.length : Int))) = true then
    some 4
  else
    Option.bind (portref2_outside l most) fun x4 =>
    if x4 = true then
      some 2
    else
      some 0

/-- slices IndexFunc porterslodge staff Form porterslodge staff Form -/
def slices_IndexFunc_Lstaff_Form_staff_Form (s : (List staff_Form)) (f : staff_Form → Option Bool) : Option Int :=
  Option.bind (rangeB (fun k6 _ => Option.bind (idx s (k6 : Int)) fun x25 => Option.bind (f x25) fun x30 => if x30 = true then some (.rt (k6 : Int)) else some (.nx ())) s.length 0 ()) fun o3 => o3.andThen (fun y => some y) fun s4 =>
  some (-1)

/-- slices ContainsFunc porterslodge staff Form porterslodge staff Form -/
def slices_ContainsFunc_Lstaff_Form_staff_Form (s : (List staff_Form)) (f : staff_Form → Option Bool) : Option Bool :=
  Option.bind (slices_IndexFunc_Lstaff_Form_staff_Form s f) fun x3 =>
  some (decide ((0 : Int) ≤ x3))

/-- porterslodge portref2 PlanOf 2 -/
def portref2_PlanOf_2 (f : staff_Form) (p1 : staff_Form → Int → Option Bool) (p2 : Int) : Option Bool :=
  Option.bind (p1 f p2) fun x8 =>
  some x8

/-- porterslodge portref2 PlanOf 1 -/
def portref2_PlanOf_1 (f : staff_Form) (s : Int) : Option Bool :=
  some ((decide (f.from_ ≤ s)) && (decide (s < (w64 (f.from_ + f.slots)))))

/-- porterslodge portref2 cover -/
noncomputable def portref2_cover (forms : (List staff_Form)) (slots : Int) (plan : (List Int)) : Option (List Int) :=
  Option.bind (makeL 35184372088832 slots (0 : Int)) fun x5 =>
  Option.bind (rangeB (fun k14 s22 => Option.bind (Option.bind (idx forms (k14 : Int)) fun x47 => Option.bind (whileB (R := Empty) (fun s72 => if (decide (s72.2 < slots)) = true then Option.bind (Option.bind (if ((decide (x47.from_ ≤ s72.2)) && (decide (s72.2 < (w64 (x47.from_ + x47.slots))))) = true then Option.bind (idx s72.1 s72.2) fun x112 => Option.bind (idx plan (k14 : Int)) fun x117 => Option.bind (setI s72.1 s72.2 (w64 (x112 + x117))) fun x128 => some x128 else some s72.1) fun s102 => some s102) fun s87 => some (.nx (s87, w64 (s72.2 + 1))) else some (.bk (s72.1, s72.2))) (s22, 0)) fun o60 => o60.andThen (fun y => y.elim) fun s61 => some s61.1) fun s38 => some (.nx s38)) forms.length 0 x5) fun o11 => o11.andThen (fun y => some y) fun s12 =>
  some s12

/-- porterslodge portref2 PlanOf -/
noncomputable def portref2_PlanOf (forms : (List staff_Form)) (demand : (List Int)) : Option ((List Int) × Int) :=
  Option.bind (portref2_FormsFault forms) fun x5 =>
  if (x5 != 0) = true then
    some (([] : (List Int)), x5)
  else
    Option.bind (portref2_demandFault demand 60) fun x10 =>
    if (x10 != 0) = true then
      some (([] : (List Int)), x10)
    else
      Option.bind (rangeB (fun k27 _ => Option.bind (idx demand (k27 : Int)) fun x46 => Option.bind (if (decide ((0 : Int) < x46)) = true then (Option.bind (slices_ContainsFunc_Lstaff_Form_staff_Form forms (fun y67 => portref2_PlanOf_2 y67 (fun y68 y69 => portref2_PlanOf_1 y68 y69) (k27 : Int))) fun x70 => some (!x70)) else (some false)) fun s59 => if s59 = true then some (.rt (([] : (List Int)), 7)) else some (.nx ())) demand.length 0 ()) fun o24 => o24.andThen (fun y => some y) fun s25 =>
      Option.bind (makeL 35184372088832 (forms.length : Int) (0 : Int)) fun x100 =>
      Option.bind (rangeB (fun k109 s117 => Option.bind (Option.bind (idx demand (k109 : Int)) fun x142 => Option.bind (whileB (R := Empty) (fun s157 => Option.bind (portref2_cover forms (w64 ((k109 : Int) + 1)) s157) fun x170 => Option.bind (idx x170 (k109 : Int)) fun x178 => if (decide (x178 < x142)) = true then Option.bind (rangeB (fun k187 s193 => Option.bind (Option.bind (idx forms (k187 : Int)) fun x214 => Option.bind (portref2_PlanOf_1 x214 (k109 : Int)) fun x228 => Option.bind (if x228 = true then (Option.bind (if (decide (s193 < 0)) = true then (some true) else (Option.bind (idx forms s193) fun x235 => some (decide ((w64 (x235.from_ + x235.slots)) < (w64 (x214.from_ + x214.slots)))))) fun s232 => some s232) else (some false)) fun s230 => Option.bind (if s230 = true then some (k187 : Int) else some s193) fun s248 => some s248) fun s207 => some (.nx s207)) forms.length 0 (-1)) fun o184 => o184.andThen (fun y => some (.rt y)) fun s185 => Option.bind (idx s157 s185) fun x260 => Option.bind (setI s157 s185 (w64 (x260 + 1))) fun x269 => some (.nx x269) else some (.bk s157)) s117) fun o146 => o146.andThen (fun y => y.elim) fun s147 => some s147) fun s133 => some (.nx s133)) demand.length 0 x100) fun o106 => o106.andThen (fun y => some y) fun s107 =>
      Option.bind (portref2_outside s107 60) fun x280 =>
      if x280 = true then
        some (([] : (List Int)), 4)
      else
        some (s107, 0)

/-- slices Equal int int -/
def slices_Equal_Lint_int (s1 : (List Int)) (s2 : (List Int)) : Option Bool :=
  if ((s1.length : Int) != (s2.length : Int)) = true then
    some false
  else
    Option.bind (rangeB (fun k9 _ => Option.bind (idx s1 (k9 : Int)) fun x29 => Option.bind (idx s2 (k9 : Int)) fun x33 => if (x29 != x33) = true then some (.rt false) else some (.nx ())) s1.length 0 ()) fun o6 => o6.andThen (fun y => some y) fun s7 =>
    some true

/-- porterslodge portlaw2 PlanMakes -/
noncomputable def portlaw2_PlanMakes (forms : (List staff_Form)) (demand : (List Int)) : Option Bool :=
  Option.bind (staff_Plan forms demand) fun x5 =>
  Option.bind (portref2_PlanOf forms demand) fun x14 =>
  Option.bind (if (x5.2 == x14.2) = true then (Option.bind (slices_Equal_Lint_int x5.1 x14.1) fun x31 => some x31) else (some false)) fun s23 =>
  some s23

end Go.Proofs.Ytlclnbcjebpfkaa.M
