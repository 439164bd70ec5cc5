/-
  Written by program (gen.py) from the IR of the dump: plain models of the functions.
-/
import Derived.Test.YtcehkbhloaeflaaDoorPu
namespace Go.Proofs.YtcehkbhloaeflaaDoor.M
open Go Go.Pu
set_option linter.unusedVariables false
set_option linter.unusedSimpArgs false

structure staff_Load where
  calls : Int
  length : Int
  span : Int

structure staff_Promise where
  share : Int
  of : Int
  wait : Int
  parts : Int

structure staff_Form where
  from_ : Int
  slots : Int

structure staff_Ratio where
  num : ByteArray
  den : ByteArray

structure staff_ratio where
  num : (List Int)
  den : (List Int)

/-- porterslodge staff RatioOf -/
def staff_RatioOf (num : Int) (den : Int) : Option (staff_Ratio × Int) :=
  if ((decide (num < 0)) || (decide (den < 1))) = true then
    some ((⟨ByteArray.empty, ByteArray.empty⟩ : staff_Ratio), 2)
  else
    none

/-- porterslodge porttop awakeStaff -/
def porttop_awakeStaff  : Option Bool :=
  Option.bind (staff_RatioOf 1 0) fun x1 =>
  some (x1.2 != 0)

/-- porterslodge staff within -/
def staff_within (n : Int) (low : Int) (high : Int) : Bool :=
  ((decide (low ≤ n)) && (decide (n ≤ high)))

/-- porterslodge staff checkLoad -/
def staff_checkLoad (l : staff_Load) : Option Int :=
  if (((!(staff_within l.calls 0 100000)) || (!(staff_within l.length 1 1440))) || (!(staff_within l.span 1 10080))) = true then
    some 2
  else
    some 0

/-- porterslodge staff checkPromise -/
def staff_checkPromise (p : staff_Promise) : Option Int :=
  if (((((decide (p.share < 0)) || (decide (p.of < p.share))) || (!(staff_within p.of 1 1000000))) || (!(staff_within p.wait 0 1000000))) || (!(staff_within p.parts 1 1000000))) = true then
    some 2
  else
    some 0

/-- cmp Or porterslodge api Errno -/
def cmp_Or_api_Errno (vals : (List Int)) : Option Int :=
  Option.bind (rangeB (fun k6 _ => Option.bind (idx vals (k6 : Int)) fun x21 => if (x21 != 0) = true then some (.rt x21) else some (.nx ())) vals.length 0 ()) fun o3 => o3.andThen (fun y => some y) fun s4 =>
  some 0

/-- porterslodge staff Load offered -/
def staff_Load_offered (l : staff_Load) : Option (Int × Int) :=
  some (w64 (l.calls * l.length), l.span)

/-- porterslodge staff Load enough -/
def staff_Load_enough (l : staff_Load) (n : Int) : Option Bool :=
  Option.bind (staff_Load_offered l) fun x8 =>
  some (decide (x8.1 < (w64 (n * x8.2))))

/-- porterslodge staff nat trimmed -/
noncomputable def staff_nat_trimmed (a_ : (List Int)) : Option (List Int) :=
  Option.bind (whileB (fun s12 => Option.bind (if (decide ((0 : Int) < (s12.length : Int))) = true then (Option.bind (idx s12 (w64 ((s12.length : Int) - 1))) fun x25 => some (x25 == 0)) else (some false)) fun s24 => if s24 = true then Option.bind (sliceL s12 none (some (w64 ((s12.length : Int) - 1)))) fun x30 => some (.nx x30) else some (.bk s12)) a_) fun o3 => o3.andThen (fun y => some y) fun s4 =>
  some s4

/-- porterslodge staff nat small -/
noncomputable def staff_nat_small (a_ : (List Int)) (n : Int) : Option (List Int) :=
  Option.bind (makeL 35184372088832 (w64 ((a_.length : Int) + 1)) (0 : Int)) fun x3 =>
  Option.bind (rangeB (fun k12 s20 => Option.bind (idx a_ (k12 : Int)) fun x35 => Option.bind (idx s20.1 (k12 : Int)) fun x39 => Option.bind (setI s20.1 (k12 : Int) (Int.tmod (w64 ((w64 (x35 * n)) + s20.2)) 1000000000)) fun x44 => some (.nx (x44, w64 (Int.tdiv (w64 ((w64 (x35 * n)) + s20.2)) 1000000000)))) a_.length 0 (x3, 0)) fun o9 => o9.andThen (fun y => some y) fun s10 =>
  Option.bind (idx s10.1 (a_.length : Int)) fun x51 =>
  Option.bind (setI s10.1 (a_.length : Int) s10.2) fun x56 =>
  Option.bind (staff_nat_trimmed x56) fun x65 =>
  some x65

/-- porterslodge staff nat plus -/
noncomputable def staff_nat_plus (a_ : (List Int)) (b : (List Int)) : Option (List Int) :=
  Option.bind (if (decide ((a_.length : Int) < (b.length : Int))) = true then some (b, a_) else some (a_, b)) fun s6 =>
  Option.bind (makeC 35184372088832 (s6.1.length : Int) (w64 ((s6.1.length : Int) + 1)) (0 : Int)) fun x18 =>
  Option.bind (whileB (fun s38 => if ((decide (s38.2.2 < (s38.1.length : Int))) && ((decide (s38.2.2 < (s6.2.length : Int))) || (decide ((0 : Int) < s38.2.1)))) = true then Option.bind (idx s38.1 s38.2.2) fun x56 => Option.bind (if (decide (s38.2.2 < (s6.2.length : Int))) = true then Option.bind (idx s6.2 s38.2.2) fun x69 => some (w64 ((w64 (x56 + s38.2.1)) + x69)) else some (w64 (x56 + s38.2.1))) fun s62 => Option.bind (setI s38.1 s38.2.2 (Int.tmod s62 1000000000)) fun x79 => some (.nx (x79, w64 (Int.tdiv s62 1000000000), w64 (s38.2.2 + 1))) else some (.bk (s38.1, s38.2.1, s38.2.2))) ((copyL x18 s6.1), 0, 0)) fun o27 => o27.andThen (fun y => some y) fun s28 =>
  Option.bind (if (decide ((0 : Int) < s28.2.1)) = true then Option.bind (appendL 17592186044416 s28.1 ([s28.2.1] : List Int)) fun x102 => some x102 else some s28.1) fun s87 =>
  some s87

/-- porterslodge staff Load blocked -/
noncomputable def staff_Load_blocked (l : staff_Load) (n : Int) : Option staff_ratio :=
  Option.bind (staff_Load_offered l) fun x14 =>
  Option.bind (whileB (fun s61 => if (decide (s61.1 < n)) = true then Option.bind (staff_nat_small s61.2.num x14.1) fun x77 => Option.bind (staff_nat_small s61.2.den (w64 ((w64 (s61.1 + 1)) * x14.2))) fun x83 => Option.bind (staff_nat_plus x83 x77) fun x89 => some (.nx (w64 (s61.1 + 1), (⟨x77, x89⟩ : staff_ratio))) else some (.bk (s61.1, s61.2))) (0, (⟨([1] : List Int), ([1] : List Int)⟩ : staff_ratio))) fun o48 => o48.andThen (fun y => some y) fun s49 =>
  some s49.2

/-- porterslodge staff Load waits -/
noncomputable def staff_Load_waits (l : staff_Load) (n : Int) : Option staff_ratio :=
  if (l.calls == 0) = true then
    some (⟨([] : (List Int)), ([1] : List Int)⟩ : staff_ratio)
  else
    Option.bind (staff_Load_enough l n) fun x31 =>
    if (!x31) = true then
      some (⟨([1] : List Int), ([1] : List Int)⟩ : staff_ratio)
    else
      Option.bind (staff_Load_offered l) fun x63 =>
      Option.bind (staff_Load_blocked l n) fun x69 =>
      Option.bind (staff_nat_small x69.num (w64 (n * x63.2))) fun x106 =>
      Option.bind (staff_nat_small x69.den (w64 ((w64 (n * x63.2)) - x63.1))) fun x112 =>
      Option.bind (staff_nat_small x69.num x63.1) fun x118 =>
      Option.bind (staff_nat_plus x112 x118) fun x124 =>
      some (⟨x106, x124⟩ : staff_ratio)

/-- porterslodge staff Load meanWait -/
noncomputable def staff_Load_meanWait (l : staff_Load) (n : Int) : Option (staff_ratio × Bool) :=
  if (l.calls == 0) = true then
    some ((⟨([] : (List Int)), ([1] : List Int)⟩ : staff_ratio), true)
  else
    Option.bind (staff_Load_enough l n) fun x31 =>
    if (!x31) = true then
      some ((⟨([] : (List Int)), ([] : (List Int))⟩ : staff_ratio), false)
    else
      Option.bind (staff_Load_offered l) fun x41 =>
      Option.bind (staff_Load_waits l n) fun x46 =>
      Option.bind (staff_nat_small x46.num (w64 (l.length * x41.2))) fun x80 =>
      Option.bind (staff_nat_small x46.den (w64 ((w64 (n * x41.2)) - x41.1))) fun x86 =>
      some ((⟨x80, x86⟩ : staff_ratio), true)

/-- porterslodge staff natOf -/
noncomputable def staff_natOf (n : Int) : Option (List Int) :=
  Option.bind (whileB (fun s12 => if (decide ((0 : Int) < s12.1)) = true then Option.bind (appendL 17592186044416 s12.2 ([Int.tmod s12.1 1000000000] : List Int)) fun x31 => some (.nx (w64 (Int.tdiv s12.1 1000000000), x31)) else some (.bk (s12.1, s12.2))) (n, ([] : (List Int)))) fun o1 => o1.andThen (fun y => some y) fun s2 =>
  some s2.2

/-- porterslodge staff nat times -/
noncomputable def staff_nat_times (a_ : (List Int)) (b : (List Int)) : Option (List Int) :=
  if (((a_.length : Int) == 0) || ((b.length : Int) == 0)) = true then
    some ([] : (List Int))
  else
    Option.bind (makeL 35184372088832 (w64 ((a_.length : Int) + (b.length : Int))) (0 : Int)) fun x8 =>
    Option.bind (rangeB (fun k17 s25 => Option.bind (Option.bind (idx a_ (k17 : Int)) fun x50 => Option.bind (rangeB (R := Empty) (fun k57 s65 => Option.bind (idx b (k57 : Int)) fun x80 => Option.bind (idx s65.1 (w64 ((k17 : Int) + (k57 : Int)))) fun x84 => Option.bind (setI s65.1 (w64 ((k17 : Int) + (k57 : Int))) (Int.tmod (w64 ((w64 (x84 + (w64 (x50 * x80)))) + s65.2)) 1000000000)) fun x93 => some (.nx (x93, w64 (Int.tdiv (w64 ((w64 (x84 + (w64 (x50 * x80)))) + s65.2)) 1000000000)))) b.length 0 (s25, 0)) fun o54 => o54.andThen (fun y => y.elim) fun s55 => Option.bind (whileB (R := Empty) (fun s111 => if (decide ((0 : Int) < s111.2.1)) = true then Option.bind (idx s111.1 s111.2.2) fun x125 => Option.bind (setI s111.1 s111.2.2 (Int.tmod (w64 (x125 + s111.2.1)) 1000000000)) fun x134 => some (.nx (x134, w64 (Int.tdiv (w64 (x125 + s111.2.1)) 1000000000), w64 (s111.2.2 + 1))) else some (.bk (s111.1, s111.2.1, s111.2.2))) (s55.1, s55.2, w64 ((k17 : Int) + (b.length : Int)))) fun o100 => o100.andThen (fun y => y.elim) fun s101 => some s101.1) fun s41 => some (.nx s41)) a_.length 0 x8) fun o14 => o14.andThen (fun y => some y) fun s15 =>
    Option.bind (staff_nat_trimmed s15) fun x150 =>
    some x150

/-- porterslodge staff nat compare -/
noncomputable def staff_nat_compare (a_ : (List Int)) (b : (List Int)) : Option Int :=
  if ((a_.length : Int) != (b.length : Int)) = true then
    if (decide ((a_.length : Int) < (b.length : Int))) = true then
      some (-1)
    else
      some 1
  else
    Option.bind (whileB (fun s16 => if (decide ((0 : Int) ≤ s16)) = true then Option.bind (idx a_ s16) fun x28 => Option.bind (idx b s16) fun x32 => if (x28 != x32) = true then if (decide (x28 < x32)) = true then some (.rt (-1)) else some (.rt 1) else some (.nx (w64 (s16 - 1))) else some (.bk s16)) (w64 ((a_.length : Int) - 1))) fun o7 => o7.andThen (fun y => some y) fun s8 =>
    some 0

/-- porterslodge staff ratio compare -/
noncomputable def staff_ratio_compare (r_ : staff_ratio) (s : staff_ratio) : Option Int :=
  Option.bind (staff_nat_times r_.num s.den) fun x41 =>
  Option.bind (staff_nat_times s.num r_.den) fun x47 =>
  Option.bind (staff_nat_compare x41 x47) fun x53 =>
  some x53

/-- porterslodge staff Load keeps -/
noncomputable def staff_Load_keeps (l : staff_Load) (p : staff_Promise) (n : Int) : Option Bool :=
  Option.bind (staff_Load_meanWait l n) fun x15 =>
  Option.bind (if x15.2 = true then (Option.bind (staff_Load_waits l n) fun x52 => Option.bind (staff_natOf p.share) fun x60 => Option.bind (staff_natOf p.of) fun x68 => Option.bind (staff_ratio_compare x52 (⟨x60, x68⟩ : staff_ratio)) fun x82 => if (decide (x82 ≤ 0)) = true then (Option.bind (staff_natOf p.wait) fun x94 => Option.bind (staff_natOf p.parts) fun x102 => Option.bind (staff_ratio_compare x15.1 (⟨x94, x102⟩ : staff_ratio)) fun x116 => some (decide (x116 ≤ 0))) else (some false)) else (if false = true then (Option.bind (staff_natOf p.wait) fun x130 => Option.bind (staff_natOf p.parts) fun x138 => Option.bind (staff_ratio_compare x15.1 (⟨x130, x138⟩ : staff_ratio)) fun x152 => some (decide (x152 ≤ 0))) else (some false))) fun s38 =>
  some s38

/-- porterslodge staff Staff -/
noncomputable def staff_Staff (l : staff_Load) (p : staff_Promise) : Option (Int × Int) :=
  Option.bind (staff_checkLoad l) fun x15 =>
  Option.bind (staff_checkPromise p) fun x17 =>
  Option.bind (cmp_Or_api_Errno ([x15, x17] : List Int)) fun x26 =>
  if (x26 != 0) = true then
    some (0, x26)
  else
    Option.bind (whileB (fun s38 => if (decide (s38 < 61)) = true then Option.bind (staff_Load_keeps l p s38) fun x52 => if x52 = true then some (.rt (s38, 0)) else some (.nx (w64 (s38 + 1))) else some (.bk s38)) 0) fun o28 => o28.andThen (fun y => some y) fun s29 =>
    some (0, 7)

/-- porterslodge staff Demand -/
noncomputable def staff_Demand (l : (List staff_Load)) (p : staff_Promise) : Option ((List Int) × Int) :=
  if (decide ((400 : Int) < (l.length : Int))) = true then
    some (([] : (List Int)), 4)
  else
    Option.bind (rangeB (fun k13 _ => Option.bind (idx l (k13 : Int)) fun x32 => Option.bind (staff_checkLoad x32) fun x46 => if (x46 != 0) = true then some (.rt (([] : (List Int)), x46)) else some (.nx ())) l.length 0 ()) fun o10 => o10.andThen (fun y => some y) fun s11 =>
    Option.bind (staff_checkPromise p) fun x55 =>
    if (x55 != 0) = true then
      some (([] : (List Int)), x55)
    else
      Option.bind (rangeB (fun k63 s72 => Option.bind (idx l (k63 : Int)) fun x87 => Option.bind (staff_Staff x87 p) fun x102 => if (x102.2 != 0) = true then some (.rt (([] : (List Int)), x102.2)) else Option.bind (appendL 17592186044416 s72 ([x102.1] : List Int)) fun x112 => some (.nx x112)) l.length 0 ([] : (List Int))) fun o60 => o60.andThen (fun y => some y) fun s61 =>
      some (s61, 0)

/-- cmp isNaN int -/
def cmp_isNaN_int (x : Int) : Bool :=
  x != x

/-- cmp Compare int -/
def cmp_Compare_int (x : Int) (y : Int) : Int :=
  if (cmp_isNaN_int x) = true then
    if (cmp_isNaN_int y) = true then
      0
    else
      (-1)
  else
    if (cmp_isNaN_int y) = true then
      1
    else
      if (decide (x < y)) = true then
        (-1)
      else
        if (decide (y < x)) = true then
          1
        else
          0

/-- cmp Or int -/
def cmp_Or_int (vals : (List Int)) : Option Int :=
  Option.bind (rangeB (fun k6 _ => Option.bind (idx vals (k6 : Int)) fun x21 => if (x21 != 0) = true then some (.rt x21) else some (.nx ())) vals.length 0 ()) fun o3 => o3.andThen (fun y => some y) fun s4 =>
  some 0

/-- porterslodge staff CheckForms -/
def staff_CheckForms (l : (List staff_Form)) : Option Int :=
  if (decide ((60 : Int) < (l.length : Int))) = true then
    some 4
  else
    Option.bind (rangeB (fun k7 _ => Option.bind (idx l (k7 : Int)) fun x27 => if ((!(staff_within x27.from_ 0 399)) || (!(staff_within x27.slots 1 (w64 (400 - x27.from_))))) = true then some (.rt 2) else Option.bind (if (decide ((0 : Int) < (k7 : Int))) = true then (Option.bind (idx l (w64 ((k7 : Int) - 1))) fun x56 => Option.bind (cmp_Or_int ([(cmp_Compare_int x27.from_ x56.from_), (cmp_Compare_int x27.slots x56.slots)] : List Int)) fun x74 => some (decide (x74 ≤ 0))) else (some false)) fun s47 => if s47 = true then some (.rt 5) else some (.nx ())) l.length 0 ()) fun o4 => o4.andThen (fun y => some y) fun s5 =>
    some 0

/-- porterslodge staff checkNumbers -/
def staff_checkNumbers (l : (List Int)) (most : Int) : Option Int :=
  Option.bind (rangeB (fun k6 _ => Option.bind (idx l (k6 : Int)) fun x21 => if (!(staff_within x21 0 most)) = true then some (.rt 2) else some (.nx ())) l.length 0 ()) fun o3 => o3.andThen (fun y => some y) fun s4 =>
  some 0

/-- porterslodge staff checkDemand -/
def staff_checkDemand (l : (List Int)) (most : Int) : Option Int :=
  if (decide ((400 : Int) < (l.length : Int))) = true then
    some 4
  else
    Option.bind (staff_checkNumbers l most) fun x4 =>
    some x4

/-- porterslodge staff longest -/
def staff_longest (forms : (List staff_Form)) (slot : Int) : Option Int :=
  Option.bind (rangeB (fun k6 s12 => Option.bind (Option.bind (idx forms (k6 : Int)) fun x33 => Option.bind (if ((decide (x33.from_ ≤ slot)) && (decide (slot < (w64 (x33.from_ + x33.slots))))) = true then (Option.bind (if (decide (s12 < 0)) = true then (some true) else (Option.bind (idx forms s12) fun x57 => some (decide ((w64 (x57.from_ + x57.slots)) < (w64 (x33.from_ + x33.slots)))))) fun s54 => some s54) else (some false)) fun s52 => Option.bind (if s52 = true then some (k6 : Int) else some s12) fun s70 => some s70) fun s26 => some (.nx s26)) forms.length 0 (-1)) fun o3 => o3.andThen (fun y => some y) fun s4 =>
  some s4

/-- porterslodge staff Plan -/
noncomputable def staff_Plan (forms : (List staff_Form)) (demand : (List Int)) : Option ((List Int) × Int) :=
  Option.bind (staff_CheckForms forms) fun x5 =>
  Option.bind (staff_checkDemand demand 60) fun x9 =>
  Option.bind (cmp_Or_api_Errno ([x5, x9] : List Int)) fun x15 =>
  if (x15 != 0) = true then
    some (([] : (List Int)), x15)
  else
    Option.bind (rangeB (fun k20 _ => Option.bind (idx demand (k20 : Int)) fun x39 => Option.bind (if (decide ((0 : Int) < x39)) = true then (Option.bind (staff_longest forms (k20 : Int)) fun x52 => some (decide (x52 < 0))) else (some false)) fun s44 => if s44 = true then some (.rt (([] : (List Int)), 7)) else some (.nx ())) demand.length 0 ()) fun o17 => o17.andThen (fun y => some y) fun s18 =>
    Option.bind (makeL 35184372088832 (forms.length : Int) (0 : Int)) fun x62 =>
    Option.bind (makeL 35184372088832 (demand.length : Int) (0 : Int)) fun x69 =>
    Option.bind (rangeB (fun k78 s88 => Option.bind (α := Lp _ _) (Option.bind (idx demand (k78 : Int)) fun x117 => Option.bind (idx s88.2 (k78 : Int)) fun x121 => if (decide ((w64 (x117 - x121)) ≤ 0)) = true then some (.fin (s88.1, s88.2)) else Option.bind (staff_longest forms (k78 : Int)) fun x128 => Option.bind (idx s88.1 x128) fun x132 => Option.bind (setI s88.1 x128 (w64 (x132 + (w64 (x117 - x121))))) fun x141 => Option.bind (idx x141 x128) fun x145 => if (decide ((60 : Int) < x145)) = true then some (.rt (([] : (List Int)), 4)) else Option.bind (idx forms x128) fun x151 => Option.bind (whileB (fun s167 => if (decide (s167.2 < (if w64 (x151.from_ + x151.slots) < (s167.1.length : Int) then w64 (x151.from_ + x151.slots) else (s167.1.length : Int)))) = true then Option.bind (idx s167.1 s167.2) fun x192 => Option.bind (setI s167.1 s167.2 (w64 (x192 + (w64 (x117 - x121))))) fun x201 => some (.nx (x201, w64 (s167.2 + 1))) else some (.bk (s167.1, s167.2))) (s88.2, x151.from_)) fun o156 => o156.andThen (fun y => some (.rt y)) fun s157 => some (.fin (x141, s157.1))) fun o105 => o105.andThen (fun y => some (.rt y)) fun s106 => some (.nx (s106.1, s106.2))) demand.length 0 (x62, x69)) fun o75 => o75.andThen (fun y => some y) fun s76 =>
    some (s76.1, 0)

/-- porterslodge staff checkPlan -/
def staff_checkPlan (forms : (List staff_Form)) (plan : (List Int)) : Option Int :=
  if ((plan.length : Int) != (forms.length : Int)) = true then
    some 1
  else
    Option.bind (staff_checkNumbers plan 60) fun x6 =>
    some x6

/-- porterslodge staff cover -/
noncomputable def staff_cover (forms : (List staff_Form)) (slots : Int) (plan : (List Int)) : Option (List Int) :=
  Option.bind (makeL 35184372088832 slots (0 : Int)) fun x5 =>
  Option.bind (rangeB (fun k14 s22 => Option.bind (Option.bind (idx forms (k14 : Int)) fun x47 => Option.bind (whileB (R := Empty) (fun s72 => if (decide (s72.2 < (if w64 (x47.from_ + x47.slots) < slots then w64 (x47.from_ + x47.slots) else slots))) = true then Option.bind (idx s72.1 s72.2) fun x88 => Option.bind (idx plan (k14 : Int)) fun x93 => Option.bind (setI s72.1 s72.2 (w64 (x88 + x93))) fun x104 => some (.nx (x104, w64 (s72.2 + 1))) else some (.bk (s72.1, s72.2))) (s22, x47.from_)) fun o61 => o61.andThen (fun y => y.elim) fun s62 => some s62.1) fun s38 => some (.nx s38)) forms.length 0 x5) fun o11 => o11.andThen (fun y => some y) fun s12 =>
  some s12

/-- porterslodge staff Cover -/
noncomputable def staff_Cover (forms : (List staff_Form)) (slots : Int) (plan : (List Int)) : Option ((List Int) × Int) :=
  Option.bind (staff_CheckForms forms) fun x5 =>
  Option.bind (staff_checkPlan forms plan) fun x9 =>
  Option.bind (cmp_Or_api_Errno ([x5, x9] : List Int)) fun x15 =>
  if (x15 != 0) = true then
    some (([] : (List Int)), x15)
  else
    if (!(staff_within slots 0 400)) = true then
      some (([] : (List Int)), 2)
    else
      Option.bind (staff_cover forms slots plan) fun x18 =>
      some (x18, 0)

/-- porterslodge staff checkPeople -/
def staff_checkPeople (n : Int) : Int :=
  if (!(staff_within n 0 60)) = true then
    2
  else
    0

/-- porterslodge staff Keeps -/
noncomputable def staff_Keeps (l : staff_Load) (p : staff_Promise) (n : Int) : Option (Bool × Int) :=
  Option.bind (staff_checkLoad l) fun x15 =>
  Option.bind (staff_checkPromise p) fun x17 =>
  Option.bind (cmp_Or_api_Errno ([x15, (staff_checkPeople n), x17] : List Int)) fun x26 =>
  if (x26 != 0) = true then
    some (false, x26)
  else
    Option.bind (staff_Load_keeps l p n) fun x30 =>
    some (x30, 0)

/-- porterslodge porttop TopStaffed -/
noncomputable def porttop_TopStaffed (loads : (List staff_Load)) (p : staff_Promise) (forms : (List staff_Form)) : Option Bool :=
  Option.bind (porttop_awakeStaff) fun x11 =>
  if (!x11) = true then
    some false
  else
    Option.bind (staff_Demand loads p) fun x17 =>
    if (x17.2 != 0) = true then
      some ((x17.1.length : Int) == 0)
    else
      Option.bind (staff_Plan forms x17.1) fun x26 =>
      if (x26.2 != 0) = true then
        some ((x26.1.length : Int) == 0)
      else
        Option.bind (staff_Cover forms (loads.length : Int) x26.1) fun x35 =>
        if (((x35.2 != 0) || ((x35.1.length : Int) != (loads.length : Int))) || ((x17.1.length : Int) != (loads.length : Int))) = true then
          some false
        else
          Option.bind (rangeB (fun k51 _ => Option.bind (α := Lp _ _) (Option.bind (idx loads (k51 : Int)) fun x78 => Option.bind (idx x35.1 (k51 : Int)) fun x91 => Option.bind (idx x17.1 (k51 : Int)) fun x96 => if (decide (x91 < x96)) = true then some (.rt false) else Option.bind (staff_Keeps x78 p (if 60 < x91 then 60 else x91)) fun x111 => if ((!x111.1) || (x111.2 != 0)) = true then some (.rt false) else Option.bind (α := Lp _ _) (if (decide ((0 : Int) < x96)) = true then Option.bind (staff_Keeps x78 p (w64 (x96 - 1))) fun x137 => if x137.1 = true then some (.rt false) else some (.fin ()) else some (.fin ())) fun o122 => o122.andThen (fun y => some (.rt y)) fun s123 => some (.fin ())) fun o70 => o70.andThen (fun y => some (.rt y)) fun s71 => some (.nx ())) loads.length 0 ()) fun o48 => o48.andThen (fun y => some y) fun s49 =>
          some true

end Go.Proofs.YtcehkbhloaeflaaDoor.M
