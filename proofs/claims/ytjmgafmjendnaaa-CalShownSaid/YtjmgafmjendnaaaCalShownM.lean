/-
  Written by program (gen.py) from the IR of the dump: plain models of the functions.
-/
import Derived.Test.YtjmgafmjendnaaaPu
namespace Go.Proofs.Ytjmgafmjendnaaa.M
open Go Go.Pu
set_option linter.unusedVariables false

structure cal_Change where
  at_ : Int
  offset : Int

structure cal_Zone where
  offset : Int
  changes : (List cal_Change)

structure cal_part where
  from_ : Int
  to_ : Int
  offset : Int

/-- porterslodge cal within -/
def cal_within (n : Int) (low : Int) (high : Int) : Bool :=
  ((decide (low ≤ n)) && (decide (n ≤ high)))

/-- porterslodge cal CheckZone -/
def cal_CheckZone (z : cal_Zone) : Option Int :=
  if (!(cal_within z.offset (-1440) 1440)) = true then
    some 2
  else
    if (decide ((60 : Int) < (z.changes.length : Int))) = true then
      some 4
    else
      Option.bind (rangeB (fun k27 s33 => Option.bind (idx z.changes (k27 : Int)) fun x46 => if ((!(cal_within x46.at_ 1 3000000)) || (!(cal_within x46.offset (-1440) 1440))) = true then some (.rt 2) else if (decide (x46.at_ ≤ s33.1)) = true then some (.rt 5) else if (x46.offset == s33.2) = true then some (.rt 1) else some (.nx (x46.at_, x46.offset))) z.changes.length 0 (0, z.offset)) fun o24 => o24.andThen (fun y => some y) fun s25 =>
      some 0

/-- porterslodge cal localTime -/
def cal_localTime (day : Int) (minute : Int) : Int :=
  if ((!(cal_within day (-1) 2084)) || (!(cal_within minute 0 1439))) = true then
    2
  else
    0

/-- cmp Or porterslodge api Errno -/
def cmp_Or_api_Errno (vals : (List Int)) : Option Int :=
  Option.bind (rangeB (fun k6 _ => Option.bind (idx vals (k6 : Int)) fun x21 => if (x21 != 0) = true then some (.rt x21) else some (.nx ())) vals.length 0 ()) fun o3 => o3.andThen (fun y => some y) fun s4 =>
  some 0

/-- porterslodge cal Zone parts -/
def cal_Zone_parts (z : cal_Zone) : Option (List cal_part) :=
  Option.bind (rangeB (fun k24 s32 => Option.bind (idx z.changes (k24 : Int)) fun x47 => Option.bind (idx s32 (w64 ((s32.length : Int) - 1))) fun x61 => Option.bind (setI s32 (w64 ((s32.length : Int) - 1)) ({ (x61 : cal_part) with to_ := x47.at_ })) fun x67 => Option.bind (appendL 5864062014805 x67 ([(⟨x47.at_, 3000001, x47.offset⟩ : cal_part)] : List cal_part)) fun x78 => some (.nx x78)) z.changes.length 0 ([(⟨0, 3000001, z.offset⟩ : cal_part)] : List cal_part)) fun o21 => o21.andThen (fun y => some y) fun s22 =>
  some s22

/-- porterslodge cal Shown -/
def cal_Shown (z : cal_Zone) (day : Int) (minute : Int) : Option ((List Int) × Int) :=
  Option.bind (cal_CheckZone z) fun x12 =>
  Option.bind (cmp_Or_api_Errno ([x12, (cal_localTime day minute)] : List Int)) fun x21 =>
  if (x21 != 0) = true then
    some (([] : (List Int)), x21)
  else
    Option.bind (cal_Zone_parts z) fun x26 =>
    Option.bind (rangeB (fun k37 s45 => Option.bind (Option.bind (idx x26 (k37 : Int)) fun x70 => Option.bind (if ((decide (x70.from_ ≤ (w64 ((w64 ((w64 (day * 1440)) + minute)) - x70.offset)))) && (decide ((w64 ((w64 ((w64 (day * 1440)) + minute)) - x70.offset)) < x70.to_))) = true then Option.bind (appendL 17592186044416 s45 ([w64 ((w64 ((w64 (day * 1440)) + minute)) - x70.offset)] : List Int)) fun x105 => some x105 else some s45) fun s90 => some s90) fun s61 => some (.nx s61)) x26.length 0 ([] : (List Int))) fun o34 => o34.andThen (fun y => some y) fun s35 =>
    some (s35, 0)

/-- porterslodge cal Earliest -/
def cal_Earliest (z : cal_Zone) (day : Int) (minute : Int) : Option (Int × Int) :=
  Option.bind (cal_CheckZone z) fun x12 =>
  Option.bind (cmp_Or_api_Errno ([x12, (cal_localTime day minute)] : List Int)) fun x21 =>
  if (x21 != 0) = true then
    some (0, x21)
  else
    Option.bind (cal_Zone_parts z) fun x26 =>
    Option.bind (rangeB (fun k37 _ => Option.bind (idx x26 (k37 : Int)) fun x56 => if (decide ((if x56.from_ < w64 ((w64 ((w64 (day * 1440)) + minute)) - x56.offset) then w64 ((w64 ((w64 (day * 1440)) + minute)) - x56.offset) else x56.from_) < x56.to_)) = true then some (.rt ((if x56.from_ < w64 ((w64 ((w64 (day * 1440)) + minute)) - x56.offset) then w64 ((w64 ((w64 (day * 1440)) + minute)) - x56.offset) else x56.from_), 0)) else some (.nx ())) x26.length 0 ()) fun o34 => o34.andThen (fun y => some y) fun s35 =>
    some (0, 7)

/-- porterslodge portref2 ZoneFault 1 -/
def portref2_ZoneFault_1 (n : Int) : Bool :=
  ((decide (n < (-1440))) || (decide ((1440 : Int) < n)))

/-- porterslodge portref2 ZoneFault -/
def portref2_ZoneFault (z : cal_Zone) : Option Int :=
  if (portref2_ZoneFault_1 z.offset) = true then
    some 2
  else
    if (decide ((60 : Int) < (z.changes.length : Int))) = true then
      some 4
    else
      Option.bind (rangeB (fun k24 s30 => Option.bind (idx z.changes (k24 : Int)) fun x43 => Option.bind (if (decide (x43.at_ < 1)) = true then (if true = true then (some true) else (some (portref2_ZoneFault_1 x43.offset))) else (if (decide ((3000000 : Int) < x43.at_)) = true then (some true) else (some (portref2_ZoneFault_1 x43.offset)))) fun s57 => if s57 = true then some (.rt 2) else Option.bind (if (decide ((0 : Int) < (k24 : Int))) = true then (Option.bind (idx z.changes (w64 ((k24 : Int) - 1))) fun x83 => some (decide (x43.at_ ≤ x83.at_))) else (some false)) fun s77 => if s77 = true then some (.rt 5) else if (x43.offset == s30) = true then some (.rt 1) else some (.nx x43.offset)) z.changes.length 0 z.offset) fun o21 => o21.andThen (fun y => some y) fun s22 =>
      some 0

/-- porterslodge portref2 LocalFault -/
def portref2_LocalFault (z : cal_Zone) (day : Int) (minute : Int) : Option Int :=
  Option.bind (portref2_ZoneFault z) fun x12 =>
  if (x12 != 0) = true then
    some x12
  else
    if ((((decide (day < (-1))) || (decide ((2084 : Int) < day))) || (decide (minute < 0))) || (decide ((1440 : Int) ≤ minute))) = true then
      some 2
    else
      some 0

/-- porterslodge portref2 OffsetIn -/
def portref2_OffsetIn (z : cal_Zone) (m : Int) : Option Int :=
  Option.bind (rangeB (fun k17 s23 => Option.bind (Option.bind (idx z.changes (k17 : Int)) fun x44 => Option.bind (if (decide (x44.at_ ≤ m)) = true then some x44.offset else some s23) fun s59 => some s59) fun s37 => some (.nx s37)) z.changes.length 0 z.offset) fun o14 => o14.andThen (fun y => some y) fun s15 =>
  some s15

/-- porterslodge portref2 EarliestIn -/
noncomputable def portref2_EarliestIn (z : cal_Zone) (day : Int) (minute : Int) : Option Int :=
  Option.bind (whileB (fun s18 => if (decide (s18 ≤ 3000000)) = true then Option.bind (portref2_OffsetIn z s18) fun x33 => if (decide ((w64 ((w64 (day * 1440)) + minute)) ≤ (w64 (s18 + x33)))) = true then some (.rt s18) else some (.nx (w64 (s18 + 1))) else some (.bk s18)) (if 0 < w64 ((w64 ((w64 (day * 1440)) + minute)) - 1440) then w64 ((w64 ((w64 (day * 1440)) + minute)) - 1440) else 0)) fun o9 => o9.andThen (fun y => some y) fun s10 =>
  some (-1)

/-- porterslodge portref2 ShownIn -/
noncomputable def portref2_ShownIn (z : cal_Zone) (day : Int) (minute : Int) : Option (List Int) :=
  Option.bind (whileB (fun s20 => if (decide (s20.2 ≤ (if w64 ((w64 ((w64 (day * 1440)) + minute)) + 1440) < 3000000 then w64 ((w64 ((w64 (day * 1440)) + minute)) + 1440) else 3000000))) = true then Option.bind (Option.bind (portref2_OffsetIn z s20.2) fun x47 => Option.bind (if ((w64 (s20.2 + x47)) == (w64 ((w64 (day * 1440)) + minute))) = true then Option.bind (appendL 17592186044416 s20.1 ([s20.2] : List Int)) fun x67 => some x67 else some s20.1) fun s52 => some s52) fun s35 => some (.nx (s35, w64 (s20.2 + 1))) else some (.bk (s20.1, s20.2))) (([] : (List Int)), (if 0 < w64 ((w64 ((w64 (day * 1440)) + minute)) - 1440) then w64 ((w64 ((w64 (day * 1440)) + minute)) - 1440) else 0))) fun o9 => o9.andThen (fun y => some y) fun s10 =>
  some s10.1

/-- slices Equal int int -/
def slices_Equal_Lint_int (s1 : (List Int)) (s2 : (List Int)) : Option Bool :=
  if ((s1.length : Int) != (s2.length : Int)) = true then
    some false
  else
    Option.bind (rangeB (fun k9 _ => Option.bind (idx s1 (k9 : Int)) fun x29 => Option.bind (idx s2 (k9 : Int)) fun x33 => if (x29 != x33) = true then some (.rt false) else some (.nx ())) s1.length 0 ()) fun o6 => o6.andThen (fun y => some y) fun s7 =>
    some true

/-- porterslodge portlaw2 CalShown -/
noncomputable def portlaw2_CalShown (z : cal_Zone) (day : Int) (minute : Int) : Option Bool :=
  Option.bind (cal_Shown z day minute) fun x12 =>
  Option.bind (cal_Earliest z day minute) fun x23 =>
  Option.bind (portref2_LocalFault z day minute) fun x30 =>
  if (x30 != 0) = true then
    some (((((x12.1.length : Int) == 0) && (x23.1 == 0)) && (x12.2 == x30)) && (x23.2 == x30))
  else
    Option.bind (portref2_EarliestIn z day minute) fun x44 =>
    if (decide (x44 < 0)) = true then
      Option.bind (if (x23.1 == 0) = true then (if (x23.2 == 7) = true then (if (x12.2 == 0) = true then (Option.bind (portref2_ShownIn z day minute) fun x63 => Option.bind (slices_Equal_Lint_int x12.1 x63) fun x71 => some x71) else (some false)) else (if false = true then (Option.bind (portref2_ShownIn z day minute) fun x81 => Option.bind (slices_Equal_Lint_int x12.1 x81) fun x89 => some x89) else (some false))) else (if false = true then (if (x12.2 == 0) = true then (Option.bind (portref2_ShownIn z day minute) fun x100 => Option.bind (slices_Equal_Lint_int x12.1 x100) fun x108 => some x108) else (some false)) else (if false = true then (Option.bind (portref2_ShownIn z day minute) fun x118 => Option.bind (slices_Equal_Lint_int x12.1 x118) fun x126 => some x126) else (some false)))) fun s50 =>
      some s50
    else
      Option.bind (if (x23.1 == x44) = true then (if (x12.2 == 0) = true then (if (x23.2 == 0) = true then (Option.bind (portref2_ShownIn z day minute) fun x146 => Option.bind (slices_Equal_Lint_int x12.1 x146) fun x154 => some x154) else (some false)) else (if false = true then (Option.bind (portref2_ShownIn z day minute) fun x164 => Option.bind (slices_Equal_Lint_int x12.1 x164) fun x172 => some x172) else (some false))) else (if false = true then (if (x23.2 == 0) = true then (Option.bind (portref2_ShownIn z day minute) fun x183 => Option.bind (slices_Equal_Lint_int x12.1 x183) fun x191 => some x191) else (some false)) else (if false = true then (Option.bind (portref2_ShownIn z day minute) fun x201 => Option.bind (slices_Equal_Lint_int x12.1 x201) fun x209 => some x209) else (some false)))) fun s133 =>
      some s133

end Go.Proofs.Ytjmgafmjendnaaa.M
