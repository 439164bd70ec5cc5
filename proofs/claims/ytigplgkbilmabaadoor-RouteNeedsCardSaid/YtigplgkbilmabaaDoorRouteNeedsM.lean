/-
  Written by program (gen.py) from the IR of the dump: plain models of the functions.
-/
import Derived.Test.YtigplgkbilmabaaDoorPu
import Derived.Lib.SlTrimSet
namespace Go.Proofs.YtigplgkbilmabaaDoor.M
open Go Go.Pu
set_option linter.unusedVariables false
set_option linter.unusedSimpArgs false

structure route_Skill where
  name : ByteArray
  rank : Int

structure route_Person where
  no : Int
  capacity : Int
  calendar : Int
  skills : (List route_Skill)

structure route_Work where
  ticket : Int
  weight : Int
  urgency : Int
  since : Int
  former : Int
  needs : (List route_Skill)

structure route_Step where
  after : Int
  lower : Int
  any : Bool

/-- porterslodge route within -/
def route_within (n : Int) (low : Int) (high : Int) : Bool :=
  ((decide (low ≤ n)) && (decide (n ≤ high)))

/-- slices IndexFunc porterslodge route Work porterslodge route Work -/
def slices_IndexFunc_Lroute_Work_route_Work (s : (List route_Work)) (f : route_Work → Option Bool) : Option Int :=
  Option.bind (rangeB (fun k6 _ => Option.bind (idx s (k6 : Int)) fun x25 => Option.bind (f x25) fun x32 => if x32 = true then some (.rt (k6 : Int)) else some (.nx ())) s.length 0 ()) fun o3 => o3.andThen (fun y => some y) fun s4 =>
  some (-1)

/-- slices ContainsFunc porterslodge route Work porterslodge route Work -/
def slices_ContainsFunc_Lroute_Work_route_Work (s : (List route_Work)) (f : route_Work → Option Bool) : Option Bool :=
  Option.bind (slices_IndexFunc_Lroute_Work_route_Work s f) fun x3 =>
  some (decide ((0 : Int) ≤ x3))

/-- porterslodge route CheckWork 1 -/
def route_CheckWork_1 (x : route_Work) (p1 : route_Work) : Option Bool :=
  some (x.ticket == p1.ticket)

/-- porterslodge route name -/
noncomputable def route_name (s : ByteArray) : Option Bool :=
  Option.bind (whileB (fun s8 => if (decide (s8 < (s.size : Int))) = true then Option.bind (idxS s s8) fun x18 => if (((!((decide ((97 : Int) ≤ (x18.toNat : Int))) && (decide ((x18.toNat : Int) ≤ 122)))) && (!((decide ((48 : Int) ≤ (x18.toNat : Int))) && (decide ((x18.toNat : Int) ≤ 57))))) && ((x18.toNat : Int) != 95)) = true then some (.rt false) else some (.nx (w64 (s8 + 1))) else some (.bk s8)) 0) fun o1 => o1.andThen (fun y => some y) fun s2 =>
  some ((!(strEq s (⟨#[]⟩ : ByteArray))) && (decide ((s.size : Int) ≤ 20)))

/-- porterslodge route checkSkills -/
noncomputable def route_checkSkills (l : (List route_Skill)) : Option Int :=
  if (decide ((12 : Int) < (l.length : Int))) = true then
    some 4
  else
    Option.bind (rangeB (fun k7 _ => Option.bind (idx l (k7 : Int)) fun x27 => Option.bind (route_name x27.name) fun x41 => if (!x41) = true then some (.rt 3) else Option.bind (if (decide ((0 : Int) < (k7 : Int))) = true then (Option.bind (idx l (w64 ((k7 : Int) - 1))) fun x46 => some (strLt x27.name x46.name || strEq x27.name x46.name)) else (some false)) fun s44 => if s44 = true then some (.rt 5) else if (!(route_within x27.rank 1 9)) = true then some (.rt 2) else some (.nx ())) l.length 0 ()) fun o4 => o4.andThen (fun y => some y) fun s5 =>
    some 0

/-- porterslodge route CheckWork -/
noncomputable def route_CheckWork (l : (List route_Work)) : Option Int :=
  if (decide ((200 : Int) < (l.length : Int))) = true then
    some 4
  else
    Option.bind (rangeB (fun k7 _ => Option.bind (idx l (k7 : Int)) fun x27 => if (!(route_within x27.ticket 1 400)) = true then some (.rt 2) else Option.bind (sliceL l none (some (k7 : Int))) fun x47 => Option.bind (slices_ContainsFunc_Lroute_Work_route_Work x47 (fun y50 => route_CheckWork_1 y50 x27)) fun x51 => if x51 = true then some (.rt 6) else if ((((!(route_within x27.weight 1 20)) || (!(route_within x27.urgency 0 9))) || (!(route_within x27.since 0 3000000))) || (!(route_within x27.former 0 40))) = true then some (.rt 2) else Option.bind (route_checkSkills x27.needs) fun x81 => if (x81 != 0) = true then some (.rt x81) else some (.nx ())) l.length 0 ()) fun o4 => o4.andThen (fun y => some y) fun s5 =>
    some 0

/-- porterslodge route CheckSteps -/
def route_CheckSteps (l : (List route_Step)) : Option Int :=
  if (decide ((8 : Int) < (l.length : Int))) = true then
    some 4
  else
    Option.bind (rangeB (fun k7 _ => Option.bind (idx l (k7 : Int)) fun x27 => if ((!(route_within x27.after 1 3000000)) || (!(route_within x27.lower 0 9))) = true then some (.rt 2) else Option.bind (if (decide ((0 : Int) < (k7 : Int))) = true then (Option.bind (idx l (w64 ((k7 : Int) - 1))) fun x48 => some (decide (x27.after ≤ x48.after))) else (some false)) fun s46 => if s46 = true then some (.rt 5) else some (.nx ())) l.length 0 ()) fun o4 => o4.andThen (fun y => some y) fun s5 =>
    some 0

/-- porterslodge route moment -/
def route_moment (m : Int) : Int :=
  if (!(route_within m 0 3000000)) = true then
    2
  else
    0

/-- cmp Or porterslodge api Errno -/
def cmp_Or_api_Errno (vals : (List Int)) : Option Int :=
  Option.bind (rangeB (fun k6 _ => Option.bind (idx vals (k6 : Int)) fun x21 => if (x21 != 0) = true then some (.rt x21) else some (.nx ())) vals.length 0 ()) fun o3 => o3.andThen (fun y => some y) fun s4 =>
  some 0

/-- slices Clone porterslodge route Skill porterslodge route Skill -/
def slices_Clone_Lroute_Skill_route_Skill (s : (List route_Skill)) : Option (List route_Skill) :=
  Option.bind (appendL 5864062014805 ([] : List route_Skill) s) fun x8 =>
  some x8

/-- porterslodge route needsAt -/
def route_needsAt (w_ : route_Work) (steps : (List route_Step)) (m : Int) : Option (List route_Skill) :=
  Option.bind (rangeB (fun k14 s20 => Option.bind (Option.bind (idx steps (k14 : Int)) fun x41 => Option.bind (if (decide (x41.after ≤ (w64 (m - w_.since)))) = true then some (k14 : Int) else some s20) fun s51 => some s51) fun s34 => some (.nx s34)) steps.length 0 (-1)) fun o11 => o11.andThen (fun y => some y) fun s12 =>
  Option.bind ((if s12 < 0 then some true else (idx steps s12).map fun _ => false)) fun x63 =>
  if x63 = true then
    Option.bind (slices_Clone_Lroute_Skill_route_Skill w_.needs) fun x69 =>
    some x69
  else
    Option.bind (idx steps s12) fun x77 =>
    if x77.any = true then
      some ([] : (List route_Skill))
    else
      Option.bind (rangeB (fun k91 s99 => Option.bind (Option.bind (idx w_.needs (k91 : Int)) fun x124 => Option.bind (if (decide ((1 : Int) ≤ (w64 (x124.rank - x77.lower)))) = true then Option.bind (appendL 5864062014805 s99 ([(⟨x124.name, w64 (x124.rank - x77.lower)⟩ : route_Skill)] : List route_Skill)) fun x164 => some x164 else some s99) fun s149 => some s149) fun s115 => some (.nx s115)) w_.needs.length 0 ([] : (List route_Skill))) fun o88 => o88.andThen (fun y => some y) fun s89 =>
      some s89

/-- porterslodge route NeedsAt -/
noncomputable def route_NeedsAt (w_ : route_Work) (steps : (List route_Step)) (m : Int) : Option ((List route_Skill) × Int) :=
  Option.bind (route_CheckWork ([w_] : List route_Work)) fun x19 =>
  Option.bind (route_CheckSteps steps) fun x23 =>
  Option.bind (cmp_Or_api_Errno ([x19, x23, (route_moment m)] : List Int)) fun x32 =>
  if (x32 != 0) = true then
    some (([] : (List route_Skill)), x32)
  else
    Option.bind (route_needsAt w_ steps m) fun x37 =>
    some (x37, 0)

/-- porterslodge portref2 WorkFault 1 -/
def portref2_WorkFault_1 (x : route_Work) (p1 : route_Work) : Option Bool :=
  some (x.ticket == p1.ticket)

/-- porterslodge portref2 IsMoment -/
def portref2_IsMoment (m : Int) : Bool :=
  ((decide ((0 : Int) ≤ m)) && (decide (m ≤ 3000000)))

/-- strings.Trim -/
def strings_Trim (s : ByteArray) (cutset : ByteArray) : Option ByteArray :=
  if s.size ≤ 9223372036854775807 ∧ cutset.size < 4294967281 ∧ (cutset.data.toList.all fun b => decide (b.toNat < 128)) = true then some ⟨(Go.Lib.trimS s.data.toList cutset.data.toList).toArray⟩ else none

/-- porterslodge portref2 IsName -/
def portref2_IsName (s : ByteArray) : Option Bool :=
  Option.bind (if (decide ((1 : Int) ≤ (s.size : Int))) = true then (if (decide ((s.size : Int) ≤ 20)) = true then (Option.bind (strings_Trim s (⟨#[97, 98, 99, 100, 101, 102, 103, 104, 105, 106, 107, 108, 109, 110, 111, 112, 113, 114, 115, 116, 117, 118, 119, 120, 121, 122, 48, 49, 50, 51, 52, 53, 54, 55, 56, 57, 95]⟩ : ByteArray)) fun x11 => some (strEq x11 (⟨#[]⟩ : ByteArray))) else (some false)) else (if false = true then (Option.bind (strings_Trim s (⟨#[97, 98, 99, 100, 101, 102, 103, 104, 105, 106, 107, 108, 109, 110, 111, 112, 113, 114, 115, 116, 117, 118, 119, 120, 121, 122, 48, 49, 50, 51, 52, 53, 54, 55, 56, 57, 95]⟩ : ByteArray)) fun x18 => some (strEq x18 (⟨#[]⟩ : ByteArray))) else (some false))) fun s2 =>
  some s2

/-- porterslodge portref2 skillsFault -/
def portref2_skillsFault (l : (List route_Skill)) : Option Int :=
  if (decide ((12 : Int) < (l.length : Int))) = true then
    some 4
  else
    Option.bind (rangeB (fun k7 _ => Option.bind (idx l (k7 : Int)) fun x27 => Option.bind (portref2_IsName x27.name) fun x41 => if (!x41) = true then some (.rt 3) else Option.bind (if (decide ((0 : Int) < (k7 : Int))) = true then (Option.bind (idx l (w64 ((k7 : Int) - 1))) fun x49 => some (strLt x27.name x49.name || strEq x27.name x49.name)) else (some false)) fun s47 => if s47 = true then some (.rt 5) else if ((decide (x27.rank < 1)) || (decide ((9 : Int) < x27.rank))) = true then some (.rt 2) else some (.nx ())) l.length 0 ()) fun o4 => o4.andThen (fun y => some y) fun s5 =>
    some 0

/-- porterslodge portref2 WorkFault -/
def portref2_WorkFault (l : (List route_Work)) : Option Int :=
  if (decide ((200 : Int) < (l.length : Int))) = true then
    some 4
  else
    Option.bind (rangeB (fun k7 _ => Option.bind (idx l (k7 : Int)) fun x27 => if ((decide (x27.ticket < 1)) || (decide ((400 : Int) < x27.ticket))) = true then some (.rt 2) else Option.bind (sliceL l none (some (k7 : Int))) fun x50 => Option.bind (slices_ContainsFunc_Lroute_Work_route_Work x50 (fun y53 => portref2_WorkFault_1 y53 x27)) fun x54 => if x54 = true then some (.rt 6) else if (((((((decide (x27.weight < 1)) || (decide ((20 : Int) < x27.weight))) || (decide (x27.urgency < 0))) || (decide ((9 : Int) < x27.urgency))) || (!(portref2_IsMoment x27.since))) || (decide (x27.former < 0))) || (decide ((40 : Int) < x27.former))) = true then some (.rt 2) else Option.bind (portref2_skillsFault x27.needs) fun x93 => if (x93 != 0) = true then some (.rt x93) else some (.nx ())) l.length 0 ()) fun o4 => o4.andThen (fun y => some y) fun s5 =>
    some 0

/-- porterslodge portref2 StepsFault -/
def portref2_StepsFault (l : (List route_Step)) : Option Int :=
  if (decide ((8 : Int) < (l.length : Int))) = true then
    some 4
  else
    Option.bind (rangeB (fun k7 _ => Option.bind (idx l (k7 : Int)) fun x27 => if ((((decide (x27.after < 1)) || (decide ((3000000 : Int) < x27.after))) || (decide (x27.lower < 0))) || (decide ((9 : Int) < x27.lower))) = true then some (.rt 2) else Option.bind (if (decide ((0 : Int) < (k7 : Int))) = true then (Option.bind (idx l (w64 ((k7 : Int) - 1))) fun x54 => some (decide (x27.after ≤ x54.after))) else (some false)) fun s52 => if s52 = true then some (.rt 5) else some (.nx ())) l.length 0 ()) fun o4 => o4.andThen (fun y => some y) fun s5 =>
    some 0

/-- porterslodge portref2 needsAt -/
def portref2_needsAt (w_ : route_Work) (steps : (List route_Step)) (m : Int) : Option (List route_Skill) :=
  Option.bind (rangeB (fun k14 s20 => Option.bind (Option.bind (idx steps (k14 : Int)) fun x41 => Option.bind (if (decide (x41.after ≤ (w64 (m - w_.since)))) = true then some (k14 : Int) else some s20) fun s57 => some s57) fun s34 => some (.nx s34)) steps.length 0 (-1)) fun o11 => o11.andThen (fun y => some y) fun s12 =>
  if (decide (s12 < 0)) = true then
    some w_.needs
  else
    Option.bind (idx steps s12) fun x74 =>
    if x74.any = true then
      some ([] : (List route_Skill))
    else
      Option.bind (rangeB (fun k87 s95 => Option.bind (Option.bind (idx w_.needs (k87 : Int)) fun x120 => Option.bind (if (decide ((1 : Int) ≤ (w64 (x120.rank - x74.lower)))) = true then Option.bind (appendL 5864062014805 s95 ([(⟨x120.name, w64 (x120.rank - x74.lower)⟩ : route_Skill)] : List route_Skill)) fun x159 => some x159 else some s95) fun s144 => some s144) fun s111 => some (.nx s111)) w_.needs.length 0 ([] : (List route_Skill))) fun o84 => o84.andThen (fun y => some y) fun s85 =>
      some s85

/-- porterslodge portref2 NeedsOf -/
def portref2_NeedsOf (w_ : route_Work) (steps : (List route_Step)) (m : Int) : Option ((List route_Skill) × Int) :=
  Option.bind (portref2_WorkFault ([w_] : List route_Work)) fun x19 =>
  if (x19 != 0) = true then
    some (([] : (List route_Skill)), x19)
  else
    Option.bind (portref2_StepsFault steps) fun x24 =>
    if (x24 != 0) = true then
      some (([] : (List route_Skill)), x24)
    else
      if (!(portref2_IsMoment m)) = true then
        some (([] : (List route_Skill)), 2)
      else
        Option.bind (portref2_needsAt w_ steps m) fun x33 =>
        some (x33, 0)

/-- porterslodge route CheckPeople -/
noncomputable def route_CheckPeople (l : (List route_Person)) : Option Int :=
  if (decide ((40 : Int) < (l.length : Int))) = true then
    some 4
  else
    Option.bind (rangeB (fun k7 _ => Option.bind (idx l (k7 : Int)) fun x27 => if (!(route_within x27.no 1 40)) = true then some (.rt 2) else Option.bind (if (decide ((0 : Int) < (k7 : Int))) = true then (Option.bind (idx l (w64 ((k7 : Int) - 1))) fun x50 => some (decide (x27.no ≤ x50.no))) else (some false)) fun s48 => if s48 = true then some (.rt 5) else if ((!(route_within x27.capacity 0 100)) || (!(route_within x27.calendar 0 19))) = true then some (.rt 2) else Option.bind (route_checkSkills x27.skills) fun x68 => if (x68 != 0) = true then some (.rt x68) else some (.nx ())) l.length 0 ()) fun o4 => o4.andThen (fun y => some y) fun s5 =>
    some 0

/-- slices IndexFunc porterslodge route Skill porterslodge route Skill -/
def slices_IndexFunc_Lroute_Skill_route_Skill (s : (List route_Skill)) (f : route_Skill → Option Bool) : Option Int :=
  Option.bind (rangeB (fun k6 _ => Option.bind (idx s (k6 : Int)) fun x25 => Option.bind (f x25) fun x30 => if x30 = true then some (.rt (k6 : Int)) else some (.nx ())) s.length 0 ()) fun o3 => o3.andThen (fun y => some y) fun s4 =>
  some (-1)

/-- slices ContainsFunc porterslodge route Skill porterslodge route Skill -/
def slices_ContainsFunc_Lroute_Skill_route_Skill (s : (List route_Skill)) (f : route_Skill → Option Bool) : Option Bool :=
  Option.bind (slices_IndexFunc_Lroute_Skill_route_Skill s f) fun x3 =>
  some (decide ((0 : Int) ≤ x3))

/-- porterslodge route Person able 1 -/
def route_Person_able_1 (s : route_Skill) (p1 : route_Skill) : Option Bool :=
  some ((strEq s.name p1.name) && (decide (p1.rank ≤ s.rank)))

/-- porterslodge route Person able -/
def route_Person_able (p : route_Person) (needs : (List route_Skill)) : Option Bool :=
  Option.bind (rangeB (fun k14 _ => Option.bind (idx needs (k14 : Int)) fun x33 => Option.bind (slices_ContainsFunc_Lroute_Skill_route_Skill p.skills (fun y50 => route_Person_able_1 y50 x33)) fun x51 => if (!x51) = true then some (.rt false) else some (.nx ())) needs.length 0 ()) fun o11 => o11.andThen (fun y => some y) fun s12 =>
  some true

/-- porterslodge route Able -/
noncomputable def route_Able (people : (List route_Person)) (needs : (List route_Skill)) : Option ((List Int) × Int) :=
  Option.bind (route_CheckPeople people) fun x5 =>
  Option.bind (route_checkSkills needs) fun x9 =>
  Option.bind (cmp_Or_api_Errno ([x5, x9] : List Int)) fun x18 =>
  if (x18 != 0) = true then
    some (([] : (List Int)), x18)
  else
    Option.bind (rangeB (fun k23 s31 => Option.bind (Option.bind (idx people (k23 : Int)) fun x57 => Option.bind (route_Person_able x57 needs) fun x78 => Option.bind (if x78 = true then Option.bind (appendL 17592186044416 s31 ([(k23 : Int)] : List Int)) fun x98 => some x98 else some s31) fun s83 => some s83) fun s48 => some (.nx s48)) people.length 0 ([] : (List Int))) fun o20 => o20.andThen (fun y => some y) fun s21 =>
    some (s21, 0)

/-- porterslodge portref2 PeopleFault -/
def portref2_PeopleFault (l : (List route_Person)) : Option Int :=
  if (decide ((40 : Int) < (l.length : Int))) = true then
    some 4
  else
    Option.bind (rangeB (fun k7 _ => Option.bind (idx l (k7 : Int)) fun x27 => if ((decide (x27.no < 1)) || (decide ((40 : Int) < x27.no))) = true then some (.rt 2) else Option.bind (if (decide ((0 : Int) < (k7 : Int))) = true then (Option.bind (idx l (w64 ((k7 : Int) - 1))) fun x53 => some (decide (x27.no ≤ x53.no))) else (some false)) fun s51 => if s51 = true then some (.rt 5) else if ((((decide (x27.capacity < 0)) || (decide ((100 : Int) < x27.capacity))) || (decide (x27.calendar < 0))) || (decide ((20 : Int) ≤ x27.calendar))) = true then some (.rt 2) else Option.bind (portref2_skillsFault x27.skills) fun x77 => if (x77 != 0) = true then some (.rt x77) else some (.nx ())) l.length 0 ()) fun o4 => o4.andThen (fun y => some y) fun s5 =>
    some 0

/-- porterslodge portref2 able 1 -/
def portref2_able_1 (s : route_Skill) (p1 : route_Skill) : Option Bool :=
  some ((strEq s.name p1.name) && (decide (p1.rank ≤ s.rank)))

/-- porterslodge portref2 able -/
def portref2_able (p : route_Person) (needs : (List route_Skill)) : Option Bool :=
  Option.bind (rangeB (fun k14 _ => Option.bind (idx needs (k14 : Int)) fun x33 => Option.bind (slices_ContainsFunc_Lroute_Skill_route_Skill p.skills (fun y50 => portref2_able_1 y50 x33)) fun x51 => if (!x51) = true then some (.rt false) else some (.nx ())) needs.length 0 ()) fun o11 => o11.andThen (fun y => some y) fun s12 =>
  some true

/-- porterslodge portref2 AbleOf -/
def portref2_AbleOf (people : (List route_Person)) (needs : (List route_Skill)) : Option ((List Int) × Int) :=
  Option.bind (portref2_PeopleFault people) fun x5 =>
  if (x5 != 0) = true then
    some (([] : (List Int)), x5)
  else
    Option.bind (portref2_skillsFault needs) fun x10 =>
    if (x10 != 0) = true then
      some (([] : (List Int)), x10)
    else
      Option.bind (rangeB (fun k18 s26 => Option.bind (Option.bind (idx people (k18 : Int)) fun x51 => Option.bind (portref2_able x51 needs) fun x72 => Option.bind (if x72 = true then Option.bind (appendL 17592186044416 s26 ([(k18 : Int)] : List Int)) fun x92 => some x92 else some s26) fun s77 => some s77) fun s42 => some (.nx s42)) people.length 0 ([] : (List Int))) fun o15 => o15.andThen (fun y => some y) fun s16 =>
      some (s16, 0)

/-- slices Equal porterslodge route Skill porterslodge route Skill -/
def slices_Equal_Lroute_Skill_route_Skill (s1 : (List route_Skill)) (s2 : (List route_Skill)) : Option Bool :=
  if ((s1.length : Int) != (s2.length : Int)) = true then
    some false
  else
    Option.bind (rangeB (fun k9 _ => Option.bind (idx s1 (k9 : Int)) fun x29 => Option.bind (idx s2 (k9 : Int)) fun x34 => if (!(strEq x29.name x34.name && (x29.rank == x34.rank))) = true then some (.rt false) else some (.nx ())) s1.length 0 ()) fun o6 => o6.andThen (fun y => some y) fun s7 =>
    some true

/-- slices Equal int int -/
def slices_Equal_Lint_int (s1 : (List Int)) (s2 : (List Int)) : Option Bool :=
  if ((s1.length : Int) != (s2.length : Int)) = true then
    some false
  else
    Option.bind (rangeB (fun k9 _ => Option.bind (idx s1 (k9 : Int)) fun x29 => Option.bind (idx s2 (k9 : Int)) fun x33 => if (x29 != x33) = true then some (.rt false) else some (.nx ())) s1.length 0 ()) fun o6 => o6.andThen (fun y => some y) fun s7 =>
    some true

/-- porterslodge portlaw2 RouteNeeds -/
noncomputable def portlaw2_RouteNeeds (people : (List route_Person)) (w_ : route_Work) (steps : (List route_Step)) (m : Int) : Option Bool :=
  Option.bind (route_NeedsAt w_ steps m) fun x17 =>
  Option.bind (portref2_NeedsOf w_ steps m) fun x28 =>
  Option.bind (route_Able people w_.needs) fun x38 =>
  Option.bind (portref2_AbleOf people w_.needs) fun x50 =>
  Option.bind (if (x17.2 == x28.2) = true then (if (x38.2 == x50.2) = true then (Option.bind (slices_Equal_Lroute_Skill_route_Skill x17.1 x28.1) fun x68 => if x68 = true then (Option.bind (slices_Equal_Lint_int x38.1 x50.1) fun x73 => some x73) else (some false)) else (if false = true then (Option.bind (slices_Equal_Lint_int x38.1 x50.1) fun x80 => some x80) else (some false))) else (if false = true then (Option.bind (slices_Equal_Lroute_Skill_route_Skill x17.1 x28.1) fun x87 => if x87 = true then (Option.bind (slices_Equal_Lint_int x38.1 x50.1) fun x92 => some x92) else (some false)) else (if false = true then (Option.bind (slices_Equal_Lint_int x38.1 x50.1) fun x99 => some x99) else (some false)))) fun s59 =>
  some s59

end Go.Proofs.YtigplgkbilmabaaDoor.M
