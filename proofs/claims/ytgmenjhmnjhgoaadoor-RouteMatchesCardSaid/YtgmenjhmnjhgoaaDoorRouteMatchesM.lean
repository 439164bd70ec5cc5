/-
  Written by program (gen.py) from the IR of the dump: plain models of the functions.
-/
import Derived.Test.YtgmenjhmnjhgoaaDoorPu
import Derived.Lib.SlTrimSet
import Derived.Test.YtgmenjhmnjhgoaaDoorPr
namespace Go.Proofs.YtgmenjhmnjhgoaaDoor.M
open Go Go.Pu
set_option linter.unusedVariables false
set_option linter.unusedSimpArgs false

structure route_Skill where
  name : ByteArray
  rank : Int

structure route_Person where
  no : Int
  capacity : Int
  calendar : Int
  skills : (List route_Skill)

structure route_Work where
  ticket : Int
  weight : Int
  urgency : Int
  since : Int
  former : Int
  needs : (List route_Skill)

structure route_matcher where
  people : (List route_Person)
  work : (List route_Work)
  at_ : (List Int)
  free : (List Int)
  fixed : (List Bool)

/-- porterslodge route within -/
def route_within (n : Int) (low : Int) (high : Int) : Bool :=
  ((decide (low ≤ n)) && (decide (n ≤ high)))

/-- porterslodge route name -/
noncomputable def route_name (s : ByteArray) : Option Bool :=
  Option.bind (whileB (fun s8 => if (decide (s8 < (s.size : Int))) = true then Option.bind (idxS s s8) fun x18 => if (((!((decide ((97 : Int) ≤ (x18.toNat : Int))) && (decide ((x18.toNat : Int) ≤ 122)))) && (!((decide ((48 : Int) ≤ (x18.toNat : Int))) && (decide ((x18.toNat : Int) ≤ 57))))) && ((x18.toNat : Int) != 95)) = true then some (.rt false) else some (.nx (w64 (s8 + 1))) else some (.bk s8)) 0) fun o1 => o1.andThen (fun y => some y) fun s2 =>
  some ((!(strEq s (⟨#[]⟩ : ByteArray))) && (decide ((s.size : Int) ≤ 20)))

/-- porterslodge route checkSkills -/
noncomputable def route_checkSkills (l : (List route_Skill)) : Option Int :=
  if (decide ((12 : Int) < (l.length : Int))) = true then
    some 4
  else
    Option.bind (rangeB (fun k7 _ => Option.bind (idx l (k7 : Int)) fun x27 => Option.bind (route_name x27.name) fun x41 => if (!x41) = true then some (.rt 3) else Option.bind (if (decide ((0 : Int) < (k7 : Int))) = true then (Option.bind (idx l (w64 ((k7 : Int) - 1))) fun x46 => some (strLt x27.name x46.name || strEq x27.name x46.name)) else (some false)) fun s44 => if s44 = true then some (.rt 5) else if (!(route_within x27.rank 1 9)) = true then some (.rt 2) else some (.nx ())) l.length 0 ()) fun o4 => o4.andThen (fun y => some y) fun s5 =>
    some 0

/-- porterslodge route CheckPeople -/
noncomputable def route_CheckPeople (l : (List route_Person)) : Option Int :=
  if (decide ((40 : Int) < (l.length : Int))) = true then
    some 4
  else
    Option.bind (rangeB (fun k7 _ => Option.bind (idx l (k7 : Int)) fun x27 => if (!(route_within x27.no 1 40)) = true then some (.rt 2) else Option.bind (if (decide ((0 : Int) < (k7 : Int))) = true then (Option.bind (idx l (w64 ((k7 : Int) - 1))) fun x50 => some (decide (x27.no ≤ x50.no))) else (some false)) fun s48 => if s48 = true then some (.rt 5) else if ((!(route_within x27.capacity 0 100)) || (!(route_within x27.calendar 0 19))) = true then some (.rt 2) else Option.bind (route_checkSkills x27.skills) fun x68 => if (x68 != 0) = true then some (.rt x68) else some (.nx ())) l.length 0 ()) fun o4 => o4.andThen (fun y => some y) fun s5 =>
    some 0

/-- slices IndexFunc porterslodge route Work porterslodge route Work -/
def slices_IndexFunc_Lroute_Work_route_Work (s : (List route_Work)) (f : route_Work → Option Bool) : Option Int :=
  Option.bind (rangeB (fun k6 _ => Option.bind (idx s (k6 : Int)) fun x25 => Option.bind (f x25) fun x32 => if x32 = true then some (.rt (k6 : Int)) else some (.nx ())) s.length 0 ()) fun o3 => o3.andThen (fun y => some y) fun s4 =>
  some (-1)

/-- slices ContainsFunc porterslodge route Work porterslodge route Work -/
def slices_ContainsFunc_Lroute_Work_route_Work (s : (List route_Work)) (f : route_Work → Option Bool) : Option Bool :=
  Option.bind (slices_IndexFunc_Lroute_Work_route_Work s f) fun x3 =>
  some (decide ((0 : Int) ≤ x3))

/-- porterslodge route CheckWork 1 -/
def route_CheckWork_1 (x : route_Work) (p1 : route_Work) : Option Bool :=
  some (x.ticket == p1.ticket)

/-- porterslodge route CheckWork -/
noncomputable def route_CheckWork (l : (List route_Work)) : Option Int :=
  if (decide ((200 : Int) < (l.length : Int))) = true then
    some 4
  else
    Option.bind (rangeB (fun k7 _ => Option.bind (idx l (k7 : Int)) fun x27 => if (!(route_within x27.ticket 1 400)) = true then some (.rt 2) else Option.bind (sliceL l none (some (k7 : Int))) fun x47 => Option.bind (slices_ContainsFunc_Lroute_Work_route_Work x47 (fun y50 => route_CheckWork_1 y50 x27)) fun x51 => if x51 = true then some (.rt 6) else if ((((!(route_within x27.weight 1 20)) || (!(route_within x27.urgency 0 9))) || (!(route_within x27.since 0 3000000))) || (!(route_within x27.former 0 40))) = true then some (.rt 2) else Option.bind (route_checkSkills x27.needs) fun x81 => if (x81 != 0) = true then some (.rt x81) else some (.nx ())) l.length 0 ()) fun o4 => o4.andThen (fun y => some y) fun s5 =>
    some 0

/-- cmp Or porterslodge api Errno -/
def cmp_Or_api_Errno (vals : (List Int)) : Option Int :=
  Option.bind (rangeB (fun k6 _ => Option.bind (idx vals (k6 : Int)) fun x21 => if (x21 != 0) = true then some (.rt x21) else some (.nx ())) vals.length 0 ()) fun o3 => o3.andThen (fun y => some y) fun s4 =>
  some 0

/-- porterslodge route Match 1 -/
def route_Match_1 (w_ : route_Work) : Option Bool :=
  some (w_.weight != 1)

/-- cmp isNaN int -/
def cmp_isNaN_int (x : Int) : Bool :=
  x != x

/-- cmp Compare int -/
def cmp_Compare_int (x : Int) (y : Int) : Int :=
  if (cmp_isNaN_int x) = true then
    if (cmp_isNaN_int y) = true then
      0
    else
      (-1)
  else
    if (cmp_isNaN_int y) = true then
      1
    else
      if (decide (x < y)) = true then
        (-1)
      else
        if (decide (y < x)) = true then
          1
        else
          0

/-- cmp Or int -/
def cmp_Or_int (vals : (List Int)) : Option Int :=
  Option.bind (rangeB (fun k6 _ => Option.bind (idx vals (k6 : Int)) fun x21 => if (x21 != 0) = true then some (.rt x21) else some (.nx ())) vals.length 0 ()) fun o3 => o3.andThen (fun y => some y) fun s4 =>
  some 0

/-- porterslodge route order 1 -/
def route_order_1 (a_ : Int) (b : Int) (p2 : (List route_Work)) : Option Int :=
  Option.bind (idx p2 a_) fun x10 =>
  Option.bind (idx p2 b) fun x20 =>
  Option.bind (cmp_Or_int ([(cmp_Compare_int x20.urgency x10.urgency), (cmp_Compare_int x10.since x20.since), (cmp_Compare_int x10.ticket x20.ticket)] : List Int)) fun x58 =>
  some x58

/-- porterslodge route order -/
noncomputable def route_order (l : (List route_Work)) : Option (List Int) :=
  Option.bind (rangeB (fun k19 s27 => Option.bind (appendL 17592186044416 s27 ([(k19 : Int)] : List Int)) fun x48 => some (.nx x48)) l.length 0 ([] : (List Int))) fun o16 => o16.andThen (fun y => some y) fun s17 =>
  Option.bind (sortFuncL (fun y61 y62 => route_order_1 y61 y62 l) s17) fun x57 =>
  some x57

/-- slices IndexFunc porterslodge route Skill porterslodge route Skill -/
def slices_IndexFunc_Lroute_Skill_route_Skill (s : (List route_Skill)) (f : route_Skill → Option Bool) : Option Int :=
  Option.bind (rangeB (fun k6 _ => Option.bind (idx s (k6 : Int)) fun x25 => Option.bind (f x25) fun x30 => if x30 = true then some (.rt (k6 : Int)) else some (.nx ())) s.length 0 ()) fun o3 => o3.andThen (fun y => some y) fun s4 =>
  some (-1)

/-- slices ContainsFunc porterslodge route Skill porterslodge route Skill -/
def slices_ContainsFunc_Lroute_Skill_route_Skill (s : (List route_Skill)) (f : route_Skill → Option Bool) : Option Bool :=
  Option.bind (slices_IndexFunc_Lroute_Skill_route_Skill s f) fun x3 =>
  some (decide ((0 : Int) ≤ x3))

/-- porterslodge route Person able 1 -/
def route_Person_able_1 (s : route_Skill) (p1 : route_Skill) : Option Bool :=
  some ((strEq s.name p1.name) && (decide (p1.rank ≤ s.rank)))

/-- porterslodge route Person able -/
def route_Person_able (p : route_Person) (needs : (List route_Skill)) : Option Bool :=
  Option.bind (rangeB (fun k14 _ => Option.bind (idx needs (k14 : Int)) fun x33 => Option.bind (slices_ContainsFunc_Lroute_Skill_route_Skill p.skills (fun y50 => route_Person_able_1 y50 x33)) fun x51 => if (!x51) = true then some (.rt false) else some (.nx ())) needs.length 0 ()) fun o11 => o11.andThen (fun y => some y) fun s12 =>
  some true

/-- porterslodge route matcher move -/
def route_matcher_move (t : route_matcher) (k_ : Int) (p : Int) : Option route_matcher :=
  Option.bind (idx t.at_ k_) fun x11 =>
  Option.bind (if (decide ((0 : Int) ≤ x11)) = true then Option.bind (idx t.free x11) fun x39 => Option.bind (setI t.free x11 (w64 (x39 + 1))) fun x51 => some (⟨t.people, t.work, t.at_, x51, t.fixed⟩ : route_matcher) else some t) fun s17 =>
  Option.bind (idx s17.at_ k_) fun x57 =>
  Option.bind (setI s17.at_ k_ p) fun x62 =>
  Option.bind (if (decide ((0 : Int) ≤ p)) = true then Option.bind (idx s17.free p) fun x85 => Option.bind (setI s17.free p (w64 (x85 - 1))) fun x94 => some (⟨s17.people, s17.work, x62, x94, s17.fixed⟩ : route_matcher) else some (⟨s17.people, s17.work, x62, s17.free, s17.fixed⟩ : route_matcher)) fun s67 =>
  some s67

/-- porterslodge route matcher clear -/
def route_matcher_clearF (REC : (route_matcher) → (Int) → ((List Bool)) → Option (Bool × route_matcher × (List Bool))) (t : route_matcher) (p : Int) (seen : (List Bool)) : Option (Bool × route_matcher × (List Bool)) :=
  Option.bind (idx t.free p) fun x11 =>
  if (decide ((0 : Int) < x11)) = true then
    some (true, t, seen)
  else
    Option.bind (idx seen p) fun x17 =>
    if x17 = true then
      some (false, t, seen)
    else
      Option.bind (setI seen p true) fun x27 =>
      Option.bind (rangeB (fun k34 s50 => Option.bind (α := Lp _ _) (Option.bind (idx s50.1.at_ (k34 : Int)) fun x91 => Option.bind (if (x91 != p) = true then (some true) else (Option.bind (idx s50.1.fixed (k34 : Int)) fun x98 => some x98)) fun s97 => if s97 = true then some (.fin (s50.1, s50.2)) else Option.bind (rangeB (fun k108 s124 => Option.bind (if ((k108 : Int) == p) = true then (if true = true then (if true = true then (some (true, s124.1, s124.2)) else (Option.bind (REC s124.1 (k108 : Int) s124.2) fun x175 => some (!x175.1, x175.2.1, x175.2.2))) else (Option.bind (idx s124.1.people (k108 : Int)) fun x191 => Option.bind (idx s124.1.work (k34 : Int)) fun x198 => Option.bind (route_Person_able x191 x198.needs) fun x206 => if (!x206) = true then (some (true, s124.1, s124.2)) else (Option.bind (REC s124.1 (k108 : Int) s124.2) fun x215 => some (!x215.1, x215.2.1, x215.2.2)))) else (Option.bind (idx s124.2 (k108 : Int)) fun x231 => if x231 = true then (if true = true then (some (true, s124.1, s124.2)) else (Option.bind (REC s124.1 (k108 : Int) s124.2) fun x245 => some (!x245.1, x245.2.1, x245.2.2))) else (Option.bind (idx s124.1.people (k108 : Int)) fun x261 => Option.bind (idx s124.1.work (k34 : Int)) fun x268 => Option.bind (route_Person_able x261 x268.needs) fun x276 => if (!x276) = true then (some (true, s124.1, s124.2)) else (Option.bind (REC s124.1 (k108 : Int) s124.2) fun x285 => some (!x285.1, x285.2.1, x285.2.2))))) fun s148 => if s148.1 = true then some (.nx (s148.2.1, s148.2.2)) else Option.bind (route_matcher_move s148.2.1 (k34 : Int) (k108 : Int)) fun x303 => some (.rt (true, x303, s148.2.2))) s50.1.people.length 0 (s50.1, s50.2)) fun o105 => o105.andThen (fun y => some (.rt y)) fun s106 => some (.fin (s106.1, s106.2))) fun o73 => o73.andThen (fun y => some (.rt y)) fun s74 => some (.nx (s74.1, s74.2))) t.at_.length 0 (t, x27)) fun o31 => o31.andThen (fun y => some y) fun s32 =>
      some (false, s32.1, s32.2)
def route_matcher_clearN : Nat → (route_matcher) → (Int) → ((List Bool)) → Option (Bool × route_matcher × (List Bool))
  | 0 => fun _ _ _ => none
  | n + 1 => route_matcher_clearF (route_matcher_clearN n)
def route_matcher_clear (t : route_matcher) (p : Int) (seen : (List Bool)) : Option (Bool × route_matcher × (List Bool)) := route_matcher_clearN (t.people.length + 1) t p seen

/-- porterslodge route matcher take -/
def route_matcher_take (t : route_matcher) (k_ : Int) (p : Int) : Option (Bool × route_matcher) :=
  Option.bind (idx t.people p) fun x11 =>
  Option.bind (idx t.work k_) fun x18 =>
  Option.bind (route_Person_able x11 x18.needs) fun x26 =>
  if (!x26) = true then
    some (false, t)
  else
    Option.bind (idx t.at_ k_) fun x31 =>
    Option.bind (route_matcher_move t k_ (-1)) fun x36 =>
    Option.bind (makeL 281474976710656 (x36.people.length : Int) (false : Bool)) fun x51 =>
    Option.bind (route_matcher_clear x36 p x51) fun x57 =>
    if x57.1 = true then
      Option.bind (route_matcher_move x57.2.1 k_ p) fun x73 =>
      some (true, x73)
    else
      Option.bind (route_matcher_move x57.2.1 k_ x31) fun x88 =>
      some (false, x88)

/-- porterslodge route Match -/
noncomputable def route_Match (people : (List route_Person)) (waiting : (List route_Work)) : Option ((List Int) × Int) :=
  Option.bind (route_CheckPeople people) fun x5 =>
  Option.bind (route_CheckWork waiting) fun x9 =>
  Option.bind (cmp_Or_api_Errno ([x5, x9] : List Int)) fun x18 =>
  if (x18 != 0) = true then
    some (([] : (List Int)), x18)
  else
    Option.bind (slices_ContainsFunc_Lroute_Work_route_Work waiting (fun y20 => route_Match_1 y20)) fun x21 =>
    if x21 = true then
      some (([] : (List Int)), 1)
    else
      Option.bind (makeL 281474976710656 (waiting.length : Int) (false : Bool)) fun x37 =>
      Option.bind (rangeB (fun k60 s76 => Option.bind (appendL 17592186044416 s76.at_ ([(-1)] : List Int)) fun x105 => some (.nx (⟨s76.people, s76.work, x105, s76.free, s76.fixed⟩ : route_matcher))) waiting.length 0 (⟨people, waiting, ([] : (List Int)), ([] : (List Int)), x37⟩ : route_matcher)) fun o57 => o57.andThen (fun y => some y) fun s58 =>
      Option.bind (rangeB (fun k123 s139 => Option.bind (idx people (k123 : Int)) fun x162 => Option.bind (appendL 17592186044416 s139.free ([x162.capacity] : List Int)) fun x189 => some (.nx (⟨s139.people, s139.work, s139.at_, x189, s139.fixed⟩ : route_matcher))) people.length 0 s58) fun o120 => o120.andThen (fun y => some y) fun s121 =>
      Option.bind (route_order waiting) fun x204 =>
      Option.bind (rangeB (fun k215 s231 => Option.bind (Option.bind (idx x204 (k215 : Int)) fun x272 => Option.bind (rangeB (R := Empty) (fun k280 s296 => Option.bind (route_matcher_take s296 x272 (k280 : Int)) fun x319 => if x319.1 = true then some (.bk x319.2) else some (.nx x319.2)) people.length 0 s231) fun o277 => o277.andThen (fun y => y.elim) fun s278 => some s278) fun s255 => some (.nx s255)) x204.length 0 s121) fun o212 => o212.andThen (fun y => some y) fun s213 =>
      Option.bind (route_order waiting) fun x343 =>
      Option.bind (rangeB (fun k354 s370 => Option.bind (Option.bind (idx x343 (k354 : Int)) fun x411 => Option.bind (idx s370.at_ x411) fun x416 => if (decide (x416 < 0)) = true then some s370 else Option.bind (whileB (R := Empty) (fun s446 => if (decide (s446.1 < x416)) = true then Option.bind (route_matcher_take s446.2 x411 s446.1) fun x468 => if x468.1 = true then some (.bk (s446.1, x468.2)) else some (.nx (w64 (s446.1 + 1), x468.2)) else some (.bk (s446.1, s446.2))) (0, s370)) fun o427 => o427.andThen (fun y => y.elim) fun s428 => Option.bind (idx s428.2.fixed x411) fun x488 => Option.bind (setI s428.2.fixed x411 true) fun x493 => some (⟨s428.2.people, s428.2.work, s428.2.at_, s428.2.free, x493⟩ : route_matcher)) fun s394 => some (.nx s394)) x343.length 0 s213) fun o351 => o351.andThen (fun y => some y) fun s352 =>
      some (s352.at_, 0)

/-- strings.Trim -/
def strings_Trim (s : ByteArray) (cutset : ByteArray) : Option ByteArray :=
  if s.size ≤ 9223372036854775807 ∧ cutset.size < 4294967281 ∧ (cutset.data.toList.all fun b => decide (b.toNat < 128)) = true then some ⟨(Go.Lib.trimS s.data.toList cutset.data.toList).toArray⟩ else none

/-- porterslodge portref2 IsName -/
def portref2_IsName (s : ByteArray) : Option Bool :=
  Option.bind (if (decide ((1 : Int) ≤ (s.size : Int))) = true then (if (decide ((s.size : Int) ≤ 20)) = true then (Option.bind (strings_Trim s (⟨#[97, 98, 99, 100, 101, 102, 103, 104, 105, 106, 107, 108, 109, 110, 111, 112, 113, 114, 115, 116, 117, 118, 119, 120, 121, 122, 48, 49, 50, 51, 52, 53, 54, 55, 56, 57, 95]⟩ : ByteArray)) fun x11 => some (strEq x11 (⟨#[]⟩ : ByteArray))) else (some false)) else (if false = true then (Option.bind (strings_Trim s (⟨#[97, 98, 99, 100, 101, 102, 103, 104, 105, 106, 107, 108, 109, 110, 111, 112, 113, 114, 115, 116, 117, 118, 119, 120, 121, 122, 48, 49, 50, 51, 52, 53, 54, 55, 56, 57, 95]⟩ : ByteArray)) fun x18 => some (strEq x18 (⟨#[]⟩ : ByteArray))) else (some false))) fun s2 =>
  some s2

/-- porterslodge portref2 skillsFault -/
def portref2_skillsFault (l : (List route_Skill)) : Option Int :=
  if (decide ((12 : Int) < (l.length : Int))) = true then
    some 4
  else
    Option.bind (rangeB (fun k7 _ => Option.bind (idx l (k7 : Int)) fun x27 => Option.bind (portref2_IsName x27.name) fun x41 => if (!x41) = true then some (.rt 3) else Option.bind (if (decide ((0 : Int) < (k7 : Int))) = true then (Option.bind (idx l (w64 ((k7 : Int) - 1))) fun x49 => some (strLt x27.name x49.name || strEq x27.name x49.name)) else (some false)) fun s47 => if s47 = true then some (.rt 5) else if ((decide (x27.rank < 1)) || (decide ((9 : Int) < x27.rank))) = true then some (.rt 2) else some (.nx ())) l.length 0 ()) fun o4 => o4.andThen (fun y => some y) fun s5 =>
    some 0

/-- porterslodge portref2 PeopleFault -/
def portref2_PeopleFault (l : (List route_Person)) : Option Int :=
  if (decide ((40 : Int) < (l.length : Int))) = true then
    some 4
  else
    Option.bind (rangeB (fun k7 _ => Option.bind (idx l (k7 : Int)) fun x27 => if ((decide (x27.no < 1)) || (decide ((40 : Int) < x27.no))) = true then some (.rt 2) else Option.bind (if (decide ((0 : Int) < (k7 : Int))) = true then (Option.bind (idx l (w64 ((k7 : Int) - 1))) fun x53 => some (decide (x27.no ≤ x53.no))) else (some false)) fun s51 => if s51 = true then some (.rt 5) else if ((((decide (x27.capacity < 0)) || (decide ((100 : Int) < x27.capacity))) || (decide (x27.calendar < 0))) || (decide ((20 : Int) ≤ x27.calendar))) = true then some (.rt 2) else Option.bind (portref2_skillsFault x27.skills) fun x77 => if (x77 != 0) = true then some (.rt x77) else some (.nx ())) l.length 0 ()) fun o4 => o4.andThen (fun y => some y) fun s5 =>
    some 0

/-- porterslodge portref2 WorkFault 1 -/
def portref2_WorkFault_1 (x : route_Work) (p1 : route_Work) : Option Bool :=
  some (x.ticket == p1.ticket)

/-- porterslodge portref2 IsMoment -/
def portref2_IsMoment (m : Int) : Bool :=
  ((decide ((0 : Int) ≤ m)) && (decide (m ≤ 3000000)))

/-- porterslodge portref2 WorkFault -/
def portref2_WorkFault (l : (List route_Work)) : Option Int :=
  if (decide ((200 : Int) < (l.length : Int))) = true then
    some 4
  else
    Option.bind (rangeB (fun k7 _ => Option.bind (idx l (k7 : Int)) fun x27 => if ((decide (x27.ticket < 1)) || (decide ((400 : Int) < x27.ticket))) = true then some (.rt 2) else Option.bind (sliceL l none (some (k7 : Int))) fun x50 => Option.bind (slices_ContainsFunc_Lroute_Work_route_Work x50 (fun y53 => portref2_WorkFault_1 y53 x27)) fun x54 => if x54 = true then some (.rt 6) else if (((((((decide (x27.weight < 1)) || (decide ((20 : Int) < x27.weight))) || (decide (x27.urgency < 0))) || (decide ((9 : Int) < x27.urgency))) || (!(portref2_IsMoment x27.since))) || (decide (x27.former < 0))) || (decide ((40 : Int) < x27.former))) = true then some (.rt 2) else Option.bind (portref2_skillsFault x27.needs) fun x93 => if (x93 != 0) = true then some (.rt x93) else some (.nx ())) l.length 0 ()) fun o4 => o4.andThen (fun y => some y) fun s5 =>
    some 0

/-- porterslodge portref2 MatchOf 1 -/
def portref2_MatchOf_1 (w_ : route_Work) : Option Bool :=
  some (w_.weight != 1)

/-- porterslodge portref2 orderOf 1 -/
def portref2_orderOf_1 (a_ : Int) (b : Int) (p2 : (List route_Work)) : Option Int :=
  Option.bind (idx p2 a_) fun x10 =>
  Option.bind (idx p2 b) fun x20 =>
  Option.bind (cmp_Or_int ([(cmp_Compare_int x20.urgency x10.urgency), (cmp_Compare_int x10.since x20.since), (cmp_Compare_int x10.ticket x20.ticket)] : List Int)) fun x58 =>
  some x58

/-- porterslodge portref2 orderOf -/
noncomputable def portref2_orderOf (l : (List route_Work)) : Option (List Int) :=
  Option.bind (makeL 35184372088832 (l.length : Int) (0 : Int)) fun x16 =>
  Option.bind (rangeB (fun k29 s37 => Option.bind (idx s37 (k29 : Int)) fun x52 => Option.bind (setI s37 (k29 : Int) (k29 : Int)) fun x57 => some (.nx x57)) l.length 0 x16) fun o26 => o26.andThen (fun y => some y) fun s27 =>
  Option.bind (sortFuncL (fun y68 y69 => portref2_orderOf_1 y68 y69 l) s27) fun x64 =>
  some x64

/-- slices IndexFunc int int -/
def slices_IndexFunc_Lint_int (s : (List Int)) (f : Int → Option Bool) : Option Int :=
  Option.bind (rangeB (fun k6 _ => Option.bind (idx s (k6 : Int)) fun x25 => Option.bind (f x25) fun x29 => if x29 = true then some (.rt (k6 : Int)) else some (.nx ())) s.length 0 ()) fun o3 => o3.andThen (fun y => some y) fun s4 =>
  some (-1)

/-- slices ContainsFunc int int -/
def slices_ContainsFunc_Lint_int (s : (List Int)) (f : Int → Option Bool) : Option Bool :=
  Option.bind (slices_IndexFunc_Lint_int s f) fun x3 =>
  some (decide ((0 : Int) ≤ x3))

/-- porterslodge portref2 fits 2 -/
def portref2_fits_2 (n : Int) : Bool :=
  decide (n < 0)

/-- porterslodge portref2 able 1 -/
def portref2_able_1 (s : route_Skill) (p1 : route_Skill) : Option Bool :=
  some ((strEq s.name p1.name) && (decide (p1.rank ≤ s.rank)))

/-- porterslodge portref2 able -/
def portref2_able (p : route_Person) (needs : (List route_Skill)) : Option Bool :=
  Option.bind (rangeB (fun k14 _ => Option.bind (idx needs (k14 : Int)) fun x33 => Option.bind (slices_ContainsFunc_Lroute_Skill_route_Skill p.skills (fun y50 => portref2_able_1 y50 x33)) fun x51 => if (!x51) = true then some (.rt false) else some (.nx ())) needs.length 0 ()) fun o11 => o11.andThen (fun y => some y) fun s12 =>
  some true

/-- portref2 fits 1: a place for work w, if others can move (by number of rounds; the walk is by hand) -/
def portref2_fits_1F (REC : Int → List Bool → List route_Person → List Int → List route_Work → List (List Int) → Option (Bool × List Bool × List (List Int))) (w_ : Int) (seen : List Bool) (people : List route_Person) (room : List Int) (l : List route_Work) (has : List (List Int)) : Option (Bool × List Bool × List (List Int)) :=
  Option.bind (rangeB (fun k9 s17 => Option.bind (α := Lp _ _) (Option.bind (idx people (k9 : Int)) fun x42 => Option.bind (idx s17.2 (k9 : Int)) fun x60 => Option.bind (if x60 = true then (some true) else (Option.bind (idx room (k9 : Int)) fun x70 => some (decide (x70 ≤ 0)))) fun s66 => Option.bind (if s66 = true then (some true) else (Option.bind (idx l w_) fun x82 => Option.bind (portref2_able x42 x82.needs) fun x90 => some (!x90))) fun s75 => if s75 = true then some (.fin (s17.1, s17.2)) else Option.bind (setI s17.2 (k9 : Int) true) fun x100 => Option.bind (idx s17.1 (k9 : Int)) fun x104 => Option.bind (idx room (k9 : Int)) fun x115 => if (decide ((x104.length : Int) < x115)) = true then Option.bind (appendL 17592186044416 x104 ([w_] : List Int)) fun x140 => Option.bind (setI s17.1 (k9 : Int) x140) fun x150 => some (.rt (true, x100, x150)) else Option.bind (rangeB (fun k170 s171 => Option.bind (idx s171.1 (k9 : Int)) fun x185 => Option.bind (idx x185 (k170 : Int)) fun x186 => Option.bind (REC x186 s171.2 people room l s171.1) fun x192 => if x192.1 = true then Option.bind (idx x192.2.2 (k9 : Int)) fun x201 => Option.bind (setI x201 (k170 : Int) w_) fun x208 => Option.bind (setI x192.2.2 (k9 : Int) x208) fun x218 => some (.rt (true, x192.2.1, x218)) else some (.nx (x192.2.2, x192.2.1))) x104.length 0 (s17.1, x100)) fun o161 => o161.andThen (fun y => some (.rt y)) fun s162 => some (.fin (s162.1, s162.2))) fun o32 => o32.andThen (fun y => some (.rt y)) fun s33 => some (.nx (s33.1, s33.2))) people.length 0 (has, seen)) fun o6 => o6.andThen (fun y => some y) fun s7 =>
  some (false, s7.2, s7.1)
def portref2_fits_1N : Nat → Int → List Bool → List route_Person → List Int → List route_Work → List (List Int) → Option (Bool × List Bool × List (List Int))
  | 0 => fun _ _ _ _ _ _ => none
  | n + 1 => portref2_fits_1F (portref2_fits_1N n)
def portref2_fits_1 (w_ : Int) (seen : List Bool) (people : List route_Person) (room : List Int) (l : List route_Work) (has : List (List Int)) : Option (Bool × List Bool × List (List Int)) := portref2_fits_1N (people.length + 1) w_ seen people room l has


/-- porterslodge portref2 fits -/
def portref2_fits (people : (List route_Person)) (l : (List route_Work)) (fixed : (List Int)) : Option Bool :=
  Option.bind (makeL 35184372088832 (people.length : Int) (0 : Int)) fun x29 =>
  Option.bind (rangeB (fun k52 s60 => Option.bind (idx people (k52 : Int)) fun x75 => Option.bind (idx s60 (k52 : Int)) fun x94 => Option.bind (setI s60 (k52 : Int) x75.capacity) fun x99 => some (.nx x99)) people.length 0 x29) fun o49 => o49.andThen (fun y => some y) fun s50 =>
  Option.bind (rangeB (fun k109 s119 => Option.bind (Option.bind (idx fixed (k109 : Int)) fun x148 => Option.bind (if (decide ((0 : Int) ≤ x148)) = true then Option.bind (idx s119.2 x148) fun x165 => Option.bind (setI s119.2 x148 (w64 (x165 - 1))) fun x174 => some (s119.1, x174) else Option.bind (if (x148 == (-1)) = true then Option.bind (appendL 17592186044416 s119.1 ([(k109 : Int)] : List Int)) fun x196 => some x196 else some s119.1) fun s180 => some (s180, s119.2)) fun s153 => some (s153.1, s153.2)) fun s137 => some (.nx (s137.1, s137.2))) fixed.length 0 (([] : (List Int)), s50)) fun o106 => o106.andThen (fun y => some y) fun s107 =>
  Option.bind (makeL 11728124029610 (people.length : Int) ([] : (List Int))) fun x212 =>
  Option.bind (slices_ContainsFunc_Lint_int s107.2 (fun y237 => some (portref2_fits_2 y237))) fun x238 =>
  if x238 = true then
    some false
  else
    Option.bind (rangeB (fun k254 s262 => Option.bind (idx s107.1 (k254 : Int)) fun x277 => Option.bind (makeL 281474976710656 (people.length : Int) (false : Bool)) fun x288 => Option.bind (portref2_fits_1 x277 x288 people s107.2 l s262 ) fun x297 => if (!x297.1) = true then some (.rt false) else some (.nx x297.2.2)) s107.1.length 0 x212) fun o251 => o251.andThen (fun y => some y) fun s252 =>
    some true

/-- porterslodge portref2 MatchOf -/
noncomputable def portref2_MatchOf (people : (List route_Person)) (l : (List route_Work)) : Option ((List Int) × Int) :=
  Option.bind (portref2_PeopleFault people) fun x5 =>
  if (x5 != 0) = true then
    some (([] : (List Int)), x5)
  else
    Option.bind (portref2_WorkFault l) fun x10 =>
    if (x10 != 0) = true then
      some (([] : (List Int)), x10)
    else
      Option.bind (slices_ContainsFunc_Lroute_Work_route_Work l (fun y15 => portref2_MatchOf_1 y15)) fun x16 =>
      if x16 = true then
        some (([] : (List Int)), 1)
      else
        Option.bind (makeL 35184372088832 (l.length : Int) (0 : Int)) fun x31 =>
        Option.bind (rangeB (fun k40 s48 => Option.bind (idx s48 (k40 : Int)) fun x63 => Option.bind (setI s48 (k40 : Int) (-2)) fun x68 => some (.nx x68)) x31.length 0 x31) fun o37 => o37.andThen (fun y => some y) fun s38 =>
        Option.bind (portref2_orderOf l) fun x75 =>
        Option.bind (rangeB (fun k86 s94 => Option.bind (Option.bind (idx x75 (k86 : Int)) fun x119 => Option.bind (idx s94 x119) fun x124 => Option.bind (setI s94 x119 (-1)) fun x129 => Option.bind (portref2_fits people l x129) fun x133 => Option.bind (if (!x133) = true then Option.bind (idx x129 x119) fun x148 => Option.bind (setI x129 x119 (-2)) fun x153 => some x153 else some x129) fun s138 => some s138) fun s110 => some (.nx s110)) x75.length 0 s38) fun o83 => o83.andThen (fun y => some y) fun s84 =>
        Option.bind (rangeB (fun k166 s174 => Option.bind (Option.bind (idx x75 (k166 : Int)) fun x199 => Option.bind (idx s174 x199) fun x204 => if (x204 == (-2)) = true then some s174 else Option.bind (rangeB (R := Empty) (fun k214 s222 => Option.bind (idx s222 x199) fun x237 => Option.bind (setI s222 x199 (k214 : Int)) fun x242 => Option.bind (idx people (k214 : Int)) fun x246 => Option.bind (idx l x199) fun x253 => Option.bind (portref2_able x246 x253.needs) fun x261 => Option.bind (if x261 = true then (Option.bind (portref2_fits people l x242) fun x264 => some x264) else (some false)) fun s263 => if s263 = true then some (.bk x242) else some (.nx x242)) people.length 0 s174) fun o211 => o211.andThen (fun y => y.elim) fun s212 => some s212) fun s190 => some (.nx s190)) x75.length 0 s84) fun o163 => o163.andThen (fun y => some y) fun s164 =>
        Option.bind (rangeB (fun k280 s288 => Option.bind (idx s288 (k280 : Int)) fun x303 => Option.bind (setI s288 (k280 : Int) (if x303 < (-1) then (-1) else x303)) fun x312 => some (.nx x312)) s164.length 0 s164) fun o277 => o277.andThen (fun y => some y) fun s278 =>
        some (s278, 0)

/-- slices Equal int int -/
def slices_Equal_Lint_int (s1 : (List Int)) (s2 : (List Int)) : Option Bool :=
  if ((s1.length : Int) != (s2.length : Int)) = true then
    some false
  else
    Option.bind (rangeB (fun k9 _ => Option.bind (idx s1 (k9 : Int)) fun x29 => Option.bind (idx s2 (k9 : Int)) fun x33 => if (x29 != x33) = true then some (.rt false) else some (.nx ())) s1.length 0 ()) fun o6 => o6.andThen (fun y => some y) fun s7 =>
    some true

/-- porterslodge portlaw2 RouteMatches -/
noncomputable def portlaw2_RouteMatches (people : (List route_Person)) (l : (List route_Work)) : Option Bool :=
  Option.bind (route_Match people l) fun x5 =>
  Option.bind (portref2_MatchOf people l) fun x14 =>
  Option.bind (if (x5.2 == x14.2) = true then (Option.bind (slices_Equal_Lint_int x5.1 x14.1) fun x31 => some x31) else (some false)) fun s23 =>
  some s23

end Go.Proofs.YtgmenjhmnjhgoaaDoor.M
