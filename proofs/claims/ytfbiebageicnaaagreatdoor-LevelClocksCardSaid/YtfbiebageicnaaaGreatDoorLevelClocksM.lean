import Derived.Test.YtfbiebageicnaaaGreatDoorPu
import Derived.Lib.SlTrimSet
import Derived.Test.YtfbiebageicnaaaGreatDoorPj
import Derived.Shelf.GgClosure.StringsIndexFunc
namespace Go.Proofs.YtfbiebageicnaaaGreatDoor.M
open Go Go.Pu
set_option linter.unusedVariables false
set_option linter.unusedSimpArgs false
structure level_Piece where
 from_ : Int
 to_ : Int
 calendar : Int
structure level_Clock where
 kind : Int
 level : Int
 minutes : Int
 start : Int
 stop : Int
 end_ : Int
 pieces : (List level_Piece)
structure level_Target where
 kind : Int
 minutes : Int
 calendar : Int
structure level_running where
 clock : level_Clock
 target : level_Target
 goes : Bool
structure portref2_ticking where
 c : level_Clock
 now : Int
 at_ : Int
 cal : Int
structure api_Value where
 kind : Int
 int : Int
 text : ByteArray
structure level_Test where
 field : Int
 value : api_Value
structure level_Level where
 name : ByteArray
 tests : (List level_Test)
 targets : (List level_Target)
structure level_Policy where
 pauses : (List Int)
 levels : (List level_Level)
structure level_keeper where
 policy : level_Policy
 level : Int
 clocks : (List level_running)
structure level_Point where
 at_ : Int
 kind : Int
 who : Int
 status : Int
 priority : Int
 values : (List api_Value)
def level_within (n : Int) (low : Int) (high : Int) : Bool :=
 ((decide (low ≤ n)) && (decide (n ≤ high)))
noncomputable def level_name (s : ByteArray) : Option Bool :=
 Option.bind (whileB (fun s8 => if (decide (s8 < (s.size : Int))) = true then Option.bind (idxS s s8) fun x18 => if (((!((decide ((97 : Int) ≤ (x18.toNat : Int))) && (decide ((x18.toNat : Int) ≤ 122)))) && (!((decide ((48 : Int) ≤ (x18.toNat : Int))) && (decide ((x18.toNat : Int) ≤ 57))))) && ((x18.toNat : Int) != 95)) = true then some (.rt false) else some (.nx (w64 (s8 + 1))) else some (.bk s8)) 0) fun o1 => o1.andThen (fun y => some y) fun s2 =>
 some ((!(strEq s (⟨#[]⟩ : ByteArray))) && (decide ((s.size : Int) ≤ 20)))
noncomputable def level_checkTest (t : level_Test) (before : Int) : Option Int :=
 if (!(level_within t.field (-1) 19)) = true then
  some 2
 else
  if (decide (t.field ≤ before)) = true then
   some 5
  else
   if ((!(level_within t.value.kind 0 6)) || ((t.field == (-1)) && (t.value.kind != 2))) = true then
    some 10
   else
    if (((t.value.int != 0) && ((t.value.kind == 0) || (t.value.kind == 3))) || ((!(strEq t.value.text (⟨#[]⟩ : ByteArray))) && (t.value.kind != 3))) = true then
     some 1
    else
     Option.bind (Option.bind (if (t.value.kind == 1) = true then some (level_within t.value.int 0 1) else Option.bind (if (t.value.kind == 4) = true then some (level_within t.value.int 0 19) else Option.bind (if (t.value.kind == 5) = true then some (level_within t.value.int 0 3000000) else Option.bind (if (t.value.kind == 6) = true then some (level_within t.value.int 1 40) else some true) fun s79 => some s79) fun s70 => some s70) fun s61 => some s61) fun s52 => some s52) fun s46 =>
     if (!s46) = true then
      some 2
     else
      if (decide ((200 : Int) < (t.value.text.size : Int))) = true then
       some 4
      else
       Option.bind (whileB (fun s103 => if (decide (s103 < (t.value.text.size : Int))) = true then Option.bind (idxS t.value.text s103) fun x114 => Option.bind (if (decide ((x114.toNat : Int) < 32)) = true then (some true) else (some ((x114.toNat : Int) == 127))) fun s116 => if s116 = true then some (.rt 9) else some (.nx (w64 (s103 + 1))) else some (.bk s103)) 0) fun o96 => o96.andThen (fun y => some y) fun s97 =>
       some 0
noncomputable def level_checkLevel (l : level_Level) : Option Int :=
 if (decide ((8 : Int) < (l.tests.length : Int))) = true then
  some 4
 else
  Option.bind (rangeB (fun k23 s29 => Option.bind (idx l.tests (k23 : Int)) fun x42 => Option.bind (level_checkTest x42 s29) fun x56 => if (x56 != 0) = true then some (.rt x56) else some (.nx x42.field)) l.tests.length 0 (-2)) fun o20 => o20.andThen (fun y => some y) fun s21 =>
  Option.bind (rangeB (fun k72 _ => Option.bind (idx l.targets (k72 : Int)) fun x91 => if (((!(level_within x91.kind 1 3)) || (!(level_within x91.minutes 0 100000))) || (!(level_within x91.calendar 0 19))) = true then some (.rt 2) else Option.bind (if (decide ((0 : Int) < (k72 : Int))) = true then (Option.bind (idx l.targets (w64 ((k72 : Int) - 1))) fun x119 => some (decide (x91.kind ≤ x119.kind))) else (some false)) fun s113 => if s113 = true then some (.rt 5) else some (.nx ())) l.targets.length 0 ()) fun o69 => o69.andThen (fun y => some y) fun s70 =>
  some 0
noncomputable def level_CheckPolicy (p : level_Policy) : Option Int :=
 Option.bind (rangeB (fun k18 _ => Option.bind (idx p.pauses (k18 : Int)) fun x33 => if (!(level_within x33 1 4)) = true then some (.rt 2) else Option.bind (if (decide ((0 : Int) < (k18 : Int))) = true then (Option.bind (idx p.pauses (w64 ((k18 : Int) - 1))) fun x44 => some (decide (x33 ≤ x44))) else (some false)) fun s39 => if s39 = true then some (.rt 5) else some (.nx ())) p.pauses.length 0 ()) fun o15 => o15.andThen (fun y => some y) fun s16 =>
 if (decide ((20 : Int) < (p.levels.length : Int))) = true then
  some 4
 else
  Option.bind (rangeB (fun k69 s75 => Option.bind (idx p.levels (k69 : Int)) fun x88 => Option.bind (level_name x88.name) fun x112 => if (!x112) = true then some (.rt 3) else if ((mapGet s75 x88.name).getD false) = true then some (.rt 6) else Option.bind (level_checkLevel x88) fun x125 => if (x125 != 0) = true then some (.rt x125) else some (.nx (mapPut s75 x88.name true))) p.levels.length 0 ([] : List (ByteArray × Bool))) fun o66 => o66.andThen (fun y => some y) fun s67 =>
  some 0
def level_CheckHistory (l : (List level_Point)) : Option Int :=
 if (decide ((6000 : Int) < (l.length : Int))) = true then
  some 4
 else
  Option.bind (rangeB (fun k7 _ => Option.bind (idx l (k7 : Int)) fun x27 => if (!(level_within x27.at_ 0 3000000)) = true then some (.rt 2) else Option.bind (if (decide ((0 : Int) < (k7 : Int))) = true then (Option.bind (idx l (w64 ((k7 : Int) - 1))) fun x50 => some (decide (x27.at_ < x50.at_))) else (some false)) fun s48 => if s48 = true then some (.rt 5) else if (!(level_within x27.kind 1 10)) = true then some (.rt 10) else if ((!(level_within x27.who (-1) 40)) || (!(level_within x27.status 1 6))) = true then some (.rt 2) else if (decide ((20 : Int) < (x27.values.length : Int))) = true then some (.rt 4) else some (.nx ())) l.length 0 ()) fun o4 => o4.andThen (fun y => some y) fun s5 =>
  some 0
def level_keeper_each (step : level_running → Option level_running) (l : List level_running) : Option (List level_running) :=
 Option.bind (rangeB (R := Empty) (fun k s => Option.bind (idx s (k : Int)) fun x => if (x.clock.end_ == 0) = true then Option.bind (step x) fun y => some (.nx (List.set s k y)) else some (.nx s)) l.length 0 l) fun o => o.andThen (fun y => y.elim) fun s => some s
def level_running_cut (r_ : level_running) (at_ : Int) : Option level_running :=
 if (!r_.goes) = true then
  some r_
 else
  Option.bind (idx r_.clock.pieces (w64 ((r_.clock.pieces.length : Int) - 1))) fun x4 =>
  Option.bind (setI r_.clock.pieces (w64 ((r_.clock.pieces.length : Int) - 1)) ({ (x4 : level_Piece) with to_ := at_ })) fun x13 =>
  Option.bind (if ((({ (x4 : level_Piece) with to_ := at_ }).from_) == at_) = true then Option.bind (sliceL x13 none (some (w64 ((x13.length : Int) - 1)))) fun x35 => some (⟨(⟨r_.clock.kind, r_.clock.level, r_.clock.minutes, r_.clock.start, r_.clock.stop, r_.clock.end_, x35⟩ : level_Clock), r_.target, r_.goes⟩ : level_running) else some (⟨(⟨r_.clock.kind, r_.clock.level, r_.clock.minutes, r_.clock.start, r_.clock.stop, r_.clock.end_, x13⟩ : level_Clock), r_.target, r_.goes⟩ : level_running)) fun s25 =>
  some (⟨s25.clock, s25.target, false⟩ : level_running)
def level_running_end (r_ : level_running) (at_ : Int) (how : Int) : Option level_running :=
 Option.bind (level_running_cut r_ at_) fun x3 =>
 some (⟨(⟨x3.clock.kind, x3.clock.level, x3.clock.minutes, x3.clock.start, at_, how, x3.clock.pieces⟩ : level_Clock), x3.target, x3.goes⟩ : level_running)
def level_keeper_point_1 (r_ : level_running) (p1 : level_Point) (p2 : Bool) (p3 : Bool) : Option level_running :=
 Option.bind (Option.bind (if ((p1.kind == 7) && (p1.status == 6)) = true then Option.bind (level_running_end r_ p1.at_ 2) fun x30 => some x30 else Option.bind (if ((r_.clock.kind == 3) && p2) = true then some ((r_.clock.kind == 3) && p2) else some ((r_.clock.kind != 3) && p3)) fun s41 => Option.bind (if s41 = true then Option.bind (level_running_end r_ p1.at_ 1) fun x63 => some x63 else some r_) fun s52 => some s52) fun s19 => some s19) fun s4 =>
 some s4
def slices_IndexFunc_Llevel_Level_level_Level (s : (List level_Level)) (f : level_Level → Option Bool) : Option Int :=
 Option.bind (rangeB (fun k6 _ => Option.bind (idx s (k6 : Int)) fun x25 => Option.bind (f x25) fun x34 => if x34 = true then some (.rt (k6 : Int)) else some (.nx ())) s.length 0 ()) fun o3 => o3.andThen (fun y => some y) fun s4 =>
 some (-1)
def slices_IndexFunc_Llevel_Test_level_Test (s : (List level_Test)) (f : level_Test → Option Bool) : Option Int :=
 Option.bind (rangeB (fun k6 _ => Option.bind (idx s (k6 : Int)) fun x25 => Option.bind (f x25) fun x30 => if x30 = true then some (.rt (k6 : Int)) else some (.nx ())) s.length 0 ()) fun o3 => o3.andThen (fun y => some y) fun s4 =>
 some (-1)
def slices_ContainsFunc_Llevel_Test_level_Test (s : (List level_Test)) (f : level_Test → Option Bool) : Option Bool :=
 Option.bind (slices_IndexFunc_Llevel_Test_level_Test s f) fun x3 =>
 some (decide ((0 : Int) ≤ x3))
def level_Policy_levelOf_1_1 (t : level_Test) (p1 : Int) (p2 : (List api_Value)) : Option Bool :=
 Option.bind (Option.bind (if (t.field == (-1)) = true then some (⟨2, p1, ByteArray.empty⟩ : api_Value) else Option.bind (if (decide (t.field < (p2.length : Int))) = true then Option.bind (idx p2 t.field) fun x55 => some x55 else some (⟨0, 0, ByteArray.empty⟩ : api_Value)) fun s43 => some s43) fun s26 => some s26) fun s17 =>
 some (!(s17.kind == t.value.kind && (s17.int == t.value.int && (strEq s17.text t.value.text))))
def level_Policy_levelOf_1 (l : level_Level) (p1 : Int) (p2 : (List api_Value)) : Option Bool :=
 Option.bind (slices_ContainsFunc_Llevel_Test_level_Test l.tests (fun y15 => level_Policy_levelOf_1_1 y15 p1 p2)) fun x16 =>
 some (!x16)
def level_Policy_levelOf (p : level_Policy) (priority : Int) (values : (List api_Value)) : Option Int :=
 Option.bind (slices_IndexFunc_Llevel_Level_level_Level p.levels (fun y33 => level_Policy_levelOf_1 y33 priority values)) fun x34 =>
 some x34
def level_keeper_target (k_ : level_keeper) (kind : Int) : Option (level_Target × Bool) :=
 if (decide (k_.level < 0)) = true then
  some ((⟨0, 0, 0⟩ : level_Target), false)
 else
  Option.bind (idx k_.policy.levels k_.level) fun x18 =>
  Option.bind (rangeB (fun k32 s38 => Option.bind (idx x18.targets (k32 : Int)) fun x51 => if (x51.kind == kind) = true then some (.rt (x51, true)) else some (.nx s38)) x18.targets.length 0 (⟨0, 0, 0⟩ : level_Target)) fun o29 => o29.andThen (fun y => some y) fun s30 =>
  some ((⟨0, 0, 0⟩ : level_Target), false)
def level_running_on (r_ : level_running) (at_ : Int) : Option level_running :=
 Option.bind (appendL 5864062014805 r_.clock.pieces ([(⟨at_, (-1), r_.target.calendar⟩ : level_Piece)] : List level_Piece)) fun x12 =>
 some (⟨(⟨r_.clock.kind, r_.clock.level, r_.clock.minutes, r_.clock.start, r_.clock.stop, r_.clock.end_, x12⟩ : level_Clock), r_.target, true⟩ : level_running)
def level_keeper_choose_1 (r_ : level_running) (p1 : level_keeper) (p2 : Int) (p3 : Int) : Option level_running :=
 Option.bind (level_keeper_target p1 r_.clock.kind) fun x101 =>
 if (!x101.2) = true then
  Option.bind (level_running_end r_ p2 2) fun x119 =>
  some x119
 else
  Option.bind (if ((r_.goes && (!(x101.1.kind == r_.target.kind && (x101.1.minutes == r_.target.minutes && (x101.1.calendar == r_.target.calendar))))) && (x101.1.calendar != r_.target.calendar)) = true then Option.bind (level_running_cut r_ p2) fun x146 => some x146 else some r_) fun s136 =>
  Option.bind (if ((r_.goes && (!(x101.1.kind == r_.target.kind && (x101.1.minutes == r_.target.minutes && (x101.1.calendar == r_.target.calendar))))) && (x101.1.calendar != r_.target.calendar)) = true then Option.bind (level_running_on (⟨(⟨s136.clock.kind, p3, x101.1.minutes, s136.clock.start, s136.clock.stop, s136.clock.end_, s136.clock.pieces⟩ : level_Clock), x101.1, s136.goes⟩ : level_running) p2) fun x180 => some x180 else some (⟨(⟨s136.clock.kind, p3, x101.1.minutes, s136.clock.start, s136.clock.stop, s136.clock.end_, s136.clock.pieces⟩ : level_Clock), x101.1, s136.goes⟩ : level_running)) fun s170 =>
  some s170
def level_keeper_choose (k_ : level_keeper) (at_ : Int) (level : Int) : Option level_keeper :=
 Option.bind (level_keeper_each (fun y => level_keeper_choose_1 y (⟨k_.policy, level, k_.clocks⟩ : level_keeper) at_ level) k_.clocks) fun x29 =>
 some (⟨k_.policy, level, x29⟩ : level_keeper)
def level_keeper_begin (k_ : level_keeper) (at_ : Int) (kind : Int) : Option level_keeper :=
 Option.bind (level_keeper_target k_ kind) fun x7 =>
 if (!x7.2) = true then
  some k_
 else
  Option.bind (appendL 17592186044416 k_.clocks [(⟨(⟨kind, k_.level, x7.1.minutes, at_, (-1), 0, ([] : (List level_Piece))⟩ : level_Clock), x7.1, false⟩ : level_running)]) fun x40 =>
  some (⟨k_.policy, k_.level, x40⟩ : level_keeper)
def slices_Index_Lint_int (s : (List Int)) (v : Int) : Option Int :=
 Option.bind (rangeB (fun k6 _ => Option.bind (idx s (k6 : Int)) fun x21 => if (v == x21) = true then some (.rt (k6 : Int)) else some (.nx ())) s.length 0 ()) fun o3 => o3.andThen (fun y => some y) fun s4 =>
 some (-1)
def slices_Contains_Lint_int (s : (List Int)) (v : Int) : Option Bool :=
 Option.bind (slices_Index_Lint_int s v) fun x3 =>
 some (decide ((0 : Int) ≤ x3))
def level_keeper_runs_1 (r_ : level_running) (p1 : (List Int)) : Option Bool :=
 Option.bind (if (r_.clock.end_ == 0) = true then (Option.bind (slices_Contains_Lint_int p1 r_.clock.kind) fun x10 => some x10) else (some false)) fun s4 =>
 some s4
def slices_IndexFunc_L_level_running_level_running (s : List level_running) (f : level_running → Option Bool) : Option Int :=
 Option.bind (rangeB (fun k6 _ => Option.bind (idx s (k6 : Int)) fun x25 => Option.bind (f x25) fun x34 => if x34 = true then some (.rt (k6 : Int)) else some (.nx ())) s.length 0 ()) fun o3 => o3.andThen (fun y => some y) fun s4 =>
 some (-1)
def slices_ContainsFunc_L_level_running_level_running (s : List level_running) (f : level_running → Option Bool) : Option Bool :=
 Option.bind (slices_IndexFunc_L_level_running_level_running s f) fun x3 =>
 some (decide ((0 : Int) ≤ x3))
def level_keeper_runs (k_ : level_keeper) (kinds : List Int) : Option Bool :=
 Option.bind (slices_ContainsFunc_L_level_running_level_running k_.clocks (fun y => level_keeper_runs_1 y kinds)) fun x => some x
def level_keeper_point_2 (r_ : level_running) (p1 : Bool) (p2 : level_Point) : Option level_running :=
 Option.bind (if p1 = true then Option.bind (level_running_cut r_ p2.at_) fun x16 => some x16 else Option.bind (if (!r_.goes) = true then Option.bind (level_running_on r_ p2.at_) fun x36 => some x36 else some r_) fun s25 => some s25) fun s4 =>
 some s4
def level_keeper_point (k_ : level_keeper) (p : level_Point) (before : Option level_Point) : Option level_keeper :=
 Option.bind (level_keeper_each (fun y => level_keeper_point_1 y p ((p.status == 5) || (p.status == 6)) ((p.kind == 2) && (decide ((0 : Int) < p.who)))) k_.clocks) fun x40 =>
 Option.bind (level_Policy_levelOf k_.policy p.priority p.values) fun x50 =>
 Option.bind (if (x50 != k_.level) = true then Option.bind (level_keeper_choose (⟨k_.policy, k_.level, x40⟩ : level_keeper) p.at_ x50) fun x70 => some x70 else some (⟨k_.policy, k_.level, x40⟩ : level_keeper)) fun s55 =>
 Option.bind (if (p.status != 6) = true then Option.bind (if before.isNone = true then Option.bind (level_keeper_begin s55 p.at_ 1) fun x115 => some x115 else some s55) fun s100 => Option.bind (if (p.kind == 2) = true then (if (p.who == 0) = true then (Option.bind (level_keeper_runs s100 ([1, 2] : List Int)) fun x145 => some (!x145)) else (some false)) else (some false)) fun s129 => Option.bind (if s129 = true then Option.bind (level_keeper_begin s100 p.at_ 2) fun x170 => some x170 else some s100) fun s155 => Option.bind (if before.isNone = true then (some true) else (Option.bind (before) fun x185 => some (x185.status == 5))) fun s184 => Option.bind (if s184 = true then (some true) else (Option.bind (before) fun x193 => some (x193.status == 6))) fun s192 => Option.bind (if s192 = true then (if (p.status != 5) = true then (Option.bind (level_keeper_runs s155 ([3] : List Int)) fun x215 => some (!x215)) else (some false)) else (some false)) fun s200 => Option.bind (if s200 = true then Option.bind (level_keeper_begin s155 p.at_ 3) fun x240 => some x240 else some s155) fun s225 => some s225 else some s55) fun s85 =>
 Option.bind (slices_Contains_Lint_int s85.policy.pauses p.status) fun x279 =>
 Option.bind (level_keeper_each (fun y => level_keeper_point_2 y x279 p) s85.clocks) fun x293 =>
 some (⟨s85.policy, s85.level, x293⟩ : level_keeper)
noncomputable def level_Clocks (p : level_Policy) (l : (List level_Point)) : Option ((List level_Clock) × Int) :=
 Option.bind (level_CheckPolicy p) fun x19 =>
 if (x19 != 0) = true then
  some (([] : (List level_Clock)), x19)
 else
  Option.bind (level_CheckHistory l) fun x24 =>
  if (x24 != 0) = true then
   some (([] : (List level_Clock)), x24)
  else
   Option.bind (rangeB (fun k48 s60 => Option.bind (Option.bind (idx l (k48 : Int)) fun x93 => Option.bind (if ((k48 : Int) == 0) = true then Option.bind (level_keeper_point s60 x93 (none : Option level_Point)) fun x129 => some x129 else Option.bind (idx l (w64 ((k48 : Int) - 1))) fun x144 => Option.bind (level_keeper_point s60 x93 (some x144)) fun x151 => some x151) fun s112 => some s112) fun s80 => some (.nx s80)) l.length 0 (⟨p, (-1), ([] : (List level_running))⟩ : level_keeper)) fun o45 => o45.andThen (fun y => some y) fun s46 =>
   Option.bind (rangeB (fun k170 s178 => Option.bind (idx s46.clocks (k170 : Int)) fun x193 => Option.bind (appendL 1954687338268 s178 ([x193.clock] : List level_Clock)) fun x215 => some (.nx x215)) s46.clocks.length 0 ([] : (List level_Clock))) fun o167 => o167.andThen (fun y => some y) fun s168 =>
   some (s168, 0)
def strings_Trim (s : ByteArray) (cutset : ByteArray) : Option ByteArray :=
 if s.size ≤ 9223372036854775807 ∧ cutset.size < 4294967281 ∧ (cutset.data.toList.all fun b => decide (b.toNat < 128)) = true then some ⟨(Go.Lib.trimS s.data.toList cutset.data.toList).toArray⟩ else none
def portref2_IsName (s : ByteArray) : Option Bool :=
 Option.bind (if (decide ((1 : Int) ≤ (s.size : Int))) = true then (if (decide ((s.size : Int) ≤ 20)) = true then (Option.bind (strings_Trim s (⟨#[97, 98, 99, 100, 101, 102, 103, 104, 105, 106, 107, 108, 109, 110, 111, 112, 113, 114, 115, 116, 117, 118, 119, 120, 121, 122, 48, 49, 50, 51, 52, 53, 54, 55, 56, 57, 95]⟩ : ByteArray)) fun x11 => some (strEq x11 (⟨#[]⟩ : ByteArray))) else (some false)) else (some false)) fun s2 =>
 some s2
def slices_ContainsFunc_Llevel_Level_level_Level (s : (List level_Level)) (f : level_Level → Option Bool) : Option Bool :=
 Option.bind (slices_IndexFunc_Llevel_Level_level_Level s f) fun x3 =>
 some (decide ((0 : Int) ≤ x3))
def portref2_levelFault_1 (y : level_Level) (p1 : level_Level) : Option Bool :=
 some (strEq y.name p1.name)
def portref2_IsMoment (m : Int) : Bool :=
 ((decide ((0 : Int) ≤ m)) && (decide (m ≤ 3000000)))
def portref2_lowByte_1 (r_ : Int) : Bool :=
 ((decide (r_ < 32)) || (r_ == 127))
def portref2_lowByte (s : ByteArray) : Option Bool :=
 some (decide (0 ≤ Go.Lib.idxFunc (fun y => portref2_lowByte_1 (y : Int)) true s))
def portref2_testFault (t : level_Test) : Option Int :=
 if (((decide (t.value.kind < 0)) || (decide ((6 : Int) < t.value.kind))) || ((decide (t.field < 0)) && (t.value.kind != 2))) = true then
  some 10
 else
  Option.bind (if ((!(strEq t.value.text (⟨#[]⟩ : ByteArray))) && (t.value.kind != 3)) = true then some ((!(strEq t.value.text (⟨#[]⟩ : ByteArray))) && (t.value.kind != 3)) else some ((t.value.int != 0) && ((t.value.kind == 3) || (t.value.kind == 0)))) fun s33 =>
  if s33 = true then
   some 1
  else
   Option.bind (if (((t.value.kind == 1) && (t.value.int != 0)) && (t.value.int != 1)) = true then some (((t.value.kind == 1) && (t.value.int != 0)) && (t.value.int != 1)) else Option.bind (if ((t.value.kind == 4) && ((decide (t.value.int < 0)) || (decide ((20 : Int) ≤ t.value.int)))) = true then some ((t.value.kind == 4) && ((decide (t.value.int < 0)) || (decide ((20 : Int) ≤ t.value.int)))) else Option.bind (if ((t.value.kind == 5) && (!(portref2_IsMoment t.value.int))) = true then some ((t.value.kind == 5) && (!(portref2_IsMoment t.value.int))) else some ((t.value.kind == 6) && ((decide (t.value.int < 1)) || (decide ((40 : Int) < t.value.int))))) fun s84 => some s84) fun s72 => some s72) fun s57 =>
   if s57 = true then
    some 2
   else
    if (decide ((200 : Int) < (t.value.text.size : Int))) = true then
     some 4
    else
     Option.bind (portref2_lowByte t.value.text) fun x105 =>
     if x105 = true then
      some 9
     else
      some 0
def portref2_levelFault (l : (List level_Level)) (i_ : Int) : Option Int :=
 Option.bind (idx l i_) fun x3 =>
 Option.bind (portref2_IsName x3.name) fun x27 =>
 if (!x27) = true then
  some 3
 else
  Option.bind (sliceL l none (some i_)) fun x32 =>
  Option.bind (slices_ContainsFunc_Llevel_Level_level_Level x32 (fun y35 => portref2_levelFault_1 y35 x3)) fun x36 =>
  if x36 = true then
   some 6
  else
   if (decide ((8 : Int) < (x3.tests.length : Int))) = true then
    some 4
   else
    Option.bind (rangeB (fun k65 _ => Option.bind (idx x3.tests (k65 : Int)) fun x84 => if ((decide (x84.field < (-1))) || (decide ((20 : Int) ≤ x84.field))) = true then some (.rt 2) else Option.bind (if (decide ((0 : Int) < (k65 : Int))) = true then (Option.bind (idx x3.tests (w64 ((k65 : Int) - 1))) fun x109 => some (decide (x84.field ≤ x109.field))) else (some false)) fun s103 => if s103 = true then some (.rt 5) else Option.bind (portref2_testFault x84) fun x119 => if (x119 != 0) = true then some (.rt x119) else some (.nx ())) x3.tests.length 0 ()) fun o62 => o62.andThen (fun y => some y) fun s63 =>
    Option.bind (rangeB (fun k134 _ => Option.bind (idx x3.targets (k134 : Int)) fun x153 => if ((((((decide (x153.kind < 1)) || (decide ((3 : Int) < x153.kind))) || (decide (x153.minutes < 0))) || (decide ((100000 : Int) < x153.minutes))) || (decide (x153.calendar < 0))) || (decide ((20 : Int) ≤ x153.calendar))) = true then some (.rt 2) else Option.bind (if (decide ((0 : Int) < (k134 : Int))) = true then (Option.bind (idx x3.targets (w64 ((k134 : Int) - 1))) fun x190 => some (decide (x153.kind ≤ x190.kind))) else (some false)) fun s184 => if s184 = true then some (.rt 5) else some (.nx ())) x3.targets.length 0 ()) fun o131 => o131.andThen (fun y => some y) fun s132 =>
    some 0
def portref2_PolicyFault (p : level_Policy) : Option Int :=
 Option.bind (rangeB (fun k19 _ => Option.bind (idx p.pauses (k19 : Int)) fun x34 => if ((decide (x34 < 1)) || (decide ((4 : Int) < x34))) = true then some (.rt 2) else Option.bind (if (decide ((0 : Int) < (k19 : Int))) = true then (Option.bind (idx p.pauses (w64 ((k19 : Int) - 1))) fun x47 => some (decide (x34 ≤ x47))) else (some false)) fun s42 => if s42 = true then some (.rt 5) else some (.nx ())) p.pauses.length 0 ()) fun o16 => o16.andThen (fun y => some y) fun s17 =>
 if (decide ((20 : Int) < (p.levels.length : Int))) = true then
  some 4
 else
  Option.bind (rangeB (fun k69 _ => Option.bind (portref2_levelFault p.levels (k69 : Int)) fun x92 => if (x92 != 0) = true then some (.rt x92) else some (.nx ())) p.levels.length 0 ()) fun o66 => o66.andThen (fun y => some y) fun s67 =>
  some 0
def portref2_HistoryFault (l : (List level_Point)) : Option Int :=
 if (decide ((6000 : Int) < (l.length : Int))) = true then
  some 4
 else
  Option.bind (rangeB (fun k7 _ => Option.bind (idx l (k7 : Int)) fun x27 => if (!(portref2_IsMoment x27.at_)) = true then some (.rt 2) else Option.bind (if (decide ((0 : Int) < (k7 : Int))) = true then (Option.bind (idx l (w64 ((k7 : Int) - 1))) fun x50 => some (decide (x27.at_ < x50.at_))) else (some false)) fun s48 => if s48 = true then some (.rt 5) else if ((decide (x27.kind < 1)) || (decide ((10 : Int) < x27.kind))) = true then some (.rt 10) else if ((((decide (x27.who < (-1))) || (decide ((40 : Int) < x27.who))) || (decide (x27.status < 1))) || (decide ((6 : Int) < x27.status))) = true then some (.rt 2) else if (decide ((20 : Int) < (x27.values.length : Int))) = true then some (.rt 4) else some (.nx ())) l.length 0 ()) fun o4 => o4.andThen (fun y => some y) fun s5 =>
  some 0
def portref2_ticking_turn (t : portref2_ticking) (m : Int) (calendar : Int) : Option portref2_ticking :=
 if (calendar == t.now) = true then
  some t
 else
  Option.bind (if ((decide ((0 : Int) ≤ t.now)) && (decide (t.at_ < m))) = true then Option.bind (appendL 5864062014805 t.c.pieces ([(⟨t.at_, m, t.now⟩ : level_Piece)] : List level_Piece)) fun x25 => some (⟨(⟨t.c.kind, t.c.level, t.c.minutes, t.c.start, t.c.stop, t.c.end_, x25⟩ : level_Clock), t.now, t.at_, t.cal⟩ : portref2_ticking) else some t) fun s7 =>
  some (⟨s7.c, calendar, m, s7.cal⟩ : portref2_ticking)
def portref2_ticking_end (t : portref2_ticking) (m : Int) (how : Int) : Option portref2_ticking :=
 Option.bind (portref2_ticking_turn t m (-1)) fun x3 =>
 some (⟨(⟨x3.c.kind, x3.c.level, x3.c.minutes, x3.c.start, m, how, x3.c.pieces⟩ : level_Clock), x3.now, x3.at_, x3.cal⟩ : portref2_ticking)
def portref2_over (status : Int) : Bool :=
 ((status == 5) || (status == 6))
def portref2_levelIn_1_1 (t : level_Test) (p1 : Int) (p2 : (List api_Value)) : Option Bool :=
 Option.bind (if (decide (t.field < 0)) = true then some (⟨2, p1, ByteArray.empty⟩ : api_Value) else Option.bind (if (decide (t.field < (p2.length : Int))) = true then Option.bind (idx p2 t.field) fun x47 => some x47 else some (⟨0, 0, ByteArray.empty⟩ : api_Value)) fun s35 => some s35) fun s18 =>
 some (!(s18.kind == t.value.kind && (s18.int == t.value.int && (strEq s18.text t.value.text))))
def portref2_levelIn_1 (l : level_Level) (p1 : Int) (p2 : (List api_Value)) : Option Bool :=
 Option.bind (slices_ContainsFunc_Llevel_Test_level_Test l.tests (fun y15 => portref2_levelIn_1_1 y15 p1 p2)) fun x16 =>
 some (!x16)
def portref2_levelIn (p : level_Policy) (priority : Int) (values : (List api_Value)) : Option Int :=
 Option.bind (slices_IndexFunc_Llevel_Level_level_Level p.levels (fun y33 => portref2_levelIn_1 y33 priority values)) fun x34 =>
 some x34
def portref2_targetOf (p : level_Policy) (l : Int) (kind : Int) : Option (level_Target × Bool) :=
 if (decide (l < 0)) = true then
  some ((⟨0, 0, 0⟩ : level_Target), false)
 else
  Option.bind (idx p.levels l) fun x24 =>
  Option.bind (rangeB (fun k35 s41 => Option.bind (idx x24.targets (k35 : Int)) fun x54 => if (x54.kind == kind) = true then some (.rt (x54, true)) else some (.nx s41)) x24.targets.length 0 (⟨0, 0, 0⟩ : level_Target)) fun o32 => o32.andThen (fun y => some y) fun s33 =>
  some ((⟨0, 0, 0⟩ : level_Target), false)
def portref2_ClocksOf_1_1 (t : portref2_ticking) (p1 : (List Int)) : Option Bool :=
 Option.bind (if (decide (t.c.stop < 0)) = true then (Option.bind (slices_Contains_Lint_int p1 t.c.kind) fun x10 => some x10) else (some false)) fun s4 =>
 some s4
def slices_IndexFunc_L_portref2_ticking_portref2_ticking (s : List portref2_ticking) (f : portref2_ticking → Option Bool) : Option Int :=
 Option.bind (rangeB (fun k6 _ => Option.bind (idx s (k6 : Int)) fun x25 => Option.bind (f x25) fun x34 => if x34 = true then some (.rt (k6 : Int)) else some (.nx ())) s.length 0 ()) fun o3 => o3.andThen (fun y => some y) fun s4 =>
 some (-1)
def slices_ContainsFunc_L_portref2_ticking_portref2_ticking (s : List portref2_ticking) (f : portref2_ticking → Option Bool) : Option Bool :=
 Option.bind (slices_IndexFunc_L_portref2_ticking_portref2_ticking s f) fun x3 =>
 some (decide ((0 : Int) ≤ x3))
def portref2_ClocksOf_1 (kinds : List Int) (all : List portref2_ticking) : Option Bool :=
 Option.bind (slices_ContainsFunc_L_portref2_ticking_portref2_ticking all (fun y => portref2_ClocksOf_1_1 y kinds)) fun x => some x
noncomputable def portref2_ClocksOf (p : level_Policy) (l : (List level_Point)) : Option ((List level_Clock) × Int) :=
 Option.bind (portref2_PolicyFault p) fun x19 =>
 if (x19 != 0) = true then
  some (([] : (List level_Clock)), x19)
 else
  Option.bind (portref2_HistoryFault l) fun x24 =>
  if (x24 != 0) = true then
   some (([] : (List level_Clock)), x24)
  else
   Option.bind (rangeB (fun k37 s45 => Option.bind (Option.bind (idx l (k37 : Int)) fun x70 => Option.bind (rangeB (R := Empty) (fun k91 s97 => Option.bind (Option.bind (idx s97 (k91 : Int)) fun x118 => Option.bind (Option.bind (if (decide ((0 : Int) ≤ x118.c.stop)) = true then some x118 else Option.bind (if ((x70.kind == 7) && (x70.status == 6)) = true then Option.bind (portref2_ticking_end x118 x70.at_ 2) fun x169 => some x169 else Option.bind (if ((x118.c.kind != 3) && ((x70.kind == 2) && (decide ((0 : Int) < x70.who)))) = true then some ((x118.c.kind != 3) && ((x70.kind == 2) && (decide ((0 : Int) < x70.who)))) else some ((x118.c.kind == 3) && (portref2_over x70.status))) fun s180 => Option.bind (if s180 = true then Option.bind (portref2_ticking_end x118 x70.at_ 1) fun x203 => some x203 else some x118) fun s192 => some s192) fun s158 => some s158) fun s142 => some s142) fun s132 => some (List.set s97 (Int.toNat (k91 : Int)) s132)) fun s111 => some (.nx s111)) s45.2.length 0 s45.2) fun o88 => o88.andThen (fun y => y.elim) fun s89 => Option.bind (portref2_levelIn p x70.priority x70.values) fun x229 => Option.bind (if (x229 != s45.1) = true then Option.bind (rangeB (R := Empty) (fun k245 s251 => Option.bind (Option.bind (idx s251 (k245 : Int)) fun x272 => if (decide ((0 : Int) ≤ x272.c.stop)) = true then some s251 else Option.bind (portref2_targetOf p x229 x272.c.kind) fun x355 => if (!x355.2) = true then Option.bind (portref2_ticking_end x272 x70.at_ 2) fun x374 => some (List.set s251 (Int.toNat (k245 : Int)) x374) else Option.bind (if (decide ((0 : Int) ≤ x272.now)) = true then Option.bind (portref2_ticking_turn (⟨(⟨x272.c.kind, x229, x355.1.minutes, x272.c.start, x272.c.stop, x272.c.end_, x272.c.pieces⟩ : level_Clock), x272.now, x272.at_, x355.1.calendar⟩ : portref2_ticking) x70.at_ x355.1.calendar) fun x409 => some x409 else some (⟨(⟨x272.c.kind, x229, x355.1.minutes, x272.c.start, x272.c.stop, x272.c.end_, x272.c.pieces⟩ : level_Clock), x272.now, x272.at_, x355.1.calendar⟩ : portref2_ticking)) fun s397 => some (List.set s251 (Int.toNat (k245 : Int)) s397)) fun s265 => some (.nx s265)) s89.length 0 s89) fun o242 => o242.andThen (fun y => y.elim) fun s243 => some (x229, s243) else some (s45.1, s89)) fun s234 => Option.bind (if (x70.kind == 2) = true then (if (x70.who == 0) = true then (Option.bind (portref2_ClocksOf_1 ([1, 2] : List Int) s234.2) fun x450 => if ((k37 : Int) == 0) = true then (if (x70.status != 5) = true then (Option.bind (portref2_ClocksOf_1 ([3] : List Int) s234.2) fun x467 => some (mapPut (mapPut (mapPut ([] : List (Int × Bool)) 1 ((k37 : Int) == 0)) 2 (!x450)) 3 (!x467))) else (some (mapPut (mapPut (mapPut ([] : List (Int × Bool)) 1 ((k37 : Int) == 0)) 2 (!x450)) 3 false))) else (Option.bind (idx l (w64 ((k37 : Int) - 1))) fun x480 => if (portref2_over x480.status) = true then (if (x70.status != 5) = true then (Option.bind (portref2_ClocksOf_1 ([3] : List Int) s234.2) fun x493 => some (mapPut (mapPut (mapPut ([] : List (Int × Bool)) 1 ((k37 : Int) == 0)) 2 (!x450)) 3 (!x493))) else (some (mapPut (mapPut (mapPut ([] : List (Int × Bool)) 1 ((k37 : Int) == 0)) 2 (!x450)) 3 false))) else (some (mapPut (mapPut (mapPut ([] : List (Int × Bool)) 1 ((k37 : Int) == 0)) 2 (!x450)) 3 false)))) else (if ((k37 : Int) == 0) = true then (if (x70.status != 5) = true then (Option.bind (portref2_ClocksOf_1 ([3] : List Int) s234.2) fun x523 => some (mapPut (mapPut (mapPut ([] : List (Int × Bool)) 1 ((k37 : Int) == 0)) 2 false) 3 (!x523))) else (some (mapPut (mapPut (mapPut ([] : List (Int × Bool)) 1 ((k37 : Int) == 0)) 2 false) 3 false))) else (Option.bind (idx l (w64 ((k37 : Int) - 1))) fun x536 => if (portref2_over x536.status) = true then (if (x70.status != 5) = true then (Option.bind (portref2_ClocksOf_1 ([3] : List Int) s234.2) fun x549 => some (mapPut (mapPut (mapPut ([] : List (Int × Bool)) 1 ((k37 : Int) == 0)) 2 false) 3 (!x549))) else (some (mapPut (mapPut (mapPut ([] : List (Int × Bool)) 1 ((k37 : Int) == 0)) 2 false) 3 false))) else (some (mapPut (mapPut (mapPut ([] : List (Int × Bool)) 1 ((k37 : Int) == 0)) 2 false) 3 false))))) else (if ((k37 : Int) == 0) = true then (if (x70.status != 5) = true then (Option.bind (portref2_ClocksOf_1 ([3] : List Int) s234.2) fun x580 => some (mapPut (mapPut (mapPut ([] : List (Int × Bool)) 1 ((k37 : Int) == 0)) 2 false) 3 (!x580))) else (some (mapPut (mapPut (mapPut ([] : List (Int × Bool)) 1 ((k37 : Int) == 0)) 2 false) 3 false))) else (Option.bind (idx l (w64 ((k37 : Int) - 1))) fun x593 => if (portref2_over x593.status) = true then (if (x70.status != 5) = true then (Option.bind (portref2_ClocksOf_1 ([3] : List Int) s234.2) fun x606 => some (mapPut (mapPut (mapPut ([] : List (Int × Bool)) 1 ((k37 : Int) == 0)) 2 false) 3 (!x606))) else (some (mapPut (mapPut (mapPut ([] : List (Int × Bool)) 1 ((k37 : Int) == 0)) 2 false) 3 false))) else (some (mapPut (mapPut (mapPut ([] : List (Int × Bool)) 1 ((k37 : Int) == 0)) 2 false) 3 false))))) fun s425 => Option.bind (if (((k37 : Int) == 0) && ((mapGet s425 1).getD false)) = true then Option.bind (portref2_targetOf p s234.1 1) fun x640 => Option.bind (if (x640.2 && (x70.status != 6)) = true then some (mapPut s425 2 false) else some s425) fun s656 => some s656 else some s425) fun s627 => Option.bind (whileB (R := Empty) (fun s682 => if (decide (s682.1 ≤ 3)) = true then Option.bind (Option.bind (portref2_targetOf p s234.1 s682.1) fun x711 => Option.bind (if ((((mapGet s627 s682.1).getD false) && x711.2) && (x70.status != 6)) = true then Option.bind (appendL 17592186044416 s682.2 [(⟨(⟨s682.1, s234.1, x711.1.minutes, x70.at_, (-1), 0, ([] : (List level_Piece))⟩ : level_Clock), (-1), 0, x711.1.calendar⟩ : portref2_ticking)]) fun x757 => some x757 else some s682.2) fun s729 => some s729) fun s697 => some (.nx (w64 (s682.1 + 1), s697)) else some (.bk (s682.1, s682.2))) (1, s234.2)) fun o671 => o671.andThen (fun y => y.elim) fun s672 => Option.bind (rangeB (R := Empty) (fun k778 s784 => Option.bind (Option.bind (idx s784 (k778 : Int)) fun x805 => if (decide ((0 : Int) ≤ x805.c.stop)) = true then some s784 else Option.bind (slices_Contains_Lint_int p.pauses x70.status) fun x821 => Option.bind (if x821 = true then Option.bind (portref2_ticking_turn x805 x70.at_ (-1)) fun x834 => some x834 else Option.bind (portref2_ticking_turn x805 x70.at_ x805.cal) fun x846 => some x846) fun s823 => some (List.set s784 (Int.toNat (k778 : Int)) s823)) fun s798 => some (.nx s798)) s672.2.length 0 s672.2) fun o775 => o775.andThen (fun y => y.elim) fun s776 => some (s234.1, s776)) fun s61 => some (.nx (s61.1, s61.2))) l.length 0 ((-1), ([] : (List portref2_ticking)))) fun o34 => o34.andThen (fun y => some y) fun s35 =>
   Option.bind (rangeB (fun k865 s873 => Option.bind (idx s35.2 (k865 : Int)) fun x888 => Option.bind (if ((decide (x888.c.stop < 0)) && (decide ((0 : Int) ≤ x888.now))) = true then Option.bind (appendL 5864062014805 x888.c.pieces ([(⟨x888.at_, (-1), x888.now⟩ : level_Piece)] : List level_Piece)) fun x919 => some (⟨(⟨x888.c.kind, x888.c.level, x888.c.minutes, x888.c.start, x888.c.stop, x888.c.end_, x919⟩ : level_Clock), x888.now, x888.at_, x888.cal⟩ : portref2_ticking) else some x888) fun s900 => Option.bind (appendL 1954687338268 s873 ([s900.c] : List level_Clock)) fun x946 => some (.nx x946)) s35.2.length 0 ([] : (List level_Clock))) fun o862 => o862.andThen (fun y => some y) fun s863 =>
   some (s863, 0)
def slices_EqualFunc_Llevel_Clock_Llevel_Clock_level_Clock_level_Clock (s1 : (List level_Clock)) (s2 : (List level_Clock)) (eq : level_Clock → level_Clock → Option Bool) : Option Bool :=
 if ((s1.length : Int) != (s2.length : Int)) = true then
  some false
 else
  Option.bind (rangeB (fun k9 _ => Option.bind (idx s1 (k9 : Int)) fun x29 => Option.bind (idx s2 (k9 : Int)) fun x47 => Option.bind (eq x29 x47) fun x71 => if (!x71) = true then some (.rt false) else some (.nx ())) s1.length 0 ()) fun o6 => o6.andThen (fun y => some y) fun s7 =>
  some true
def slices_Equal_Llevel_Piece_level_Piece (s1 : (List level_Piece)) (s2 : (List level_Piece)) : Option Bool :=
 if ((s1.length : Int) != (s2.length : Int)) = true then
  some false
 else
  Option.bind (rangeB (fun k9 _ => Option.bind (idx s1 (k9 : Int)) fun x29 => Option.bind (idx s2 (k9 : Int)) fun x34 => if (!(x29.from_ == x34.from_ && (x29.to_ == x34.to_ && (x29.calendar == x34.calendar)))) = true then some (.rt false) else some (.nx ())) s1.length 0 ()) fun o6 => o6.andThen (fun y => some y) fun s7 =>
  some true
def portref2_alikeClock (a_ : level_Clock) (b : level_Clock) : Option Bool :=
 Option.bind (if (a_.kind == b.kind) = true then (if (a_.level == b.level) = true then (if (a_.minutes == b.minutes) = true then (if (a_.start == b.start) = true then (if (a_.stop == b.stop) = true then (if (a_.end_ == b.end_) = true then (Option.bind (slices_Equal_Llevel_Piece_level_Piece a_.pieces b.pieces) fun x51 => some x51) else (some false)) else (some false)) else (some false)) else (some false)) else (some false)) else (some false)) fun s18 =>
 some s18
def portref2_Alike (a_ : (List level_Clock)) (b : (List level_Clock)) : Option Bool :=
 Option.bind (Option.bind (slices_EqualFunc_Llevel_Clock_Llevel_Clock_level_Clock_level_Clock a_ b (fun y15 y16 => portref2_alikeClock y15 y16)) fun x17 => some x17) fun s6 =>
 some s6
noncomputable def portlaw2_LevelClocks (p : level_Policy) (l : (List level_Point)) : Option Bool :=
 Option.bind (level_Clocks p l) fun x19 =>
 Option.bind (portref2_ClocksOf p l) fun x31 =>
 Option.bind (if (x19.2 == x31.2) = true then (Option.bind (portref2_Alike x19.1 x31.1) fun x57 => if x57 = true then (Option.bind (level_CheckHistory l) fun x62 => Option.bind (portref2_HistoryFault l) fun x66 => some (x62 == x66)) else (some false)) else (some false)) fun s49 =>
 some s49
end Go.Proofs.YtfbiebageicnaaaGreatDoor.M
