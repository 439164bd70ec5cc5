import Derived.Test.YtiblagcmjobknaaGreatDoorPu
import Derived.Lib.Index
import Derived.Lib.Split
import Derived.Test.YtiblagcmjobknaaGreatDoorPr
import Derived.Test.YtiblagcmjobknaaGreatDoorPj
import Derived.Test.YtiblagcmjobknaaGreatDoorPm
namespace Go.Proofs.YtiblagcmjobknaaGreatDoor.M
open Go Go.Pu
set_option linter.unusedVariables false
set_option linter.unusedSimpArgs false
structure zi where
 name : ByteArray
 rank : Int
structure zd where
 no : Int
 capacity : Int
 calendar : Int
 skills : (List zi)
structure zU where
 at_ : Int
 offset : Int
structure Zc where
 offset : Int
 changes : (List zU)
structure zp where
 day : Int
 from_ : Int
 to_ : Int
structure zC where
 day : Int
 shifts : (List zp)
structure zg where
 zone : Zc
 week : (List zp)
 specials : (List zC)
structure zk where
 after : Int
 lower : Int
 any : Bool
structure Zr where
 people : (List zd)
 cals : (List zg)
 steps : (List zk)
 away : (List Bool)
structure za where
 ticket : Int
 weight : Int
 urgency : Int
 since : Int
 former : Int
 needs : (List zi)
structure zb where
 ticket : Int
 person : Int
 weight : Int
 since : Int
structure ze where
 assigner : Zr
 now : Int
 waiting : (List za)
 held : (List zb)
 work : (List (Int × za))
structure zT where
 people : (List zd)
 duty : (List Bool)
 weights : (List Int)
 latest : (List Int)
structure zr where
 from_ : Int
 to_ : Int
structure zO where
 from_ : Int
 to_ : Int
 offset : Int
def jq (s : ByteArray) (substr : ByteArray) : Option Int :=
 match substr.data.toList with
 | [c] => some (Go.Lib.indexByte s.data.toList c)
 | _ => none
def jL (s : ByteArray) (sep : ByteArray) : Option (ByteArray × ByteArray × Bool) :=
 Option.bind (jq s sep) fun x1 =>
 if (decide ((0 : Int) ≤ x1)) = true then
  Option.bind (zdg s none (some x1)) fun x6 =>
  Option.bind (zdg s (some (w64 (x1 + (sep.size : Int)))) none) fun x7 =>
  some (x6, x7, true)
 else
  some (s, (⟨#[]⟩ : ByteArray), false)
def zbi (s : ByteArray) (sep : ByteArray) : Option (ByteArray × ByteArray × Bool) :=
 Option.bind (jL s sep) fun x1 =>
 some (x1.1, x1.2.1, x1.2.2)
def strings_genSplit (s : ByteArray) (sep : ByteArray) (sepSave : Int) (n : Int) : Option (List ByteArray) :=
 if s.size < 4294967281 ∧ 1 ≤ sep.size ∧ 0 ≤ sepSave ∧ sepSave ≤ (sep.size : Int) ∧ n = -1 then some (Go.Lib.splitB sep sepSave.toNat (min (Go.Lib.countB s sep + 1) (s.size + 1) - 1) s) else none
def zas (s : ByteArray) (sep : ByteArray) : Option (List ByteArray) :=
 Option.bind (strings_genSplit s sep 0 (-1)) fun x1 =>
 some x1
def jH (line : ByteArray) : Option (zd × Bool) :=
 Option.bind (zas line (⟨#[32]⟩ : ByteArray)) fun x11 =>
 Option.bind (if ((decide ((x11.length : Int) < 4)) || ((Int.tmod (x11.length : Int) 2) != 0)) = true then (some true) else (Option.bind (idx x11 0) fun x21 => some (!(ja x21 (⟨#[112, 101, 114, 115, 111, 110]⟩ : ByteArray))))) fun s20 =>
 if s20 = true then
  some ((⟨0, 0, 0, ([] : (List zi))⟩ : zd), false)
 else
  none
noncomputable def JB (s : ByteArray) : Option ((List zd) × Int × Int) :=
 if (decide ((400000 : Int) < (s.size : Int))) = true then
  some (([] : (List zd)), 0, 4)
 else
  Option.bind (QT (fun s13 => if (!(ja s13.1 (⟨#[]⟩ : ByteArray))) = true then Option.bind (zbi s13.1 (⟨#[10]⟩ : ByteArray)) fun x27 => Option.bind (jH x27.1) fun x31 => if ((!x31.2) || (!x27.2.2)) = true then some (.rt (([] : (List zd)), s13.2.2, 8)) else Option.bind (zt 2932031007402 s13.2.1 ([x31.1] : List zd)) fun x62 => some (.nx (x27.2.1, x62, w64 (s13.2.2 + 1))) else some (.bk (s13.1, s13.2.1, s13.2.2))) (s, ([] : (List zd)), 1)) fun o2 => o2.andThen (fun y => some y) fun s3 =>
  none
noncomputable def jd  : Option Bool :=
 Option.bind (JB (⟨#[120]⟩ : ByteArray)) fun x1 =>
 some (x1.2.2 != 0)
def zm (n : Int) (low : Int) (high : Int) : Bool :=
 ((decide (low ≤ n)) && (decide (n ≤ high)))
noncomputable def jX (s : ByteArray) : Option Bool :=
 Option.bind (QT (fun s8 => if (decide (s8 < (s.size : Int))) = true then Option.bind (idxS s s8) fun x18 => if (((!((decide ((97 : Int) ≤ (x18.toNat : Int))) && (decide ((x18.toNat : Int) ≤ 122)))) && (!((decide ((48 : Int) ≤ (x18.toNat : Int))) && (decide ((x18.toNat : Int) ≤ 57))))) && ((x18.toNat : Int) != 95)) = true then some (.rt false) else some (.nx (w64 (s8 + 1))) else some (.bk s8)) 0) fun o1 => o1.andThen (fun y => some y) fun s2 =>
 some ((!(ja s (⟨#[]⟩ : ByteArray))) && (decide ((s.size : Int) ≤ 20)))
noncomputable def qO (l : (List zi)) : Option Int :=
 if (decide ((12 : Int) < (l.length : Int))) = true then
  some 4
 else
  Option.bind (zE (fun k7 _ => Option.bind (idx l (k7 : Int)) fun x27 => Option.bind (jX x27.name) fun x41 => if (!x41) = true then some (.rt 3) else Option.bind (if (decide ((0 : Int) < (k7 : Int))) = true then (Option.bind (idx l (w64 ((k7 : Int) - 1))) fun x46 => some (zeH x27.name x46.name || ja x27.name x46.name)) else (some false)) fun s44 => if s44 = true then some (.rt 5) else if (!(zm x27.rank 1 9)) = true then some (.rt 2) else some (.nx ())) l.length 0 ()) fun o4 => o4.andThen (fun y => some y) fun s5 =>
  some 0
noncomputable def ZT (l : (List zd)) : Option Int :=
 if (decide ((40 : Int) < (l.length : Int))) = true then
  some 4
 else
  Option.bind (zE (fun k7 _ => Option.bind (idx l (k7 : Int)) fun x27 => if (!(zm x27.no 1 40)) = true then some (.rt 2) else Option.bind (if (decide ((0 : Int) < (k7 : Int))) = true then (Option.bind (idx l (w64 ((k7 : Int) - 1))) fun x50 => some (decide (x27.no ≤ x50.no))) else (some false)) fun s48 => if s48 = true then some (.rt 5) else if ((!(zm x27.capacity 0 100)) || (!(zm x27.calendar 0 19))) = true then some (.rt 2) else Option.bind (qO x27.skills) fun x68 => if (x68 != 0) = true then some (.rt x68) else some (.nx ())) l.length 0 ()) fun o4 => o4.andThen (fun y => some y) fun s5 =>
  some 0
def zW (n : Int) (low : Int) (high : Int) : Bool :=
 ((decide (low ≤ n)) && (decide (n ≤ high)))
def jp (z : Zc) : Option Int :=
 if (!(zW z.offset (-1440) 1440)) = true then
  some 2
 else
  if (decide ((60 : Int) < (z.changes.length : Int))) = true then
   some 4
  else
   Option.bind (zE (fun k27 s33 => Option.bind (idx z.changes (k27 : Int)) fun x46 => if ((!(zW x46.at_ 1 3000000)) || (!(zW x46.offset (-1440) 1440))) = true then some (.rt 2) else if (decide (x46.at_ ≤ s33.1)) = true then some (.rt 5) else if (x46.offset == s33.2) = true then some (.rt 1) else some (.nx (x46.at_, x46.offset))) z.changes.length 0 (0, z.offset)) fun o24 => o24.andThen (fun y => some y) fun s25 =>
   some 0
def QL (x : Int) : Bool :=
 x != x
def zj (x : Int) (y : Int) : Int :=
 if (QL x) = true then
  if (QL y) = true then
   0
  else
   (-1)
 else
  if (QL y) = true then
   1
  else
   if (decide (x < y)) = true then
    (-1)
   else
    if (decide (y < x)) = true then
     1
    else
     0
def jx (vals : (List Int)) : Option Int :=
 Option.bind (zE (fun k6 _ => Option.bind (idx vals (k6 : Int)) fun x21 => if (x21 != 0) = true then some (.rt x21) else some (.nx ())) vals.length 0 ()) fun o3 => o3.andThen (fun y => some y) fun s4 =>
 some 0
def zbp (a_ : zp) (b : zp) : Option Bool :=
 Option.bind (jx ([(zj a_.day b.day), (zj a_.from_ b.from_), (zj a_.to_ b.to_)] : List Int)) fun x31 =>
 some (decide ((0 : Int) < x31))
def jj (l : (List zp)) (dated : Bool) : Option Int :=
 Option.bind (zE (fun k6 _ => Option.bind (idx l (k6 : Int)) fun x25 => if (dated && (x25.day != 0)) = true then some (.rt 1) else if ((((!(zW x25.day 0 6)) || (!(zW x25.from_ 0 1439))) || (decide (x25.to_ ≤ x25.from_))) || (decide ((w64 (x25.from_ + 1440)) < x25.to_))) = true then some (.rt 2) else Option.bind (if (decide ((0 : Int) < (k6 : Int))) = true then (Option.bind (idx l (w64 ((k6 : Int) - 1))) fun x58 => Option.bind (zbp x25 x58) fun x63 => some (!x63)) else (some false)) fun s56 => if s56 = true then some (.rt 5) else some (.nx ())) l.length 0 ()) fun o3 => o3.andThen (fun y => some y) fun s4 =>
 some 0
def ZD (c : zg) : Option Int :=
 Option.bind (jp c.zone) fun x18 =>
 if (x18 != 0) = true then
  some x18
 else
  if ((decide ((60 : Int) < (c.week.length : Int))) || (decide ((200 : Int) < (c.specials.length : Int)))) = true then
   some 4
  else
   Option.bind (jj c.week false) fun x38 =>
   if (x38 != 0) = true then
    some x38
   else
    Option.bind (zE (fun k50 _ => Option.bind (idx c.specials (k50 : Int)) fun x69 => if (!(zW x69.day (-1) 2084)) = true then some (.rt 2) else Option.bind (if (decide ((0 : Int) < (k50 : Int))) = true then (Option.bind (idx c.specials (w64 ((k50 : Int) - 1))) fun x96 => some (decide (x69.day ≤ x96.day))) else (some false)) fun s90 => if s90 = true then some (.rt 5) else if (decide ((12 : Int) < (x69.shifts.length : Int))) = true then some (.rt 4) else Option.bind (jj x69.shifts true) fun x114 => if (x114 != 0) = true then some (.rt x114) else some (.nx ())) c.specials.length 0 ()) fun o47 => o47.andThen (fun y => some y) fun s48 =>
    some 0
noncomputable def qQ (people : (List zd)) (cals : (List zg)) : Option Int :=
 Option.bind (ZT people) fun x5 =>
 if (x5 != 0) = true then
  some x5
 else
  if (decide ((20 : Int) < (cals.length : Int))) = true then
   some 4
  else
   Option.bind (zE (fun k14 _ => Option.bind (idx cals (k14 : Int)) fun x33 => Option.bind (ZD x33) fun x68 => if (x68 != 0) = true then some (.rt x68) else some (.nx ())) cals.length 0 ()) fun o11 => o11.andThen (fun y => some y) fun s12 =>
   Option.bind (zE (fun k79 _ => Option.bind (idx people (k79 : Int)) fun x98 => if (decide ((cals.length : Int) ≤ x98.calendar)) = true then some (.rt 7) else some (.nx ())) people.length 0 ()) fun o76 => o76.andThen (fun y => some y) fun s77 =>
   some 0
def qD (l : (List zk)) : Option Int :=
 if (decide ((8 : Int) < (l.length : Int))) = true then
  some 4
 else
  Option.bind (zE (fun k7 _ => Option.bind (idx l (k7 : Int)) fun x27 => if ((!(zm x27.after 1 3000000)) || (!(zm x27.lower 0 9))) = true then some (.rt 2) else Option.bind (if (decide ((0 : Int) < (k7 : Int))) = true then (Option.bind (idx l (w64 ((k7 : Int) - 1))) fun x48 => some (decide (x27.after ≤ x48.after))) else (some false)) fun s46 => if s46 = true then some (.rt 5) else some (.nx ())) l.length 0 ()) fun o4 => o4.andThen (fun y => some y) fun s5 =>
  some 0
def Zw (s : (List zd)) : Option (List zd) :=
 Option.bind (zt 2932031007402 ([] : List zd) s) fun x8 =>
 some x8
def zq (s : (List zi)) : Option (List zi) :=
 Option.bind (zt 5864062014805 ([] : List zi) s) fun x8 =>
 some x8
def Zn (s : (List zU)) : Option (List zU) :=
 Option.bind (zt 8796093022208 ([] : List zU) s) fun x8 =>
 some x8
def zM (s : (List zp)) : Option (List zp) :=
 Option.bind (zt 5864062014805 ([] : List zp) s) fun x8 =>
 some x8
def Zk (s : (List zC)) : Option (List zC) :=
 Option.bind (zt 4398046511104 ([] : List zC) s) fun x8 =>
 some x8
def ZJ (s : (List zk)) : Option (List zk) :=
 Option.bind (zt 5864062014805 ([] : List zk) s) fun x8 =>
 some x8
noncomputable def jm (people : (List zd)) (cals : (List zg)) (steps : (List zk)) : Option ((Option ze) × Int) :=
 Option.bind (qQ people cals) fun x7 =>
 if (x7 != 0) = true then
  some (none, x7)
 else
  Option.bind (qD steps) fun x13 =>
  if (x13 != 0) = true then
   some (none, x13)
  else
   Option.bind (Zw people) fun x28 =>
   Option.bind (zE (fun k44 s63 => Option.bind (idx s63.assigner.people (k44 : Int)) fun x93 => Option.bind (zq x93.skills) fun x102 => Option.bind (setI s63.assigner.people (k44 : Int) ({ (x93 : zd) with skills := x102 })) fun x120 => some (.nx (⟨(⟨x120, s63.assigner.cals, s63.assigner.steps, s63.assigner.away⟩ : Zr), s63.now, s63.waiting, s63.held, s63.work⟩ : ze))) x28.length 0 (⟨(⟨x28, ([] : (List zg)), ([] : (List zk)), ([] : (List Bool))⟩ : Zr), 0, ([] : (List za)), ([] : (List zb)), ([] : List (Int × za))⟩ : ze)) fun o41 => o41.andThen (fun y => some y) fun s42 =>
   Option.bind (zE (fun k133 s152 => Option.bind (idx cals (k133 : Int)) fun x178 => Option.bind (Zn x178.zone.changes) fun x209 => Option.bind (zM x178.week) fun x217 => Option.bind (Zk x178.specials) fun x225 => Option.bind (zE (fun k256 s268 => Option.bind (idx s268.specials (k256 : Int)) fun x290 => Option.bind (zM x290.shifts) fun x299 => Option.bind (setI s268.specials (k256 : Int) ({ (x290 : zC) with shifts := x299 })) fun x317 => some (.nx (⟨s268.zone, s268.week, x317⟩ : zg))) x225.length 0 (⟨(⟨x178.zone.offset, x209⟩ : Zc), x217, x225⟩ : zg)) fun o253 => o253.andThen (fun y => some (.rt y)) fun s254 => Option.bind (zt 1759218604441 s152.assigner.cals ([s254] : List zg)) fun x359 => some (.nx (⟨(⟨s152.assigner.people, x359, s152.assigner.steps, s152.assigner.away⟩ : Zr), s152.now, s152.waiting, s152.held, s152.work⟩ : ze))) cals.length 0 s42) fun o130 => o130.andThen (fun y => some y) fun s131 =>
   Option.bind (ZJ steps) fun x374 =>
   Option.bind (QN 281474976710656 (people.length : Int) (false : Bool)) fun x388 =>
   some (some (⟨(⟨s131.assigner.people, s131.assigner.cals, x374, x388⟩ : Zr), s131.now, s131.waiting, s131.held, s131.work⟩ : ze), 0)
def Zh (s : (List zb)) : Option (List zb) :=
 Option.bind (zt 4398046511104 ([] : List zb) s) fun x8 =>
 some x8
def zav (x : zb) (y : zb) : Option Int :=
 some (zj x.ticket y.ticket)
noncomputable def jD (l : (List zb)) : Option (List zb) :=
 Option.bind (Qr (fun y5 y6 => zav y5 y6) l) fun x1 =>
 some x1
noncomputable def ZC (r_ : ze) : Option (List zb) :=
 Option.bind (Zh r_.held) fun x14 =>
 Option.bind (jD x14) fun x22 =>
 some x22
def zY (s : (List zd)) (f : zd → Option Bool) : Option Int :=
 Option.bind (zE (fun k6 _ => Option.bind (idx s (k6 : Int)) fun x25 => Option.bind (f x25) fun x32 => if x32 = true then some (.rt (k6 : Int)) else some (.nx ())) s.length 0 ()) fun o3 => o3.andThen (fun y => some y) fun s4 =>
 some (-1)
def jK (p : zd) (p1 : Int) : Option Bool :=
 some (p.no == p1)
def qf (people : (List zd)) (no : Int) : Option Int :=
 Option.bind (zY people (fun y9 => jK y9 no)) fun x10 =>
 some x10
def jr (people : (List zd)) (held : (List zb)) : Option (List Int) :=
 Option.bind (QN 35184372088832 (people.length : Int) (0 : Int)) fun x5 =>
 Option.bind (zE (fun k14 s22 => Option.bind (idx held (k14 : Int)) fun x37 => Option.bind (qf people x37.person) fun x51 => Option.bind (idx s22 x51) fun x52 => Option.bind (setI s22 x51 (w64 (x52 + x37.weight))) fun x65 => some (.nx x65)) held.length 0 x5) fun o11 => o11.andThen (fun y => some y) fun s12 =>
 some s12
def Zm (m : Int) : Int :=
 if (!(zW m 0 3000000)) = true then
  2
 else
  0
def Zz (vals : (List Int)) : Option Int :=
 Option.bind (zE (fun k6 _ => Option.bind (idx vals (k6 : Int)) fun x21 => if (x21 != 0) = true then some (.rt x21) else some (.nx ())) vals.length 0 ()) fun o3 => o3.andThen (fun y => some y) fun s4 =>
 some 0
def qq (c : zg) (from_ : Int) (to_ : Int) : Option (zg × Int × Int) :=
 some (c, from_, to_)
def jO (c : zg) (from_ : Int) (to_ : Int) : Option (zg × Int × Int) :=
 some (c, from_, to_)
def Jo (z : Zc) : Option (List zO) :=
 Option.bind (zE (fun k24 s32 => Option.bind (idx z.changes (k24 : Int)) fun x47 => Option.bind (idx s32 (w64 ((s32.length : Int) - 1))) fun x61 => Option.bind (setI s32 (w64 ((s32.length : Int) - 1)) ({ (x61 : zO) with to_ := x47.at_ })) fun x67 => Option.bind (zt 5864062014805 x67 ([(⟨x47.at_, 3000001, x47.offset⟩ : zO)] : List zO)) fun x78 => some (.nx x78)) z.changes.length 0 ([(⟨0, 3000001, z.offset⟩ : zO)] : List zO)) fun o21 => o21.andThen (fun y => some y) fun s22 =>
 some s22
def jf (a_ : Int) (b : Int) : Option Int :=
 Option.bind (quo a_ b) fun x1 =>
 Option.bind (rem a_ b) fun x2 =>
 Option.bind (if (decide (x2 < 0)) = true then some (w64 (x1 - 1)) else some x1) fun s4 =>
 some s4
noncomputable def Za (x : (List zC)) (target : Int) (cmp : zC → Int → Option Int) : Option (Int × Bool) :=
 Option.bind (QT (fun s12 => if (decide (s12.1 < s12.2)) = true then Option.bind (Option.bind (shr .u64 (IntKind.wrap .u64 (w64 (s12.1 + s12.2))) 1) fun x32 => Option.bind (idx x (IntKind.wrap .i64 x32)) fun x33 => Option.bind (cmp x33 target) fun x40 => Option.bind (if (decide (x40 < 0)) = true then some (w64 ((IntKind.wrap .i64 x32) + 1), s12.2) else some (s12.1, IntKind.wrap .i64 x32)) fun s45 => some (s45.1, s45.2)) fun s25 => some (.nx (s25.1, s25.2)) else some (.bk (s12.1, s12.2))) (0, (x.length : Int))) fun o3 => o3.andThen (fun y => some y) fun s4 =>
 Option.bind (if (decide (s4.1 < (x.length : Int))) = true then (Option.bind (idx x s4.1) fun x66 => Option.bind (cmp x66 target) fun x73 => some (s4.1, x73 == 0)) else (some (s4.1, false))) fun s58 =>
 some (s58.1, s58.2)
def ZL (s : zC) (d : Int) : Option Int :=
 some (zj s.day d)
noncomputable def Qk (c : zg) (day : Int) : Option (List zp) :=
 Option.bind (Za c.specials day (fun y18 y19 => ZL y18 y19)) fun x20 =>
 if x20.2 = true then
  Option.bind (idx c.specials x20.1) fun x41 =>
  Option.bind (zM x41.shifts) fun x49 =>
  some x49
 else
  Option.bind (zE (fun k64 s72 => Option.bind (Option.bind (idx c.week (k64 : Int)) fun x97 => Option.bind (jf day 7) fun x111 => Option.bind (if (x97.day == (w64 (day - (w64 (7 * x111))))) = true then Option.bind (zt 5864062014805 s72 ([(⟨0, x97.from_, x97.to_⟩ : zp)] : List zp)) fun x133 => some x133 else some s72) fun s116 => some s116) fun s88 => some (.nx s88)) c.week.length 0 ([] : (List zp))) fun o61 => o61.andThen (fun y => some y) fun s62 =>
  some s62
noncomputable def qj (day : Int) (p1 : zg) (p2 : zO) (p3 : Int) (p4 : Int) {p5_S : Type} (p5 : zr → p5_S → Option (Bool × p5_S)) (p5_s : p5_S) : Option (Bool × p5_S) :=
 Option.bind (Qk p1 day) fun x8 =>
 Option.bind (zE (fun k19 s25 => Option.bind (idx x8 (k19 : Int)) fun x38 => Option.bind (if (decide (((⟨(if p3 < w64 ((w64 ((w64 (day * 1440)) - p2.offset)) + x38.from_) then w64 ((w64 ((w64 (day * 1440)) - p2.offset)) + x38.from_) else p3), (if w64 ((w64 ((w64 (day * 1440)) - p2.offset)) + x38.to_) < p4 then w64 ((w64 ((w64 (day * 1440)) - p2.offset)) + x38.to_) else p4)⟩ : zr).from_) < ((⟨(if p3 < w64 ((w64 ((w64 (day * 1440)) - p2.offset)) + x38.from_) then w64 ((w64 ((w64 (day * 1440)) - p2.offset)) + x38.from_) else p3), (if w64 ((w64 ((w64 (day * 1440)) - p2.offset)) + x38.to_) < p4 then w64 ((w64 ((w64 (day * 1440)) - p2.offset)) + x38.to_) else p4)⟩ : zr).to_))) = true then (Option.bind (p5 (⟨(if p3 < w64 ((w64 ((w64 (day * 1440)) - p2.offset)) + x38.from_) then w64 ((w64 ((w64 (day * 1440)) - p2.offset)) + x38.from_) else p3), (if w64 ((w64 ((w64 (day * 1440)) - p2.offset)) + x38.to_) < p4 then w64 ((w64 ((w64 (day * 1440)) - p2.offset)) + x38.to_) else p4)⟩ : zr) s25) fun x75 => some (!x75.1, x75.2)) else (some (false, s25))) fun s64 => if s64.1 = true then some (.rt (false, s64.2)) else some (.nx s64.2)) x8.length 0 p5_s) fun o16 => o16.andThen (fun y => some y) fun s17 =>
 some (true, s17)
noncomputable def Qq {yield_S : Type} (yield : zr → yield_S → Option (Bool × yield_S)) (yield_s : yield_S) (p1 : zg) (p2 : Int) (p3 : Int) : Option yield_S :=
 Option.bind (Jo p1.zone) fun x11 =>
 Option.bind (zE (fun k22 s28 => Option.bind (α := Lp _ _) (Option.bind (idx x11 (k22 : Int)) fun x49 => if (decide ((if x49.to_ < p3 then x49.to_ else p3) ≤ (if p2 < x49.from_ then x49.from_ else p2))) = true then some (.fin s28) else Option.bind (jf (w64 ((if p2 < x49.from_ then x49.from_ else p2) + x49.offset)) 1440) fun x83 => Option.bind (QT (fun s93 => Option.bind (jf (w64 ((w64 ((if x49.to_ < p3 then x49.to_ else p3) - 1)) + x49.offset)) 1440) fun x105 => if (decide (s93.1 ≤ x105)) = true then Option.bind (qj s93.1 p1 x49 (if p2 < x49.from_ then x49.from_ else p2) (if x49.to_ < p3 then x49.to_ else p3) yield s93.2) fun x107 => if (!x107.1) = true then some (.rt x107.2) else some (.nx (w64 (s93.1 + 1), x107.2)) else some (.bk (s93.1, s93.2))) (w64 (x83 - 1), s28)) fun o84 => o84.andThen (fun y => some (.rt y)) fun s85 => some (.fin s85.2)) fun o41 => o41.andThen (fun y => some (.rt y)) fun s42 => some (.nx s42)) x11.length 0 yield_s) fun o19 => o19.andThen (fun y => some y) fun s20 =>
 some s20
noncomputable def qt {yield_S : Type} (yield : zr → yield_S → Option (Bool × yield_S)) (yield_s : yield_S) (p1 : zg) (p2 : Int) (p3 : Int) : Option yield_S :=
 Option.bind (jO p1 p2 p3) fun x23 =>
 Option.bind (Qq (QD (fun (x43 : zr) (s35 : (zr × yield_S)) => Option.bind (α := Lp _ _) (Option.bind (α := Lp _ _) (Option.bind (α := Lp _ _) (if (decide (s35.1.from_ < 0)) = true then some (.fin (x43, s35.2)) else Option.bind (α := Lp _ _) (if (decide (x43.from_ ≤ s35.1.to_)) = true then some (.fin ((⟨s35.1.from_, (if s35.1.to_ < x43.to_ then x43.to_ else s35.1.to_)⟩ : zr), s35.2)) else Option.bind (yield s35.1 s35.2) fun x110 => if (!x110.1) = true then some (.rt ((s35.1, x110.2), some 0)) else some (.fin (x43, x110.2))) fun o96 => o96.andThen (fun y => some (.rt y)) fun s97 => some (.fin (s97.1, s97.2))) fun o81 => o81.andThen (fun y => some (.rt y)) fun s82 => some (.fin (s82.1, s82.2))) fun o73 => o73.andThen (fun y => some (.rt y)) fun s74 => some (.fin (s74.1, s74.2))) fun o65 => o65.andThen (fun y => some y) fun s66 => some ((s66.1, s66.2), none))) (((⟨(-1), (-1)⟩ : zr), yield_s), none) x23.1 x23.2.1 x23.2.2) fun z33 =>
 if z33.2 = some 0 then (some z33.1.2) else
 Option.bind (if (decide ((0 : Int) ≤ z33.1.1.from_)) = true then Option.bind (yield z33.1.1 z33.1.2) fun x148 => some x148.2 else some z33.1.2) fun s140 =>
 some s140
noncomputable def Qb (c : zg) (m : Int) : Option (Bool × Int) :=
 Option.bind (ZD c) fun x31 =>
 Option.bind (Zz ([x31, (Zm m)] : List Int)) fun x42 =>
 if (x42 != 0) = true then
  some (false, x42)
 else
  Option.bind (qq c m (w64 (m + 1))) fun x57 =>
  Option.bind (qt (QD (fun (x78 : zr) (s70 : (Int × Bool)) => some ((0, true), some 0))) ((0, false), none) x57.1 x57.2.1 x57.2.2) fun z68 =>
  if z68.2 = some 0 then (some (z68.1.2, z68.1.1)) else
  some (false, 0)
noncomputable def qp (c : zg) (m : Int) : Option (Int × Int) :=
 Option.bind (ZD c) fun x26 =>
 Option.bind (Zz ([x26, (Zm m)] : List Int)) fun x36 =>
 if (x36 != 0) = true then
  some (0, x36)
 else
  Option.bind (qq c m 3000001) fun x45 =>
  Option.bind (qt (QD (fun (x65 : zr) (s57 : Int) => Option.bind (if (x65.from_ == s57) = true then some x65.to_ else some s57) fun s89 => some (s89, some 1))) (m, none) x45.1 x45.2.1 x45.2.2) fun z55 =>
  if (decide ((3000000 : Int) < z55.1)) = true then
   some (0, 7)
  else
   some (z55.1, 0)
noncomputable def QJ (c : zg) (m : Int) : Option (Int × Int) :=
 Option.bind (ZD c) fun x31 =>
 Option.bind (Zz ([x31, (Zm m)] : List Int)) fun x42 =>
 if (x42 != 0) = true then
  some (0, x42)
 else
  Option.bind (qq c m 3000001) fun x57 =>
  Option.bind (qt (QD (fun (x78 : zr) (s70 : (Int × Int)) => some ((0, x78.from_), some 0))) ((0, 0), none) x57.1 x57.2.1 x57.2.2) fun z68 =>
  if z68.2 = some 0 then (some (z68.1.2, z68.1.1)) else
  some (0, 7)
noncomputable def QQ (r_ : ze) (m : Int) : Option Int :=
 Option.bind (jr r_.assigner.people r_.held) fun x17 =>
 Option.bind (zE (fun k28 s34 => Option.bind (Option.bind (idx r_.assigner.cals (k28 : Int)) fun x55 => Option.bind (zE (R := Empty) (fun k86 s92 => Option.bind (Option.bind (idx r_.assigner.people (k86 : Int)) fun x113 => Option.bind (if (x113.calendar == (k28 : Int)) = true then (Option.bind (idx r_.assigner.away (k86 : Int)) fun x134 => some (!x134)) else (some false)) fun s133 => Option.bind (if s133 = true then (Option.bind (idx x17 (k86 : Int)) fun x141 => some (decide (x141 < x113.capacity))) else (some false)) fun s140 => Option.bind (if s140 = true then some (k86 : Int) else some s92) fun s151 => some s151) fun s106 => some (.nx s106)) r_.assigner.people.length 0 (-1)) fun o83 => o83.andThen (fun y => y.elim) fun s84 => if (decide (s84 < 0)) = true then some s34 else Option.bind (Qb x55 m) fun x172 => Option.bind (if x172.1 = true then Option.bind (qp x55 m) fun x192 => some (x192.1, x192.2) else some (m, 0)) fun s177 => Option.bind (if (s177.2 == 0) = true then Option.bind (QJ x55 s177.1) fun x214 => some (x214.1, x214.2) else some (s177.1, s177.2)) fun s199 => Option.bind (if ((s199.2 == 0) && ((decide (s34 < 0)) || (decide (s199.1 < s34)))) = true then some s199.1 else some s34) fun s225 => some s225) fun s48 => some (.nx s48)) r_.assigner.cals.length 0 (-1)) fun o25 => o25.andThen (fun y => some y) fun s26 =>
 some s26
noncomputable def qc (r_ : ze) (m : Int) : Option Int :=
 if ((r_.waiting.length : Int) == 0) = true then
  some (-1)
 else
  Option.bind (QQ r_ m) fun x15 =>
  Option.bind (zE (fun k24 s30 => Option.bind (Option.bind (idx r_.waiting (k24 : Int)) fun x51 => Option.bind (zE (R := Empty) (fun k72 s78 => Option.bind (Option.bind (idx r_.assigner.steps (k72 : Int)) fun x99 => Option.bind (if ((decide (m < (w64 (x51.since + x99.after)))) && ((decide (s78 < 0)) || (decide ((w64 (x51.since + x99.after)) < s78)))) = true then some (w64 (x51.since + x99.after)) else some s78) fun s119 => some s119) fun s92 => some (.nx s92)) r_.assigner.steps.length 0 s30) fun o69 => o69.andThen (fun y => y.elim) fun s70 => some s70) fun s44 => some (.nx s44)) r_.waiting.length 0 x15) fun o21 => o21.andThen (fun y => some y) fun s22 =>
  some s22
noncomputable def jv (a_ : ze) (held : (List zb)) (m : Int) : Option zT :=
 Option.bind (QN 281474976710656 (a_.assigner.people.length : Int) (false : Bool)) fun x81 =>
 Option.bind (jr a_.assigner.people held) fun x141 =>
 Option.bind (QN 35184372088832 (a_.assigner.people.length : Int) (0 : Int)) fun x201 =>
 Option.bind (QN 281474976710656 (a_.assigner.cals.length : Int) (false : Bool)) fun x340 =>
 Option.bind (zE (fun k349 s357 => Option.bind (idx a_.assigner.cals (k349 : Int)) fun x372 => Option.bind (Qb x372 m) fun x407 => Option.bind (idx s357 (k349 : Int)) fun x411 => Option.bind (setI s357 (k349 : Int) x407.1) fun x416 => some (.nx x416)) a_.assigner.cals.length 0 x340) fun o346 => o346.andThen (fun y => some y) fun s347 =>
 Option.bind (zE (fun k426 s440 => Option.bind (idx a_.assigner.people (k426 : Int)) fun x461 => Option.bind (idx s347 x461.calendar) fun x480 => Option.bind (if x480 = true then (Option.bind (idx a_.assigner.away (k426 : Int)) fun x487 => some (!x487)) else (some false)) fun s486 => Option.bind (idx s440.duty (k426 : Int)) fun x492 => Option.bind (setI s440.duty (k426 : Int) s486) fun x500 => Option.bind (idx s440.latest (k426 : Int)) fun x504 => Option.bind (setI s440.latest (k426 : Int) (-1)) fun x509 => some (.nx (⟨s440.people, x500, s440.weights, x509⟩ : zT))) a_.assigner.people.length 0 (⟨a_.assigner.people, x81, x141, x201⟩ : zT)) fun o423 => o423.andThen (fun y => some y) fun s424 =>
 Option.bind (zE (fun k519 s533 => Option.bind (idx held (k519 : Int)) fun x554 => Option.bind (qf a_.assigner.people x554.person) fun x568 => Option.bind (idx s533.latest x568) fun x572 => Option.bind (setI s533.latest x568 (if x572 < x554.since then x554.since else x572)) fun x585 => some (.nx (⟨s533.people, s533.duty, s533.weights, x585⟩ : zT))) held.length 0 s424) fun o516 => o516.andThen (fun y => some y) fun s517 =>
 some s517
def qY (a_ : Int) (b : Int) (p2 : (List za)) : Option Int :=
 Option.bind (idx p2 a_) fun x10 =>
 Option.bind (idx p2 b) fun x20 =>
 Option.bind (jx ([(zj x20.urgency x10.urgency), (zj x10.since x20.since), (zj x10.ticket x20.ticket)] : List Int)) fun x58 =>
 some x58
noncomputable def zaq (l : (List za)) : Option (List Int) :=
 Option.bind (zE (fun k19 s27 => Option.bind (zt 17592186044416 s27 ([(k19 : Int)] : List Int)) fun x48 => some (.nx x48)) l.length 0 ([] : (List Int))) fun o16 => o16.andThen (fun y => some y) fun s17 =>
 Option.bind (Qr (fun y61 y62 => qY y61 y62 l) s17) fun x57 =>
 some x57
def QM (w_ : za) (steps : (List zk)) (m : Int) : Option (List zi) :=
 Option.bind (zE (fun k14 s20 => Option.bind (Option.bind (idx steps (k14 : Int)) fun x41 => Option.bind (if (decide (x41.after ≤ (w64 (m - w_.since)))) = true then some (k14 : Int) else some s20) fun s51 => some s51) fun s34 => some (.nx s34)) steps.length 0 (-1)) fun o11 => o11.andThen (fun y => some y) fun s12 =>
 Option.bind ((if s12 < 0 then some true else (idx steps s12).map fun _ => false)) fun x63 =>
 if x63 = true then
  Option.bind (zq w_.needs) fun x69 =>
  some x69
 else
  Option.bind (idx steps s12) fun x77 =>
  if x77.any = true then
   some ([] : (List zi))
  else
   Option.bind (zE (fun k91 s99 => Option.bind (Option.bind (idx w_.needs (k91 : Int)) fun x124 => Option.bind (if (decide ((1 : Int) ≤ (w64 (x124.rank - x77.lower)))) = true then Option.bind (zt 5864062014805 s99 ([(⟨x124.name, w64 (x124.rank - x77.lower)⟩ : zi)] : List zi)) fun x165 => some x165 else some s99) fun s149 => some s149) fun s115 => some (.nx s115)) w_.needs.length 0 ([] : (List zi))) fun o88 => o88.andThen (fun y => some y) fun s89 =>
   some s89
def ZM (s : (List zi)) (f : zi → Option Bool) : Option Int :=
 Option.bind (zE (fun k6 _ => Option.bind (idx s (k6 : Int)) fun x25 => Option.bind (f x25) fun x30 => if x30 = true then some (.rt (k6 : Int)) else some (.nx ())) s.length 0 ()) fun o3 => o3.andThen (fun y => some y) fun s4 =>
 some (-1)
def Zb (s : (List zi)) (f : zi → Option Bool) : Option Bool :=
 Option.bind (ZM s f) fun x3 =>
 some (decide ((0 : Int) ≤ x3))
def QS (s : zi) (p1 : zi) : Option Bool :=
 some ((ja s.name p1.name) && (decide (p1.rank ≤ s.rank)))
def ZV (p : zd) (needs : (List zi)) : Option Bool :=
 Option.bind (zE (fun k14 _ => Option.bind (idx needs (k14 : Int)) fun x33 => Option.bind (Zb p.skills (fun y50 => QS y50 x33)) fun x51 => if (!x51) = true then some (.rt false) else some (.nx ())) needs.length 0 ()) fun o11 => o11.andThen (fun y => some y) fun s12 =>
 some true
noncomputable def qK (x : (List Int)) (cmp : Int → Int → Option Int) : Option Int :=
 if (decide ((x.length : Int) < 1)) = true then
  none
 else
  Option.bind (idx x 0) fun x4 =>
  Option.bind (QT (fun s17 => if (decide (s17.2 < (x.length : Int))) = true then Option.bind (Option.bind (idx x s17.2) fun x38 => Option.bind (cmp x38 s17.1) fun x42 => Option.bind (if (decide (x42 < 0)) = true then some x38 else some s17.1) fun s47 => some s47) fun s30 => some (.nx (s30, w64 (s17.2 + 1))) else some (.bk (s17.1, s17.2))) (x4, 1)) fun o8 => o8.andThen (fun y => some y) fun s9 =>
  some s9.1
def jw (d : zT) (a_ : Int) (b : Int) : Option Int :=
 Option.bind (idx d.people a_) fun x11 =>
 Option.bind (idx d.people b) fun x22 =>
 Option.bind (idx d.weights a_) fun x47 =>
 Option.bind (idx d.weights b) fun x56 =>
 Option.bind (idx d.latest a_) fun x65 =>
 Option.bind (idx d.latest b) fun x73 =>
 Option.bind (jx ([(zj (w64 (x47 * x22.capacity)) (w64 (x56 * x11.capacity))), (zj x65 x73), (zj x11.no x22.no)] : List Int)) fun x90 =>
 some x90
noncomputable def qM (d : zT) (w_ : za) (needs : (List zi)) : Option Int :=
 Option.bind (zE (fun k18 s26 => Option.bind (α := Lp _ _) (Option.bind (idx d.people (k18 : Int)) fun x51 => Option.bind (idx d.duty (k18 : Int)) fun x73 => Option.bind (if (!x73) = true then (some true) else (Option.bind (idx d.weights (k18 : Int)) fun x84 => some (decide ((w64 (x51.capacity - x84)) < w_.weight)))) fun s78 => Option.bind (if s78 = true then (some true) else (Option.bind (ZV x51 needs) fun x94 => some (!x94))) fun s90 => if s90 = true then some (.fin s26) else if (x51.no == w_.former) = true then some (.rt (k18 : Int)) else Option.bind (zt 17592186044416 s26 ([(k18 : Int)] : List Int)) fun x109 => some (.fin x109)) fun o41 => o41.andThen (fun y => some (.rt y)) fun s42 => some (.nx s42)) d.people.length 0 ([] : (List Int))) fun o15 => o15.andThen (fun y => some y) fun s16 =>
 if ((s16.length : Int) == 0) = true then
  some (-1)
 else
  Option.bind (qK s16 (fun y120 y121 => jw d y120 y121)) fun x122 =>
  some x122
noncomputable def Qp (a_ : ze) (held : (List zb)) (waiting : (List za)) (m : Int) : Option ((List zb) × (List za)) :=
 Option.bind (jv a_ held m) fun x18 =>
 Option.bind (QN 281474976710656 (waiting.length : Int) (false : Bool)) fun x32 =>
 Option.bind (zaq waiting) fun x38 =>
 Option.bind (zE (fun k49 s67 => Option.bind (Option.bind (idx x38 (k49 : Int)) fun x112 => Option.bind (idx waiting x112) fun x117 => Option.bind (QM x117 a_.assigner.steps m) fun x144 => Option.bind (qM s67.2.2 x117 x144) fun x152 => if (decide (x152 < 0)) = true then some (s67.1, s67.2.1, s67.2.2) else Option.bind (idx s67.1 x112) fun x158 => Option.bind (setI s67.1 x112 true) fun x163 => Option.bind (idx s67.2.2.weights x152) fun x167 => Option.bind (setI s67.2.2.weights x152 (w64 (x167 + x117.weight))) fun x180 => Option.bind (idx s67.2.2.latest x152) fun x184 => Option.bind (setI s67.2.2.latest x152 (if x184 < m then m else x184)) fun x196 => Option.bind (idx a_.assigner.people x152) fun x204 => Option.bind (zt 4398046511104 s67.2.1 ([(⟨x117.ticket, x204.no, x117.weight, m⟩ : zb)] : List zb)) fun x215 => some (x163, x215, (⟨s67.2.2.people, s67.2.2.duty, x180, x196⟩ : zT))) fun s93 => some (.nx (s93.1, s93.2.1, s93.2.2))) x38.length 0 (x32, ([] : (List zb)), x18)) fun o46 => o46.andThen (fun y => some y) fun s47 =>
 Option.bind (zE (fun k228 s236 => Option.bind (Option.bind (idx waiting (k228 : Int)) fun x261 => Option.bind (idx s47.1 (k228 : Int)) fun x279 => Option.bind (if (!x279) = true then Option.bind (zq x261.needs) fun x297 => Option.bind (zt 2199023255552 s236 ([(⟨x261.ticket, x261.weight, x261.urgency, x261.since, x261.former, x297⟩ : za)] : List za)) fun x324 => some (x324, (⟨x261.ticket, x261.weight, x261.urgency, x261.since, x261.former, x297⟩ : za)) else some (s236, x261)) fun s285 => some s285.1) fun s252 => some (.nx s252)) waiting.length 0 ([] : (List za))) fun o225 => o225.andThen (fun y => some y) fun s226 =>
 some (s47.2.1, s226)
def ZN {α : Type} (n : Int) : Option (List α) := if 0 ≤ n ∧ n ≤ 4398046511104 then some [] else none
def ZE (slices : (List (List zb))) : Option (List zb) :=
 Option.bind (zE (fun k6 s12 => Option.bind (idx slices (k6 : Int)) fun x25 => if (decide ((w64 (s12 + (x25.length : Int))) < 0)) = true then none else some (.nx (w64 (s12 + (x25.length : Int))))) slices.length 0 0) fun o3 => o3.andThen (fun y => some y) fun s4 =>
 Option.bind (ZN  s4) fun x36 =>
 Option.bind (zE (fun k47 s55 => Option.bind (idx slices (k47 : Int)) fun x70 => Option.bind (zt 4398046511104 s55 x70) fun x77 => some (.nx x77)) slices.length 0 x36) fun o44 => o44.andThen (fun y => some y) fun s45 =>
 some s45
noncomputable def qr (r_ : ze) (m : Int) : Option ((List zb) × ze) :=
 if ((r_.waiting.length : Int) == 0) = true then
  some (([] : (List zb)), r_)
 else
  Option.bind (Qp r_ r_.held r_.waiting m) fun x18 =>
  Option.bind (ZE ([r_.held, x18.1] : List (List zb))) fun x43 =>
  some (x18.1, (⟨r_.assigner, r_.now, x18.2, x43, r_.work⟩ : ze))
noncomputable def ZU (r_ : ze) (m : Int) (do_ : ze → Option (Int × ze)) : Option ((List zb) × Int × ze) :=
 if (!(zm m 0 3000000)) = true then
  some (([] : (List zb)), 2, r_)
 else
  if (decide (m < r_.now)) = true then
   some (([] : (List zb)), 5, r_)
  else
   Option.bind (qc r_ r_.now) fun x20 =>
   Option.bind (QT (fun s49 => if ((decide ((0 : Int) ≤ s49.2.1)) && (decide (s49.2.1 ≤ m))) = true then Option.bind (qr s49.2.2 s49.2.1) fun x78 => Option.bind (zt 4398046511104 s49.1 x78.1) fun x98 => Option.bind (qc x78.2 s49.2.1) fun x104 => some (.nx (x98, x104, x78.2)) else some (.bk (s49.1, s49.2.1, s49.2.2))) (([] : (List zb)), x20, r_)) fun o25 => o25.andThen (fun y => some y) fun s26 =>
   Option.bind (do_ s26.2.2) fun x112 =>
   if (x112.1 != 0) = true then
    some (([] : (List zb)), x112.1, (⟨x112.2.assigner, x112.2.now, r_.waiting, r_.held, x112.2.work⟩ : ze))
   else
    Option.bind (qr (⟨x112.2.assigner, m, x112.2.waiting, x112.2.held, x112.2.work⟩ : ze) m) fun x146 =>
    Option.bind (zt 4398046511104 s26.1 x146.1) fun x166 =>
    some (x166, 0, x146.2)
def Zj (s : (List za)) (f : za → Option Bool) : Option Int :=
 Option.bind (zE (fun k6 _ => Option.bind (idx s (k6 : Int)) fun x25 => Option.bind (f x25) fun x32 => if x32 = true then some (.rt (k6 : Int)) else some (.nx ())) s.length 0 ()) fun o3 => o3.andThen (fun y => some y) fun s4 =>
 some (-1)
def ZH (s : (List za)) (f : za → Option Bool) : Option Bool :=
 Option.bind (Zj s f) fun x3 =>
 some (decide ((0 : Int) ≤ x3))
def jt (x : za) (p1 : za) : Option Bool :=
 some (x.ticket == p1.ticket)
noncomputable def jn (l : (List za)) : Option Int :=
 if (decide ((200 : Int) < (l.length : Int))) = true then
  some 4
 else
  Option.bind (zE (fun k7 _ => Option.bind (idx l (k7 : Int)) fun x27 => if (!(zm x27.ticket 1 400)) = true then some (.rt 2) else Option.bind (zaH l none (some (k7 : Int))) fun x47 => Option.bind (ZH x47 (fun y50 => jt y50 x27)) fun x51 => if x51 = true then some (.rt 6) else if ((((!(zm x27.weight 1 20)) || (!(zm x27.urgency 0 9))) || (!(zm x27.since 0 3000000))) || (!(zm x27.former 0 40))) = true then some (.rt 2) else Option.bind (qO x27.needs) fun x81 => if (x81 != 0) = true then some (.rt x81) else some (.nx ())) l.length 0 ()) fun o4 => o4.andThen (fun y => some y) fun s5 =>
  some 0
def Zu (s : (List zb)) (f : zb → Option Bool) : Option Int :=
 Option.bind (zE (fun k6 _ => Option.bind (idx s (k6 : Int)) fun x25 => Option.bind (f x25) fun x30 => if x30 = true then some (.rt (k6 : Int)) else some (.nx ())) s.length 0 ()) fun o3 => o3.andThen (fun y => some y) fun s4 =>
 some (-1)
def QH (h : zb) (p1 : Int) : Option Bool :=
 some (h.ticket == p1)
def qh (r_ : ze) (ticket : Int) : Option Int :=
 Option.bind (Zu r_.held (fun y20 => QH y20 ticket)) fun x21 =>
 some x21
def QI (w_ : za) (p1 : Int) : Option Bool :=
 some (w_.ticket == p1)
def qg (r_ : ze) (ticket : Int) : Option Int :=
 Option.bind (Zj r_.waiting (fun y20 => QI y20 ticket)) fun x21 =>
 some x21
def zJ (s : (List za)) : Option (List za) :=
 Option.bind (zt 2199023255552 ([] : List za) s) fun x8 =>
 some x8
noncomputable def ZS (p0 : za) (p1 : ze) (p2 : Int) : Option (Int × za × ze) :=
 Option.bind (jn ([p0] : List za)) fun x24 =>
 if (x24 != 0) = true then
  some (x24, p0, p1)
 else
  Option.bind (Option.bind (qg p1 p0.ticket) fun x38 => if (decide ((0 : Int) ≤ x38)) = true then (some true) else (Option.bind (qh p1 p0.ticket) fun x45 => some (decide ((0 : Int) ≤ x45)))) fun s30 =>
  if s30 = true then
   some (6, p0, p1)
  else
   if (decide ((200 : Int) ≤ (p1.waiting.length : Int))) = true then
    some (4, p0, p1)
   else
    if (decide (p2 < p0.since)) = true then
     some (2, p0, p1)
    else
     Option.bind (zq p0.needs) fun x54 =>
     Option.bind (zJ p1.waiting) fun x147 =>
     Option.bind (zt 2199023255552 x147 ([(⟨p0.ticket, p0.weight, p0.urgency, p0.since, p0.former, x54⟩ : za)] : List za)) fun x328 =>
     some (0, (⟨p0.ticket, p0.weight, p0.urgency, p0.since, p0.former, x54⟩ : za), (⟨p1.assigner, p1.now, x328, p1.held, (QO p1.work p0.ticket (⟨p0.ticket, p0.weight, p0.urgency, p0.since, p0.former, x54⟩ : za))⟩ : ze))
theorem zbw {p0 : za} {p1 : ze} {p2 : Int} {x : Int × za × ze} (h : ZS p0 p1 p2 = some x) : x.2.1 = p0 := by
 unfold ZS at h
 obtain ⟨_, _, h⟩ := Option.bind_eq_some_iff.1 h
 split at h
 ·cases h; rfl
 obtain ⟨_, _, h⟩ := Option.bind_eq_some_iff.1 h
 split at h
 ·cases h; rfl
 split at h
 ·cases h; rfl
 split at h
 ·cases h; rfl
 obtain ⟨y, hy, h⟩ := Option.bind_eq_some_iff.1 h
 obtain ⟨_, _, h⟩ := Option.bind_eq_some_iff.1 h
 obtain ⟨_, _, h⟩ := Option.bind_eq_some_iff.1 h
 cases h
 unfold zq zt at hy
 split at hy
 ·rw [Option.bind_some, List.nil_append] at hy
  cases hy
  rfl
 ·cases hy
noncomputable def QP (r_ : ze) (w_ : za) (m : Int) : Option ((List zb) × Int × ze) :=
 Option.bind (ZU r_ m (fun R => Option.bind (ZS w_ R m) fun x => some (x.1, x.2.2))) fun x33 =>
 some (x33.1, x33.2.1, x33.2.2)
def ZY (l : List zb) (i j : Int) : Option (List zb) :=
 if 0 ≤ i ∧ i < j ∧ j ≤ (l.length : Int) then some (l.take i.toNat ++ l.drop j.toNat) else none
def qC (l : (List zb)) (k_ : Int) : Option (List zb) :=
 Option.bind (Zh l) fun x3 =>
 Option.bind (ZY x3 k_ (w64 (k_ + 1))) fun x11 =>
 some x11
def ZX (l : List za) (i j : Int) : Option (List za) :=
 if 0 ≤ i ∧ i < j ∧ j ≤ (l.length : Int) then some (l.take i.toNat ++ l.drop j.toNat) else none
def qB (l : (List za)) (k_ : Int) : Option (List za) :=
 Option.bind (zJ l) fun x3 =>
 Option.bind (ZX x3 k_ (w64 (k_ + 1))) fun x10 =>
 some x10
def qy (p0 : ze) (p1 : Int) : Option (Int × ze) :=
 Option.bind (qh p0 p1) fun x14 =>
 Option.bind (α := Lp _ _) (if (decide ((0 : Int) ≤ x14)) = true then Option.bind (qC p0.held x14) fun x44 => some (.fin (⟨p0.assigner, p0.now, p0.waiting, x44, p0.work⟩ : ze)) else Option.bind (qg p0 p1) fun x64 => if (decide ((0 : Int) ≤ x64)) = true then Option.bind (qB p0.waiting x64) fun x73 => some (.fin (⟨p0.assigner, p0.now, x73, p0.held, p0.work⟩ : ze)) else some (.rt (7, p0))) fun o19 => o19.andThen (fun y => some y) fun s20 =>
 some (0, s20)
noncomputable def qS (r_ : ze) (ticket : Int) (m : Int) : Option ((List zb) × Int × ze) :=
 Option.bind (ZU r_ m (fun R => qy R ticket)) fun x26 =>
 some (x26.1, x26.2.1, x26.2.2)
def qu (r_ : ze) (no : Int) (away : Bool) : Option (Int × Int) :=
 Option.bind (qf r_.assigner.people no) fun x14 =>
 if (decide (x14 < 0)) = true then
  some (0, 7)
 else
  Option.bind (idx r_.assigner.away x14) fun x19 =>
  if (!(x19 == away)) = true then
   some (0, 11)
  else
   some (x14, 0)
noncomputable def qI (p0 : ze) (p1 : Int) : Option (Int × ze) :=
 Option.bind (qu p0 p1 false) fun x14 =>
 if (x14.2 != 0) = true then
  some (x14.2, p0)
 else
  Option.bind (zE (fun k23 s33 => Option.bind (Option.bind (idx p0.held (k23 : Int)) fun x62 => Option.bind (if (x62.person == p1) = true then Option.bind (zt 4398046511104 s33.1 ([x62] : List zb)) fun x95 => some (x95, s33.2) else Option.bind (zt 4398046511104 s33.2 ([x62] : List zb)) fun x108 => some (s33.1, x108)) fun s77 => some (s77.1, s77.2)) fun s51 => some (.nx (s51.1, s51.2))) p0.held.length 0 (([] : (List zb)), ([] : (List zb)))) fun o20 => o20.andThen (fun y => some y) fun s21 =>
  if (decide ((200 : Int) < (w64 ((p0.waiting.length : Int) + (s21.1.length : Int))))) = true then
   some (4, p0)
  else
   Option.bind (jD s21.1) fun x120 =>
   Option.bind (zJ p0.waiting) fun x125 =>
   Option.bind (zE (fun k135 s143 => Option.bind (idx x120 (k135 : Int)) fun x158 => Option.bind (zt 2199023255552 s143 ([(⟨((zw p0.work x158.ticket).getD (⟨0, 0, 0, 0, 0, []⟩)).ticket, x158.weight, ((zw p0.work x158.ticket).getD (⟨0, 0, 0, 0, 0, []⟩)).urgency, ((zw p0.work x158.ticket).getD (⟨0, 0, 0, 0, 0, []⟩)).since, p1, ((zw p0.work x158.ticket).getD (⟨0, 0, 0, 0, 0, []⟩)).needs⟩ : za)] : List za)) fun x209 => some (.nx x209)) x120.length 0 x125) fun o132 => o132.andThen (fun y => some y) fun s133 =>
   Option.bind (idx p0.assigner.away x14.1) fun x218 =>
   Option.bind (setI p0.assigner.away x14.1 true) fun x223 =>
   some (0, (⟨(⟨p0.assigner.people, p0.assigner.cals, p0.assigner.steps, x223⟩ : Zr), p0.now, s133, s21.2, p0.work⟩ : ze))
noncomputable def Qd (r_ : ze) (person : Int) (m : Int) : Option ((List zb) × Int × ze) :=
 Option.bind (ZU r_ m (fun R => qI R person)) fun x26 =>
 some (x26.1, x26.2.1, x26.2.2)
def qx (p0 : ze) (p1 : Int) : Option (Int × ze) :=
 Option.bind (qu p0 p1 true) fun x14 =>
 Option.bind (if (x14.2 == 0) = true then Option.bind (idx p0.assigner.away x14.1) fun x41 => Option.bind (setI p0.assigner.away x14.1 false) fun x46 => some (⟨(⟨p0.assigner.people, p0.assigner.cals, p0.assigner.steps, x46⟩ : Zr), p0.now, p0.waiting, p0.held, p0.work⟩ : ze) else some p0) fun s20 =>
 some (x14.2, s20)
noncomputable def qV (r_ : ze) (person : Int) (m : Int) : Option ((List zb) × Int × ze) :=
 Option.bind (ZU r_ m (fun R => qx R person)) fun x26 =>
 some (x26.1, x26.2.1, x26.2.2)
def qU  : Int :=
 0
noncomputable def QK (r_ : ze) (m : Int) : Option ((List zb) × Int × ze) :=
 Option.bind (ZU r_ m (fun R => some (qU, R))) fun x14 =>
 some (x14.1, x14.2.1, x14.2.2)
def qZ (r_ : ze) : Option Int :=
 some r_.now
def zZ (s1 : (List zb)) (s2 : (List zb)) : Option Bool :=
 if ((s1.length : Int) != (s2.length : Int)) = true then
  some false
 else
  Option.bind (zE (fun k9 _ => Option.bind (idx s1 (k9 : Int)) fun x29 => Option.bind (idx s2 (k9 : Int)) fun x34 => if (!(x29.ticket == x34.ticket && (x29.person == x34.person && (x29.weight == x34.weight && (x29.since == x34.since))))) = true then some (.rt false) else some (.nx ())) s1.length 0 ()) fun o6 => o6.andThen (fun y => some y) fun s7 =>
  some true
def ZF (m : Int) : Int :=
 if (!(zm m 0 3000000)) = true then
  2
 else
  0
noncomputable def JL (w_ : za) (steps : (List zk)) (m : Int) : Option ((List zi) × Int) :=
 Option.bind (jn ([w_] : List za)) fun x22 =>
 Option.bind (qD steps) fun x26 =>
 Option.bind (Zz ([x22, x26, (ZF m)] : List Int)) fun x36 =>
 if (x36 != 0) = true then
  some (([] : (List zi)), x36)
 else
  Option.bind (QM w_ steps m) fun x41 =>
  some (x41, 0)
noncomputable def zaI (people : (List zd)) (needs : (List zi)) : Option ((List Int) × Int) :=
 Option.bind (ZT people) fun x5 =>
 Option.bind (qO needs) fun x9 =>
 Option.bind (Zz ([x5, x9] : List Int)) fun x18 =>
 if (x18 != 0) = true then
  some (([] : (List Int)), x18)
 else
  Option.bind (zE (fun k23 s31 => Option.bind (Option.bind (idx people (k23 : Int)) fun x57 => Option.bind (ZV x57 needs) fun x78 => Option.bind (if x78 = true then Option.bind (zt 17592186044416 s31 ([(k23 : Int)] : List Int)) fun x99 => some x99 else some s31) fun s83 => some s83) fun s48 => some (.nx s48)) people.length 0 ([] : (List Int))) fun o20 => o20.andThen (fun y => some y) fun s21 =>
  some (s21, 0)
noncomputable def zac (people : (List zd)) (cals : (List zg)) (m : Int) : Option ((List Int) × Int) :=
 Option.bind (qQ people cals) fun x5 =>
 Option.bind (Zz ([x5, (ZF m)] : List Int)) fun x15 =>
 if (x15 != 0) = true then
  some (([] : (List Int)), x15)
 else
  Option.bind (zE (fun k20 s28 => Option.bind (Option.bind (idx people (k20 : Int)) fun x53 => Option.bind (idx cals x53.calendar) fun x72 => Option.bind (Qb x72 m) fun x83 => Option.bind (if x83.1 = true then Option.bind (zt 17592186044416 s28 ([(k20 : Int)] : List Int)) fun x104 => some x104 else some s28) fun s88 => some s88) fun s44 => some (.nx s44)) people.length 0 ([] : (List Int))) fun o17 => o17.andThen (fun y => some y) fun s18 =>
  some (s18, 0)
def qT (p : zd) (p1 : Int) : Option Bool :=
 some (p.no == p1)
def jo (s : (List Int)) (v : Int) : Option Int :=
 Option.bind (zE (fun k6 _ => Option.bind (idx s (k6 : Int)) fun x21 => if (v == x21) = true then some (.rt (k6 : Int)) else some (.nx ())) s.length 0 ()) fun o3 => o3.andThen (fun y => some y) fun s4 =>
 some (-1)
def qe (s : (List Int)) (v : Int) : Option Bool :=
 Option.bind (jo s v) fun x3 =>
 some (decide ((0 : Int) ≤ x3))
noncomputable def Zp (people : (List zd)) (cals : (List zg)) (steps : (List zk)) (w_ : za) (no : Int) (m : Int) : Option Bool :=
 Option.bind (JL w_ steps m) fun x25 =>
 Option.bind (zaI people x25.1) fun x33 =>
 Option.bind (zac people cals m) fun x41 =>
 Option.bind (zY people (fun y49 => qT y49 no)) fun x50 =>
 Option.bind (if ((((x25.2 == 0) && (x33.2 == 0)) && (x41.2 == 0)) && (decide ((0 : Int) ≤ x50))) = true then (Option.bind (qe x33.1 x50) fun x72 => some x72) else (some false)) fun s71 =>
 Option.bind (if s71 = true then (Option.bind (qe x41.1 x50) fun x75 => some x75) else (some false)) fun s74 =>
 some s74
def jY (people : (List zd)) (l : (List zb)) : Option Int :=
 if (decide ((400 : Int) < (l.length : Int))) = true then
  some 4
 else
  Option.bind (zE (fun k9 _ => Option.bind (idx l (k9 : Int)) fun x29 => if (!(zm x29.ticket 1 400)) = true then some (.rt 2) else Option.bind (if (decide ((0 : Int) < (k9 : Int))) = true then (Option.bind (idx l (w64 ((k9 : Int) - 1))) fun x47 => some (decide (x29.ticket ≤ x47.ticket))) else (some false)) fun s45 => if s45 = true then some (.rt 5) else Option.bind (qf people x29.person) fun x57 => if (decide (x57 < 0)) = true then some (.rt 7) else if ((!(zm x29.weight 1 20)) || (!(zm x29.since 0 3000000))) = true then some (.rt 2) else some (.nx ())) l.length 0 ()) fun o6 => o6.andThen (fun y => some y) fun s7 =>
  some 0
noncomputable def Jf (people : (List zd)) (l : (List zb)) : Option Int :=
 Option.bind (ZT people) fun x5 =>
 if (x5 != 0) = true then
  some x5
 else
  Option.bind (jY people l) fun x10 =>
  some x10
noncomputable def zaK (people : (List zd)) (held : (List zb)) : Option ((List Int) × Int) :=
 Option.bind (Jf people held) fun x5 =>
 if (x5 != 0) = true then
  some (([] : (List Int)), x5)
 else
  Option.bind (jr people held) fun x10 =>
  Option.bind (zE (fun k21 s29 => Option.bind (idx people (k21 : Int)) fun x44 => Option.bind (idx s29 (k21 : Int)) fun x63 => Option.bind (setI s29 (k21 : Int) (w64 (x44.capacity - x63))) fun x75 => some (.nx x75)) people.length 0 x10) fun o18 => o18.andThen (fun y => some y) fun s19 =>
  some (s19, 0)
def qG (r_ : ze) : Option (List za) :=
 Option.bind (zJ r_.waiting) fun x14 =>
 Option.bind (zE (fun k24 s32 => Option.bind (idx s32 (k24 : Int)) fun x47 => Option.bind (zq x47.needs) fun x56 => Option.bind (setI s32 (k24 : Int) ({ (x47 : za) with needs := x56 })) fun x74 => some (.nx x74)) x14.length 0 x14) fun o21 => o21.andThen (fun y => some y) fun s22 =>
 some s22
noncomputable def jg (r_ : ze) (people : (List zd)) (cals : (List zg)) (steps : (List zk)) (away : (List (Int × Bool))) (m : Int) : Option Bool :=
 Option.bind (ZC r_) fun x20 =>
 Option.bind (zaK people x20) fun x27 =>
 if ((x27.2 != 0) || ((x27.1.length : Int) != (people.length : Int))) = true then
  some false
 else
  Option.bind (zE (fun k41 _ => Option.bind (α := Lp _ _) (Option.bind (idx people (k41 : Int)) fun x68 => Option.bind (idx x27.1 (k41 : Int)) fun x86 => Option.bind (if (decide (x86 < 0)) = true then (some true) else (Option.bind (if ((zw away x68.no).getD false) = true then (some (x86 != x68.capacity)) else (some false)) fun s95 => some s95)) fun s92 => if s92 = true then some (.rt false) else Option.bind (qG r_) fun x105 => Option.bind (zE (fun k115 _ => Option.bind (idx x105 (k115 : Int)) fun x134 => Option.bind (if (!((zw away x68.no).getD false)) = true then (some (decide (x134.weight ≤ x86))) else (some false)) fun s154 => Option.bind (if s154 = true then (Option.bind (Zp people cals steps x134 x68.no m) fun x166 => some x166) else (some false)) fun s161 => if s161 = true then some (.rt false) else some (.nx ())) x105.length 0 ()) fun o112 => o112.andThen (fun y => some (.rt y)) fun s113 => some (.fin ())) fun o60 => o60.andThen (fun y => some (.rt y)) fun s61 => some (.nx ())) people.length 0 ()) fun o38 => o38.andThen (fun y => some y) fun s39 =>
  some true
noncomputable def JG (people : (List zd)) (cals : (List zg)) (steps : (List zk)) (work : (List za)) (script : (List Int)) : Option Bool :=
 Option.bind (jd) fun x11 =>
 if (!x11) = true then
  some false
 else
  Option.bind (jm people cals steps) fun x16 =>
  match x16.1 with
  | none =>
   some true
  | some R22 =>
   if ((x16.2 != 0) || false) = true then
    some false
   else
    Option.bind (QT (fun s77 => if (decide ((4 : Int) ≤ (s77.1.length : Int))) = true then Option.bind (α := Lp _ _) (Option.bind (idx s77.1 3) fun x125 => Option.bind (if (decide (x125 < 0)) = true then (some true) else (some (decide ((w64 (3000000 - s77.2.1)) < x125)))) fun s130 => if s130 = true then some (.rt true) else Option.bind (ZC s77.2.2.2.2) fun x138 => Option.bind (idx s77.1 2) fun x145 => Option.bind (idx s77.1 0) fun x149 => if ((Int.tmod (w64 ((Int.tmod x149 5) + 5)) 5) == 0) = true then Option.bind (idx s77.1 1) fun x154 => Option.bind (if (decide (x154 < 0)) = true then (some true) else (some (decide ((work.length : Int) ≤ x154)))) fun s159 => if s159 = true then some (.fin (w64 (s77.2.1 + x125), s77.2.2.1, s77.2.2.2.1, s77.2.2.2.2)) else Option.bind (idx work x154) fun x168 => Option.bind (QP s77.2.2.2.2 x168 (w64 (s77.2.1 + x125))) fun x189 => Option.bind (if (x189.2.1 == 0) = true then some (QO s77.2.2.1 x168.ticket x168) else some s77.2.2.1) fun s210 => if (x189.2.1 != 0) = true then Option.bind (qZ x189.2.2) fun x228 => Option.bind (if (decide ((0 : Int) < (x189.1.length : Int))) = true then (some true) else (Option.bind (ZC x189.2.2) fun x243 => Option.bind (zZ x138 x243) fun x250 => some (!x250))) fun s234 => if s234 = true then some (.rt false) else some (.fin (x228, s210, s77.2.2.2.1, x189.2.2)) else Option.bind (zE (fun k260 _ => Option.bind (idx x189.1 (k260 : Int)) fun x279 => Option.bind (Zp people cals steps ((zw s210 x279.ticket).getD (⟨0, 0, 0, 0, 0, []⟩)) x279.person x279.since) fun x301 => if (!x301) = true then some (.rt false) else some (.nx ())) x189.1.length 0 ()) fun o257 => o257.andThen (fun y => some (.rt y)) fun s258 => Option.bind (jg x189.2.2 people cals steps s77.2.2.2.1 (w64 (s77.2.1 + x125))) fun x309 => if (!x309) = true then some (.rt false) else some (.fin (w64 (s77.2.1 + x125), s210, s77.2.2.2.1, x189.2.2)) else Option.bind (if ((Int.tmod (w64 ((Int.tmod x149 5) + 5)) 5) == 1) = true then Option.bind (qS s77.2.2.2.2 x145 (w64 (s77.2.1 + x125))) fun x340 => some (x340.2.1, x340.1, x340.2.2, s77.2.2.2.1) else Option.bind (if ((Int.tmod (w64 ((Int.tmod x149 5) + 5)) 5) == 2) = true then Option.bind (Qd s77.2.2.2.2 x145 (w64 (s77.2.1 + x125))) fun x390 => Option.bind (if (x390.2.1 == 0) = true then some (QO s77.2.2.2.1 x145 true) else some s77.2.2.2.1) fun s411 => some (x390.2.1, x390.1, x390.2.2, s411) else Option.bind (if ((Int.tmod (w64 ((Int.tmod x149 5) + 5)) 5) == 3) = true then Option.bind (qV s77.2.2.2.2 x145 (w64 (s77.2.1 + x125))) fun x454 => Option.bind (if (x454.2.1 == 0) = true then some (zaf s77.2.2.2.1 x145) else some s77.2.2.2.1) fun s475 => some (x454.2.1, x454.1, x454.2.2, s475) else Option.bind (QK s77.2.2.2.2 (w64 (s77.2.1 + x125))) fun x494 => some (x494.2.1, x494.1, x494.2.2, s77.2.2.2.1)) fun s431 => some (s431.1, s431.2.1, s431.2.2.1, s431.2.2.2)) fun s367 => some (s367.1, s367.2.1, s367.2.2.1, s367.2.2.2)) fun s317 => if (s317.1 != 0) = true then Option.bind (qZ s317.2.2.1) fun x523 => Option.bind (if (decide ((0 : Int) < (s317.2.1.length : Int))) = true then (some true) else (Option.bind (ZC s317.2.2.1) fun x538 => Option.bind (zZ x138 x538) fun x545 => some (!x545))) fun s529 => if s529 = true then some (.rt false) else some (.fin (x523, s77.2.2.1, s317.2.2.2, s317.2.2.1)) else Option.bind (zE (fun k555 _ => Option.bind (idx s317.2.1 (k555 : Int)) fun x574 => Option.bind (Zp people cals steps ((zw s77.2.2.1 x574.ticket).getD (⟨0, 0, 0, 0, 0, []⟩)) x574.person x574.since) fun x595 => if (!x595) = true then some (.rt false) else some (.nx ())) s317.2.1.length 0 ()) fun o552 => o552.andThen (fun y => some (.rt y)) fun s553 => Option.bind (jg s317.2.2.1 people cals steps s317.2.2.2 (w64 (s77.2.1 + x125))) fun x603 => if (!x603) = true then some (.rt false) else some (.fin (w64 (s77.2.1 + x125), s77.2.2.1, s317.2.2.2, s317.2.2.1))) fun o104 => o104.andThen (fun y => some (.rt y)) fun s105 => Option.bind (zaH s77.1 (some 4) none) fun x610 => some (.nx (x610, s105.1, s105.2.1, s105.2.2.1, s105.2.2.2)) else some (.bk (s77.1, s77.2.1, s77.2.2.1, s77.2.2.2.1, s77.2.2.2.2))) (script, 0, ([] : List (Int × za)), ([] : List (Int × Bool)), R22)) fun o53 => o53.andThen (fun y => some y) fun s54 =>
    some true
end Go.Proofs.YtiblagcmjobknaaGreatDoor.M
