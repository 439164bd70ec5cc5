/-
  Written by program (gen.py) from the IR of the dump: plain models of the functions.
-/
import Derived.Test.YtjjdbhfigpmciaaPv
namespace Go.Proofs.Ytjjdbhfigpmciaa.M
open Go Go.Pu
set_option linter.unusedVariables false
set_option linter.unusedSimpArgs false

structure staff_Load where
  calls : Int
  length : Int
  span : Int

structure staff_Promise where
  share : Int
  of : Int
  wait : Int
  parts : Int

structure staff_ratio where
  num : (List Int)
  den : (List Int)

structure portref2_ratio where
  num : (List UInt32)
  den : (List UInt32)

/-- porterslodge staff within -/
def staff_within (n : Int) (low : Int) (high : Int) : Bool :=
  ((decide (low ≤ n)) && (decide (n ≤ high)))

/-- porterslodge staff checkLoad -/
def staff_checkLoad (l : staff_Load) : Option Int :=
  if (((!(staff_within l.calls 0 100000)) || (!(staff_within l.length 1 1440))) || (!(staff_within l.span 1 10080))) = true then
    some 2
  else
    some 0

/-- porterslodge staff checkPromise -/
def staff_checkPromise (p : staff_Promise) : Option Int :=
  if (((((decide (p.share < 0)) || (decide (p.of < p.share))) || (!(staff_within p.of 1 1000000))) || (!(staff_within p.wait 0 1000000))) || (!(staff_within p.parts 1 1000000))) = true then
    some 2
  else
    some 0

/-- cmp Or porterslodge api Errno -/
def cmp_Or_api_Errno (vals : (List Int)) : Option Int :=
  Option.bind (rangeB (fun k6 _ => Option.bind (idx vals (k6 : Int)) fun x21 => if (x21 != 0) = true then some (.rt x21) else some (.nx ())) vals.length 0 ()) fun o3 => o3.andThen (fun y => some y) fun s4 =>
  some 0

/-- porterslodge staff Load offered -/
def staff_Load_offered (l : staff_Load) : Option (Int × Int) :=
  some (w64 (l.calls * l.length), l.span)

/-- porterslodge staff Load enough -/
def staff_Load_enough (l : staff_Load) (n : Int) : Option Bool :=
  Option.bind (staff_Load_offered l) fun x8 =>
  some (decide (x8.1 < (w64 (n * x8.2))))

/-- porterslodge staff nat trimmed -/
noncomputable def staff_nat_trimmed (a_ : (List Int)) : Option (List Int) :=
  Option.bind (whileB (fun s12 => Option.bind (if (decide ((0 : Int) < (s12.length : Int))) = true then (Option.bind (idx s12 (w64 ((s12.length : Int) - 1))) fun x25 => some (x25 == 0)) else (some false)) fun s24 => if s24 = true then Option.bind (sliceL s12 none (some (w64 ((s12.length : Int) - 1)))) fun x30 => some (.nx x30) else some (.bk s12)) a_) fun o3 => o3.andThen (fun y => some y) fun s4 =>
  some s4

/-- porterslodge staff nat small -/
noncomputable def staff_nat_small (a_ : (List Int)) (n : Int) : Option (List Int) :=
  Option.bind (makeL 35184372088832 (w64 ((a_.length : Int) + 1)) (0 : Int)) fun x3 =>
  Option.bind (rangeB (fun k12 s20 => Option.bind (idx a_ (k12 : Int)) fun x35 => Option.bind (idx s20.1 (k12 : Int)) fun x39 => Option.bind (setI s20.1 (k12 : Int) (Int.tmod (w64 ((w64 (x35 * n)) + s20.2)) 1000000000)) fun x44 => some (.nx (x44, w64 (Int.tdiv (w64 ((w64 (x35 * n)) + s20.2)) 1000000000)))) a_.length 0 (x3, 0)) fun o9 => o9.andThen (fun y => some y) fun s10 =>
  Option.bind (idx s10.1 (a_.length : Int)) fun x51 =>
  Option.bind (setI s10.1 (a_.length : Int) s10.2) fun x56 =>
  Option.bind (staff_nat_trimmed x56) fun x65 =>
  some x65

/-- porterslodge staff nat plus -/
noncomputable def staff_nat_plus (a_ : (List Int)) (b : (List Int)) : Option (List Int) :=
  Option.bind (if (decide ((a_.length : Int) < (b.length : Int))) = true then some (b, a_) else some (a_, b)) fun s6 =>
  Option.bind (makeC 35184372088832 (s6.1.length : Int) (w64 ((s6.1.length : Int) + 1)) (0 : Int)) fun x18 =>
  Option.bind (whileB (fun s38 => if ((decide (s38.2.2 < (s38.1.length : Int))) && ((decide (s38.2.2 < (s6.2.length : Int))) || (decide ((0 : Int) < s38.2.1)))) = true then Option.bind (idx s38.1 s38.2.2) fun x56 => Option.bind (if (decide (s38.2.2 < (s6.2.length : Int))) = true then Option.bind (idx s6.2 s38.2.2) fun x69 => some (w64 ((w64 (x56 + s38.2.1)) + x69)) else some (w64 (x56 + s38.2.1))) fun s62 => Option.bind (setI s38.1 s38.2.2 (Int.tmod s62 1000000000)) fun x79 => some (.nx (x79, w64 (Int.tdiv s62 1000000000), w64 (s38.2.2 + 1))) else some (.bk (s38.1, s38.2.1, s38.2.2))) ((copyL x18 s6.1), 0, 0)) fun o27 => o27.andThen (fun y => some y) fun s28 =>
  Option.bind (if (decide ((0 : Int) < s28.2.1)) = true then Option.bind (appendL 17592186044416 s28.1 ([s28.2.1] : List Int)) fun x102 => some x102 else some s28.1) fun s87 =>
  some s87

/-- porterslodge staff Load blocked -/
noncomputable def staff_Load_blocked (l : staff_Load) (n : Int) : Option staff_ratio :=
  Option.bind (staff_Load_offered l) fun x14 =>
  Option.bind (whileB (fun s61 => if (decide (s61.1 < n)) = true then Option.bind (staff_nat_small s61.2.num x14.1) fun x77 => Option.bind (staff_nat_small s61.2.den (w64 ((w64 (s61.1 + 1)) * x14.2))) fun x83 => Option.bind (staff_nat_plus x83 x77) fun x89 => some (.nx (w64 (s61.1 + 1), (⟨x77, x89⟩ : staff_ratio))) else some (.bk (s61.1, s61.2))) (0, (⟨([1] : List Int), ([1] : List Int)⟩ : staff_ratio))) fun o48 => o48.andThen (fun y => some y) fun s49 =>
  some s49.2

/-- porterslodge staff Load waits -/
noncomputable def staff_Load_waits (l : staff_Load) (n : Int) : Option staff_ratio :=
  if (l.calls == 0) = true then
    some (⟨([] : (List Int)), ([1] : List Int)⟩ : staff_ratio)
  else
    Option.bind (staff_Load_enough l n) fun x31 =>
    if (!x31) = true then
      some (⟨([1] : List Int), ([1] : List Int)⟩ : staff_ratio)
    else
      Option.bind (staff_Load_offered l) fun x63 =>
      Option.bind (staff_Load_blocked l n) fun x69 =>
      Option.bind (staff_nat_small x69.num (w64 (n * x63.2))) fun x106 =>
      Option.bind (staff_nat_small x69.den (w64 ((w64 (n * x63.2)) - x63.1))) fun x112 =>
      Option.bind (staff_nat_small x69.num x63.1) fun x118 =>
      Option.bind (staff_nat_plus x112 x118) fun x124 =>
      some (⟨x106, x124⟩ : staff_ratio)

/-- porterslodge staff Load meanWait -/
noncomputable def staff_Load_meanWait (l : staff_Load) (n : Int) : Option (staff_ratio × Bool) :=
  if (l.calls == 0) = true then
    some ((⟨([] : (List Int)), ([1] : List Int)⟩ : staff_ratio), true)
  else
    Option.bind (staff_Load_enough l n) fun x31 =>
    if (!x31) = true then
      some ((⟨([] : (List Int)), ([] : (List Int))⟩ : staff_ratio), false)
    else
      Option.bind (staff_Load_offered l) fun x41 =>
      Option.bind (staff_Load_waits l n) fun x46 =>
      Option.bind (staff_nat_small x46.num (w64 (l.length * x41.2))) fun x80 =>
      Option.bind (staff_nat_small x46.den (w64 ((w64 (n * x41.2)) - x41.1))) fun x86 =>
      some ((⟨x80, x86⟩ : staff_ratio), true)

/-- porterslodge staff natOf -/
noncomputable def staff_natOf (n : Int) : Option (List Int) :=
  Option.bind (whileB (fun s12 => if (decide ((0 : Int) < s12.1)) = true then Option.bind (appendL 17592186044416 s12.2 ([Int.tmod s12.1 1000000000] : List Int)) fun x31 => some (.nx (w64 (Int.tdiv s12.1 1000000000), x31)) else some (.bk (s12.1, s12.2))) (n, ([] : (List Int)))) fun o1 => o1.andThen (fun y => some y) fun s2 =>
  some s2.2

/-- porterslodge staff nat times -/
noncomputable def staff_nat_times (a_ : (List Int)) (b : (List Int)) : Option (List Int) :=
  if (((a_.length : Int) == 0) || ((b.length : Int) == 0)) = true then
    some ([] : (List Int))
  else
    Option.bind (makeL 35184372088832 (w64 ((a_.length : Int) + (b.length : Int))) (0 : Int)) fun x8 =>
    Option.bind (rangeB (fun k17 s25 => Option.bind (Option.bind (idx a_ (k17 : Int)) fun x50 => Option.bind (rangeB (R := Empty) (fun k57 s65 => Option.bind (idx b (k57 : Int)) fun x80 => Option.bind (idx s65.1 (w64 ((k17 : Int) + (k57 : Int)))) fun x84 => Option.bind (setI s65.1 (w64 ((k17 : Int) + (k57 : Int))) (Int.tmod (w64 ((w64 (x84 + (w64 (x50 * x80)))) + s65.2)) 1000000000)) fun x93 => some (.nx (x93, w64 (Int.tdiv (w64 ((w64 (x84 + (w64 (x50 * x80)))) + s65.2)) 1000000000)))) b.length 0 (s25, 0)) fun o54 => o54.andThen (fun y => y.elim) fun s55 => Option.bind (whileB (R := Empty) (fun s111 => if (decide ((0 : Int) < s111.2.1)) = true then Option.bind (idx s111.1 s111.2.2) fun x125 => Option.bind (setI s111.1 s111.2.2 (Int.tmod (w64 (x125 + s111.2.1)) 1000000000)) fun x134 => some (.nx (x134, w64 (Int.tdiv (w64 (x125 + s111.2.1)) 1000000000), w64 (s111.2.2 + 1))) else some (.bk (s111.1, s111.2.1, s111.2.2))) (s55.1, s55.2, w64 ((k17 : Int) + (b.length : Int)))) fun o100 => o100.andThen (fun y => y.elim) fun s101 => some s101.1) fun s41 => some (.nx s41)) a_.length 0 x8) fun o14 => o14.andThen (fun y => some y) fun s15 =>
    Option.bind (staff_nat_trimmed s15) fun x150 =>
    some x150

/-- porterslodge staff nat compare -/
noncomputable def staff_nat_compare (a_ : (List Int)) (b : (List Int)) : Option Int :=
  if ((a_.length : Int) != (b.length : Int)) = true then
    if (decide ((a_.length : Int) < (b.length : Int))) = true then
      some (-1)
    else
      some 1
  else
    Option.bind (whileB (fun s16 => if (decide ((0 : Int) ≤ s16)) = true then Option.bind (idx a_ s16) fun x28 => Option.bind (idx b s16) fun x32 => if (x28 != x32) = true then if (decide (x28 < x32)) = true then some (.rt (-1)) else some (.rt 1) else some (.nx (w64 (s16 - 1))) else some (.bk s16)) (w64 ((a_.length : Int) - 1))) fun o7 => o7.andThen (fun y => some y) fun s8 =>
    some 0

/-- porterslodge staff ratio compare -/
noncomputable def staff_ratio_compare (r_ : staff_ratio) (s : staff_ratio) : Option Int :=
  Option.bind (staff_nat_times r_.num s.den) fun x41 =>
  Option.bind (staff_nat_times s.num r_.den) fun x47 =>
  Option.bind (staff_nat_compare x41 x47) fun x53 =>
  some x53

/-- porterslodge staff Load keeps -/
noncomputable def staff_Load_keeps (l : staff_Load) (p : staff_Promise) (n : Int) : Option Bool :=
  Option.bind (staff_Load_meanWait l n) fun x15 =>
  Option.bind (if x15.2 = true then (Option.bind (staff_Load_waits l n) fun x52 => Option.bind (staff_natOf p.share) fun x60 => Option.bind (staff_natOf p.of) fun x68 => Option.bind (staff_ratio_compare x52 (⟨x60, x68⟩ : staff_ratio)) fun x82 => if (decide (x82 ≤ 0)) = true then (Option.bind (staff_natOf p.wait) fun x94 => Option.bind (staff_natOf p.parts) fun x102 => Option.bind (staff_ratio_compare x15.1 (⟨x94, x102⟩ : staff_ratio)) fun x116 => some (decide (x116 ≤ 0))) else (some false)) else (if false = true then (Option.bind (staff_natOf p.wait) fun x130 => Option.bind (staff_natOf p.parts) fun x138 => Option.bind (staff_ratio_compare x15.1 (⟨x130, x138⟩ : staff_ratio)) fun x152 => some (decide (x152 ≤ 0))) else (some false))) fun s38 =>
  some s38

/-- porterslodge staff Staff -/
noncomputable def staff_Staff (l : staff_Load) (p : staff_Promise) : Option (Int × Int) :=
  Option.bind (staff_checkLoad l) fun x15 =>
  Option.bind (staff_checkPromise p) fun x17 =>
  Option.bind (cmp_Or_api_Errno ([x15, x17] : List Int)) fun x26 =>
  if (x26 != 0) = true then
    some (0, x26)
  else
    Option.bind (whileB (fun s38 => if (decide (s38 < 61)) = true then Option.bind (staff_Load_keeps l p s38) fun x52 => if x52 = true then some (.rt (s38, 0)) else some (.nx (w64 (s38 + 1))) else some (.bk s38)) 0) fun o28 => o28.andThen (fun y => some y) fun s29 =>
    some (0, 7)

/-- porterslodge staff Demand -/
noncomputable def staff_Demand (l : (List staff_Load)) (p : staff_Promise) : Option ((List Int) × Int) :=
  if (decide ((400 : Int) < (l.length : Int))) = true then
    some (([] : (List Int)), 4)
  else
    Option.bind (rangeB (fun k13 _ => Option.bind (idx l (k13 : Int)) fun x32 => Option.bind (staff_checkLoad x32) fun x46 => if (x46 != 0) = true then some (.rt (([] : (List Int)), x46)) else some (.nx ())) l.length 0 ()) fun o10 => o10.andThen (fun y => some y) fun s11 =>
    Option.bind (staff_checkPromise p) fun x55 =>
    if (x55 != 0) = true then
      some (([] : (List Int)), x55)
    else
      Option.bind (rangeB (fun k63 s72 => Option.bind (idx l (k63 : Int)) fun x87 => Option.bind (staff_Staff x87 p) fun x102 => if (x102.2 != 0) = true then some (.rt (([] : (List Int)), x102.2)) else Option.bind (appendL 17592186044416 s72 ([x102.1] : List Int)) fun x112 => some (.nx x112)) l.length 0 ([] : (List Int))) fun o60 => o60.andThen (fun y => some y) fun s61 =>
      some (s61, 0)

/-- porterslodge portref2 LoadFault -/
def portref2_LoadFault (l : staff_Load) : Option Int :=
  if ((((((decide (l.calls < 0)) || (decide ((100000 : Int) < l.calls))) || (decide (l.length < 1))) || (decide ((1440 : Int) < l.length))) || (decide (l.span < 1))) || (decide ((10080 : Int) < l.span))) = true then
    some 2
  else
    some 0

/-- porterslodge portref2 PromiseFault -/
def portref2_PromiseFault (p : staff_Promise) : Option Int :=
  if ((((((((decide (p.of < 1)) || (decide ((1000000 : Int) < p.of))) || (decide (p.share < 0))) || (decide (p.of < p.share))) || (decide (p.wait < 0))) || (decide ((1000000 : Int) < p.wait))) || (decide (p.parts < 1))) || (decide ((1000000 : Int) < p.parts))) = true then
    some 2
  else
    some 0

/-- porterslodge portref2 whole trim -/
noncomputable def portref2_whole_trim (a_ : (List UInt32)) : Option (List UInt32) :=
  Option.bind (whileB (fun s12 => Option.bind (if (decide ((0 : Int) < (s12.length : Int))) = true then (Option.bind (idx s12 (w64 ((s12.length : Int) - 1))) fun x25 => some ((x25.toNat : Int) == 0)) else (some false)) fun s24 => if s24 = true then Option.bind (sliceL s12 none (some (w64 ((s12.length : Int) - 1)))) fun x30 => some (.nx x30) else some (.bk s12)) a_) fun o3 => o3.andThen (fun y => some y) fun s4 =>
  some s4

/-- porterslodge portref2 wholeOf -/
noncomputable def portref2_wholeOf (n : Int) : Option (List UInt32) :=
  Option.bind (shr .i64 n 32) fun x1 =>
  Option.bind (portref2_whole_trim ([(toU32 n), (toU32 x1)] : List UInt32)) fun x7 =>
  some x7

/-- porterslodge portref2 whole cmp -/
noncomputable def portref2_whole_cmp (a_ : (List UInt32)) (b : (List UInt32)) : Option Int :=
  if ((a_.length : Int) != (b.length : Int)) = true then
    if (decide ((a_.length : Int) < (b.length : Int))) = true then
      some (-1)
    else
      some 1
  else
    Option.bind (whileB (fun s16 => if (decide ((0 : Int) ≤ s16)) = true then Option.bind (idx a_ s16) fun x28 => Option.bind (idx b s16) fun x32 => if ((x28.toNat : Int) != (x32.toNat : Int)) = true then if (decide ((x28.toNat : Int) < (x32.toNat : Int))) = true then some (.rt (-1)) else some (.rt 1) else some (.nx (w64 (s16 - 1))) else some (.bk s16)) (w64 ((a_.length : Int) - 1))) fun o7 => o7.andThen (fun y => some y) fun s8 =>
    some 0

/-- math bits Len32 -/
def math_bits_Len32 (x : Int) : Option Int :=
  Option.bind (if (decide ((65536 : Int) ≤ x)) = true then Option.bind (shr .u32 x 16) fun x8 => some (x8, 16) else some (x, 0)) fun s2 =>
  Option.bind (if (decide ((256 : Int) ≤ s2.1)) = true then Option.bind (shr .u32 s2.1 8) fun x18 => some (x18, w64 (s2.2 + 8)) else some (s2.1, s2.2)) fun s12 =>
  Option.bind (idxS (⟨#[0, 1, 2, 2, 3, 3, 3, 3, 4, 4, 4, 4, 4, 4, 4, 4, 5, 5, 5, 5, 5, 5, 5, 5, 5, 5, 5, 5, 5, 5, 5, 5, 6, 6, 6, 6, 6, 6, 6, 6, 6, 6, 6, 6, 6, 6, 6, 6, 6, 6, 6, 6, 6, 6, 6, 6, 6, 6, 6, 6, 6, 6, 6, 6, 7, 7, 7, 7, 7, 7, 7, 7, 7, 7, 7, 7, 7, 7, 7, 7, 7, 7, 7, 7, 7, 7, 7, 7, 7, 7, 7, 7, 7, 7, 7, 7, 7, 7, 7, 7, 7, 7, 7, 7, 7, 7, 7, 7, 7, 7, 7, 7, 7, 7, 7, 7, 7, 7, 7, 7, 7, 7, 7, 7, 7, 7, 7, 7, 8, 8, 8, 8, 8, 8, 8, 8, 8, 8, 8, 8, 8, 8, 8, 8, 8, 8, 8, 8, 8, 8, 8, 8, 8, 8, 8, 8, 8, 8, 8, 8, 8, 8, 8, 8, 8, 8, 8, 8, 8, 8, 8, 8, 8, 8, 8, 8, 8, 8, 8, 8, 8, 8, 8, 8, 8, 8, 8, 8, 8, 8, 8, 8, 8, 8, 8, 8, 8, 8, 8, 8, 8, 8, 8, 8, 8, 8, 8, 8, 8, 8, 8, 8, 8, 8, 8, 8, 8, 8, 8, 8, 8, 8, 8, 8, 8, 8, 8, 8, 8, 8, 8, 8, 8, 8, 8, 8, 8, 8, 8, 8, 8, 8, 8, 8, 8, 8, 8, 8, 8, 8, 8, 8, 8, 8, 8, 8]⟩ : ByteArray) ((toU8 s12.1).toNat : Int)) fun x21 =>
  some (w64 (s12.2 + (IntKind.wrap .i64 (x21.toNat : Int))))

/-- math bits LeadingZeros32 -/
def math_bits_LeadingZeros32 (x : Int) : Option Int :=
  Option.bind (math_bits_Len32 x) fun x1 =>
  some (w64 (32 - x1))

/-- porterslodge portref2 whole up -/
def portref2_whole_up (a_ : (List UInt32)) (shift : Int) : Option (List UInt32) :=
  Option.bind (makeL 70368744177664 (w64 ((a_.length : Int) + 1)) (0 : UInt32)) fun x3 =>
  Option.bind (rangeB (fun k12 s20 => Option.bind (idx a_ (k12 : Int)) fun x35 => Option.bind (shl .u64 (IntKind.wrap .u64 (x35.toNat : Int)) shift) fun x39 => Option.bind (idx s20 (k12 : Int)) fun x40 => Option.bind (setI s20 (k12 : Int) (toU32 (bitsI .or .u32 (x40.toNat : Int) ((toU32 x39).toNat : Int)))) fun x49 => Option.bind (shr .u64 x39 32) fun x53 => Option.bind (idx x49 (w64 ((k12 : Int) + 1))) fun x54 => Option.bind (setI x49 (w64 ((k12 : Int) + 1)) (toU32 x53)) fun x59 => some (.nx x59)) a_.length 0 x3) fun o9 => o9.andThen (fun y => some y) fun s10 =>
  some s10

/-- porterslodge portref2 whole by -/
noncomputable def portref2_whole_by (a_ : (List UInt32)) (b : (List UInt32)) : Option ((List UInt32) × (List UInt32)) :=
  Option.bind (portref2_whole_cmp a_ b) fun x5 =>
  if (decide (x5 < 0)) = true then
    Option.bind (appendL 35184372088832 ([] : (List UInt32)) a_) fun x10 =>
    some (([] : (List UInt32)), x10)
  else
    if ((b.length : Int) == 1) = true then
      Option.bind (makeL 70368744177664 (a_.length : Int) (0 : UInt32)) fun x22 =>
      Option.bind (whileB (fun s40 => if (decide ((0 : Int) ≤ s40.2.2)) = true then Option.bind (shl .u64 s40.2.1 32) fun x54 => Option.bind (idx a_ s40.2.2) fun x55 => Option.bind (idx b 0) fun x59 => Option.bind (quoK .u64 (bitsI .or .u64 x54 (IntKind.wrap .u64 (x55.toNat : Int))) (IntKind.wrap .u64 (x59.toNat : Int))) fun x63 => Option.bind (idx s40.1 s40.2.2) fun x64 => Option.bind (setI s40.1 s40.2.2 (toU32 x63)) fun x69 => Option.bind (remK .u64 (bitsI .or .u64 x54 (IntKind.wrap .u64 (x55.toNat : Int))) (IntKind.wrap .u64 (x59.toNat : Int))) fun x76 => some (.nx (x69, x76, w64 (s40.2.2 - 1))) else some (.bk (s40.1, s40.2.1, s40.2.2))) (x22, 0, w64 ((a_.length : Int) - 1))) fun o28 => o28.andThen (fun y => some y) fun s29 =>
      Option.bind (portref2_whole_trim s29.1) fun x85 =>
      Option.bind (portref2_whole_trim ([(toU32 s29.2.1)] : List UInt32)) fun x93 =>
      some (x85, x93)
    else
      Option.bind (idx b (w64 ((b.length : Int) - 1))) fun x96 =>
      Option.bind (math_bits_LeadingZeros32 (x96.toNat : Int)) fun x100 =>
      Option.bind (portref2_whole_up a_ (IntKind.wrap .u64 x100)) fun x101 =>
      Option.bind (portref2_whole_up b (IntKind.wrap .u64 x100)) fun x109 =>
      Option.bind (makeL 70368744177664 (w64 ((w64 ((a_.length : Int) - (b.length : Int))) + 1)) (0 : UInt32)) fun x117 =>
      Option.bind (whileB (fun s136 => if (decide ((0 : Int) ≤ s136.2.2)) = true then Option.bind (idx s136.1 (w64 (s136.2.2 + (b.length : Int)))) fun x152 => Option.bind (shl .u64 (IntKind.wrap .u64 (x152.toNat : Int)) 32) fun x157 => Option.bind (idx s136.1 (w64 ((w64 (s136.2.2 + (b.length : Int))) - 1))) fun x158 => Option.bind (idx x109 (w64 ((b.length : Int) - 1))) fun x166 => Option.bind (quoK .u64 (bitsI .or .u64 x157 (IntKind.wrap .u64 (x158.toNat : Int))) (IntKind.wrap .u64 (x166.toNat : Int))) fun x171 => Option.bind (remK .u64 (bitsI .or .u64 x157 (IntKind.wrap .u64 (x158.toNat : Int))) (IntKind.wrap .u64 (x166.toNat : Int))) fun x176 => Option.bind (whileB (fun s189 => Option.bind (if (decide ((4294967296 : Int) ≤ s189.1)) = true then (some true) else (Option.bind (idx x109 (w64 ((b.length : Int) - 2))) fun x202 => Option.bind (shl .u64 s189.2 32) fun x207 => Option.bind (idx s136.1 (w64 ((w64 (s136.2.2 + (b.length : Int))) - 2))) fun x208 => some (decide ((bitsI .or .u64 x207 (IntKind.wrap .u64 (x208.toNat : Int))) < (IntKind.wrap .u64 (s189.1 * (IntKind.wrap .u64 (x202.toNat : Int)))))))) fun s201 => if s201 = true then if (decide ((4294967296 : Int) ≤ (IntKind.wrap .u64 (s189.2 + (IntKind.wrap .u64 (x166.toNat : Int)))))) = true then some (.bk (IntKind.wrap .u64 (s189.1 - 1), IntKind.wrap .u64 (s189.2 + (IntKind.wrap .u64 (x166.toNat : Int))))) else some (.nx (IntKind.wrap .u64 (s189.1 - 1), IntKind.wrap .u64 (s189.2 + (IntKind.wrap .u64 (x166.toNat : Int))))) else some (.bk (s189.1, s189.2))) (x171, x176)) fun o180 => o180.andThen (fun y => some (.rt y)) fun s181 => Option.bind (whileB (fun s237 => if (decide (s237.2.2 < (b.length : Int))) = true then Option.bind (idx x109 s237.2.2) fun x251 => Option.bind (idx s237.1 (w64 (s237.2.2 + s136.2.2))) fun x256 => Option.bind (setI s237.1 (w64 (s237.2.2 + s136.2.2)) (toU32 (w64 ((w64 ((IntKind.wrap .i64 (x256.toNat : Int)) - s237.2.1)) - (IntKind.wrap .i64 (bitsI .and .u64 (IntKind.wrap .u64 (s181.1 * (IntKind.wrap .u64 (x251.toNat : Int)))) 4294967295)))))) fun x265 => Option.bind (shr .u64 (IntKind.wrap .u64 (s181.1 * (IntKind.wrap .u64 (x251.toNat : Int)))) 32) fun x269 => Option.bind (shr .i64 (w64 ((w64 ((IntKind.wrap .i64 (x256.toNat : Int)) - s237.2.1)) - (IntKind.wrap .i64 (bitsI .and .u64 (IntKind.wrap .u64 (s181.1 * (IntKind.wrap .u64 (x251.toNat : Int)))) 4294967295)))) 32) fun x270 => some (.nx (x265, w64 ((IntKind.wrap .i64 x269) - x270), w64 (s237.2.2 + 1))) else some (.bk (s237.1, s237.2.1, s237.2.2))) (s136.1, 0, 0)) fun o226 => o226.andThen (fun y => some (.rt y)) fun s227 => Option.bind (idx s227.1 (w64 (s136.2.2 + (b.length : Int)))) fun x274 => Option.bind (setI s227.1 (w64 (s136.2.2 + (b.length : Int))) (toU32 (w64 ((IntKind.wrap .i64 (x274.toNat : Int)) - s227.2.1)))) fun x283 => Option.bind (if (decide ((w64 ((IntKind.wrap .i64 (x274.toNat : Int)) - s227.2.1)) < 0)) = true then Option.bind (whileB (R := Empty) (fun s309 => if (decide (s309.2.2 < (b.length : Int))) = true then Option.bind (idx s309.1 (w64 (s309.2.2 + s136.2.2))) fun x323 => Option.bind (idx x109 s309.2.2) fun x328 => Option.bind (setI s309.1 (w64 (s309.2.2 + s136.2.2)) (toU32 (IntKind.wrap .u64 (s309.2.1 + (IntKind.wrap .u64 ((IntKind.wrap .u64 (x323.toNat : Int)) + (IntKind.wrap .u64 (x328.toNat : Int)))))))) fun x340 => Option.bind (shr .u64 (IntKind.wrap .u64 (s309.2.1 + (IntKind.wrap .u64 ((IntKind.wrap .u64 (x323.toNat : Int)) + (IntKind.wrap .u64 (x328.toNat : Int)))))) 32) fun x344 => some (.nx (x340, x344, w64 (s309.2.2 + 1))) else some (.bk (s309.1, s309.2.1, s309.2.2))) (x283, 0, 0)) fun o298 => o298.andThen (fun y => y.elim) fun s299 => Option.bind (idx s299.1 (w64 (s136.2.2 + (b.length : Int)))) fun x348 => Option.bind (setI s299.1 (w64 (s136.2.2 + (b.length : Int))) (toU32 ((x348.toNat : Int) + ((toU32 s299.2.1).toNat : Int)))) fun x357 => some (x357, IntKind.wrap .u64 (s181.1 - 1)) else some (x283, s181.1)) fun s288 => Option.bind (idx s136.2.1 s136.2.2) fun x363 => Option.bind (setI s136.2.1 s136.2.2 (toU32 s288.2)) fun x368 => some (.nx (s288.1, x368, w64 (s136.2.2 - 1))) else some (.bk (s136.1, s136.2.1, s136.2.2))) (x101, x117, w64 ((a_.length : Int) - (b.length : Int)))) fun o123 => o123.andThen (fun y => some y) fun s124 =>
      Option.bind (makeL 70368744177664 (b.length : Int) (0 : UInt32)) fun x375 =>
      Option.bind (whileB (fun s392 => if (decide (s392.2 < (b.length : Int))) = true then Option.bind (idx s124.1 s392.2) fun x406 => Option.bind (shr .u32 (x406.toNat : Int) (IntKind.wrap .u64 x100)) fun x411 => Option.bind (idx s124.1 (w64 (s392.2 + 1))) fun x412 => Option.bind (shl .u64 (IntKind.wrap .u64 (x412.toNat : Int)) (IntKind.wrap .u64 (32 - (IntKind.wrap .u64 x100)))) fun x417 => Option.bind (idx s392.1 s392.2) fun x418 => Option.bind (setI s392.1 s392.2 (toU32 (bitsI .or .u32 x411 ((toU32 x417).toNat : Int)))) fun x426 => some (.nx (x426, w64 (s392.2 + 1))) else some (.bk (s392.1, s392.2))) (x375, 0)) fun o381 => o381.andThen (fun y => some y) fun s382 =>
      Option.bind (portref2_whole_trim s124.2.1) fun x438 =>
      Option.bind (portref2_whole_trim s382.1) fun x446 =>
      some (x438, x446)

/-- porterslodge portref2 lowest -/
noncomputable def portref2_lowest (num : (List UInt32)) (den : (List UInt32)) : Option portref2_ratio :=
  Option.bind (whileB (fun s23 => if (decide ((0 : Int) < (s23.2.length : Int))) = true then Option.bind (portref2_whole_by s23.1 s23.2) fun x39 => some (.nx (s23.2, x39.2)) else some (.bk (s23.1, s23.2))) (num, den)) fun o10 => o10.andThen (fun y => some y) fun s11 =>
  Option.bind (portref2_whole_by num s11.1) fun x50 =>
  Option.bind (portref2_whole_by den s11.1) fun x58 =>
  some (⟨x50.1, x58.1⟩ : portref2_ratio)

/-- porterslodge portref2 rat -/
noncomputable def portref2_rat (num : Int) (den : Int) : Option portref2_ratio :=
  Option.bind (portref2_wholeOf num) fun x6 =>
  Option.bind (portref2_wholeOf den) fun x12 =>
  Option.bind (portref2_lowest x6 x12) fun x18 =>
  some x18

/-- porterslodge portref2 offered -/
noncomputable def portref2_offered (l : staff_Load) : Option portref2_ratio :=
  Option.bind (portref2_rat (w64 (l.calls * l.length)) l.span) fun x16 =>
  some x16

/-- porterslodge portref2 whole times -/
noncomputable def portref2_whole_times (a_ : (List UInt32)) (b : (List UInt32)) : Option (List UInt32) :=
  Option.bind (makeL 70368744177664 (w64 ((a_.length : Int) + (b.length : Int))) (0 : UInt32)) fun x5 =>
  Option.bind (rangeB (fun k14 s22 => Option.bind (rangeB (fun k40 s48 => Option.bind (idx a_ (k14 : Int)) fun x63 => Option.bind (idx b (k40 : Int)) fun x67 => Option.bind (idx s48.1 (w64 ((k14 : Int) + (k40 : Int)))) fun x71 => Option.bind (setI s48.1 (w64 ((k14 : Int) + (k40 : Int))) (toU32 (IntKind.wrap .u64 (s48.2 + (IntKind.wrap .u64 ((IntKind.wrap .u64 ((IntKind.wrap .u64 (x63.toNat : Int)) * (IntKind.wrap .u64 (x67.toNat : Int)))) + (IntKind.wrap .u64 (x71.toNat : Int)))))))) fun x83 => Option.bind (shr .u64 (IntKind.wrap .u64 (s48.2 + (IntKind.wrap .u64 ((IntKind.wrap .u64 ((IntKind.wrap .u64 (x63.toNat : Int)) * (IntKind.wrap .u64 (x67.toNat : Int)))) + (IntKind.wrap .u64 (x71.toNat : Int)))))) 32) fun x87 => some (.nx (x83, x87))) b.length 0 (s22, 0)) fun o37 => o37.andThen (fun y => some (.rt y)) fun s38 => Option.bind (idx s38.1 (w64 ((k14 : Int) + (b.length : Int)))) fun x91 => Option.bind (setI s38.1 (w64 ((k14 : Int) + (b.length : Int))) (toU32 s38.2)) fun x96 => some (.nx x96)) a_.length 0 x5) fun o11 => o11.andThen (fun y => some y) fun s12 =>
  Option.bind (portref2_whole_trim s12) fun x108 =>
  some x108

/-- porterslodge portref2 ratio cmp -/
noncomputable def portref2_ratio_cmp (a_ : portref2_ratio) (b : portref2_ratio) : Option Int :=
  Option.bind (portref2_whole_times a_.num b.den) fun x41 =>
  Option.bind (portref2_whole_times b.num a_.den) fun x47 =>
  Option.bind (portref2_whole_cmp x41 x47) fun x53 =>
  some x53

/-- porterslodge portref2 whole plus -/
noncomputable def portref2_whole_plus (a_ : (List UInt32)) (b : (List UInt32)) : Option (List UInt32) :=
  Option.bind (if (decide ((a_.length : Int) < (b.length : Int))) = true then some (b, a_) else some (a_, b)) fun s6 =>
  Option.bind (makeC 70368744177664 0 (w64 ((s6.1.length : Int) + 1)) (0 : UInt32)) fun x18 =>
  Option.bind (rangeB (fun k27 s35 => Option.bind (idx s6.1 (k27 : Int)) fun x50 => Option.bind (if (decide ((k27 : Int) < (s6.2.length : Int))) = true then Option.bind (idx s6.2 (k27 : Int)) fun x61 => some (IntKind.wrap .u64 ((IntKind.wrap .u64 (s35.2 + (IntKind.wrap .u64 (x50.toNat : Int)))) + (IntKind.wrap .u64 (x61.toNat : Int)))) else some (IntKind.wrap .u64 (s35.2 + (IntKind.wrap .u64 (x50.toNat : Int))))) fun s55 => Option.bind (appendL 35184372088832 s35.1 ([(toU32 s55)] : List UInt32)) fun x72 => Option.bind (shr .u64 s55 32) fun x78 => some (.nx (x72, x78))) s6.1.length 0 (x18, 0)) fun o24 => o24.andThen (fun y => some y) fun s25 =>
  Option.bind (appendL 35184372088832 s25.1 ([(toU32 s25.2)] : List UInt32)) fun x87 =>
  Option.bind (portref2_whole_trim x87) fun x98 =>
  some x98

/-- porterslodge portref2 blocked -/
noncomputable def portref2_blocked (l : staff_Load) (n : Int) : Option portref2_ratio :=
  Option.bind (portref2_offered l) fun x14 =>
  Option.bind (portref2_wholeOf 1) fun x36 =>
  Option.bind (portref2_wholeOf 1) fun x42 =>
  Option.bind (whileB (fun s61 => if (decide (s61.2.2 ≤ n)) = true then Option.bind (portref2_whole_times s61.1 x14.num) fun x81 => Option.bind (portref2_whole_times s61.2.1 x14.den) fun x91 => Option.bind (portref2_wholeOf s61.2.2) fun x97 => Option.bind (portref2_whole_times x91 x97) fun x103 => Option.bind (portref2_whole_plus x103 x81) fun x109 => some (.nx (x81, x109, w64 (s61.2.2 + 1))) else some (.bk (s61.1, s61.2.1, s61.2.2))) (x36, x42, 1)) fun o48 => o48.andThen (fun y => some y) fun s49 =>
  Option.bind (portref2_lowest s49.1 s49.2.1) fun x118 =>
  some x118

/-- porterslodge portref2 whole minus -/
noncomputable def portref2_whole_minus (a_ : (List UInt32)) (b : (List UInt32)) : Option (List UInt32) :=
  Option.bind (makeL 70368744177664 (a_.length : Int) (0 : UInt32)) fun x5 =>
  Option.bind (rangeB (fun k14 s22 => Option.bind (idx a_ (k14 : Int)) fun x37 => Option.bind (if (decide ((k14 : Int) < (b.length : Int))) = true then Option.bind (idx b (k14 : Int)) fun x48 => some (IntKind.wrap .u64 (s22.2 + (IntKind.wrap .u64 (x48.toNat : Int)))) else some s22.2) fun s42 => Option.bind (if (decide ((IntKind.wrap .u64 (x37.toNat : Int)) < s42)) = true then some (1, IntKind.wrap .u64 ((IntKind.wrap .u64 (x37.toNat : Int)) + 4294967296)) else some (0, IntKind.wrap .u64 (x37.toNat : Int))) fun s55 => Option.bind (idx s22.1 (k14 : Int)) fun x63 => Option.bind (setI s22.1 (k14 : Int) (toU32 (IntKind.wrap .u64 (s55.2 - s42)))) fun x68 => some (.nx (x68, s55.1))) a_.length 0 (x5, 0)) fun o11 => o11.andThen (fun y => some y) fun s12 =>
  Option.bind (portref2_whole_trim s12.1) fun x80 =>
  some x80

/-- porterslodge portref2 ratio minus -/
noncomputable def portref2_ratio_minus (a_ : portref2_ratio) (b : portref2_ratio) : Option portref2_ratio :=
  Option.bind (portref2_whole_times a_.num b.den) fun x54 =>
  Option.bind (portref2_whole_times b.num a_.den) fun x60 =>
  Option.bind (portref2_whole_minus x54 x60) fun x66 =>
  Option.bind (portref2_whole_times a_.den b.den) fun x72 =>
  Option.bind (portref2_lowest x66 x72) fun x78 =>
  some x78

/-- porterslodge portref2 ratio times -/
noncomputable def portref2_ratio_times (a_ : portref2_ratio) (b : portref2_ratio) : Option portref2_ratio :=
  Option.bind (portref2_whole_times a_.num b.num) fun x46 =>
  Option.bind (portref2_whole_times a_.den b.den) fun x52 =>
  Option.bind (portref2_lowest x46 x52) fun x58 =>
  some x58

/-- porterslodge portref2 ratio by -/
noncomputable def portref2_ratio_by (a_ : portref2_ratio) (b : portref2_ratio) : Option portref2_ratio :=
  Option.bind (portref2_whole_times a_.num b.den) fun x46 =>
  Option.bind (portref2_whole_times a_.den b.num) fun x52 =>
  Option.bind (portref2_lowest x46 x52) fun x58 =>
  some x58

/-- porterslodge portref2 waits -/
noncomputable def portref2_waits (l : staff_Load) (n : Int) : Option portref2_ratio :=
  Option.bind (portref2_offered l) fun x14 =>
  if (l.calls == 0) = true then
    Option.bind (portref2_rat 0 1) fun x38 =>
    some x38
  else
    Option.bind (portref2_rat n 1) fun x63 =>
    Option.bind (portref2_ratio_cmp x63 x14) fun x71 =>
    if (decide (x71 ≤ 0)) = true then
      Option.bind (portref2_rat 1 1) fun x76 =>
      some x76
    else
      Option.bind (portref2_blocked l n) fun x94 =>
      Option.bind (portref2_rat 1 1) fun x234 =>
      Option.bind (portref2_ratio_minus x234 x94) fun x339 =>
      Option.bind (portref2_ratio_times x339 x14) fun x436 =>
      Option.bind (portref2_rat n 1) fun x525 =>
      Option.bind (portref2_ratio_by x436 x525) fun x606 =>
      Option.bind (portref2_rat 1 1) fun x646 =>
      Option.bind (portref2_ratio_minus x646 x606) fun x654 =>
      Option.bind (portref2_ratio_by x94 x654) fun x662 =>
      some x662

/-- porterslodge portref2 meanWait -/
noncomputable def portref2_meanWait (l : staff_Load) (n : Int) : Option (portref2_ratio × Bool) :=
  if (l.calls == 0) = true then
    Option.bind (portref2_rat 0 1) fun x15 =>
    some (x15, true)
  else
    Option.bind (portref2_rat n 1) fun x37 =>
    Option.bind (portref2_offered l) fun x45 =>
    Option.bind (portref2_ratio_cmp x37 x45) fun x53 =>
    if (decide (x53 ≤ 0)) = true then
      some ((⟨([] : (List UInt32)), ([] : (List UInt32))⟩ : portref2_ratio), false)
    else
      Option.bind (portref2_waits l n) fun x67 =>
      Option.bind (portref2_rat l.length 1) fun x75 =>
      Option.bind (portref2_ratio_times x67 x75) fun x83 =>
      Option.bind (portref2_rat n 1) fun x91 =>
      Option.bind (portref2_offered l) fun x99 =>
      Option.bind (portref2_ratio_minus x91 x99) fun x107 =>
      Option.bind (portref2_ratio_by x83 x107) fun x115 =>
      some (x115, true)

/-- porterslodge portref2 keeps -/
noncomputable def portref2_keeps (l : staff_Load) (p : staff_Promise) (n : Int) : Option Bool :=
  Option.bind (portref2_meanWait l n) fun x15 =>
  Option.bind (if x15.2 = true then (Option.bind (portref2_waits l n) fun x52 => Option.bind (portref2_rat p.share p.of) fun x60 => Option.bind (portref2_ratio_cmp x52 x60) fun x68 => if (decide (x68 ≤ 0)) = true then (Option.bind (portref2_rat p.wait p.parts) fun x80 => Option.bind (portref2_ratio_cmp x15.1 x80) fun x88 => some (decide (x88 ≤ 0))) else (some false)) else (if false = true then (Option.bind (portref2_rat p.wait p.parts) fun x102 => Option.bind (portref2_ratio_cmp x15.1 x102) fun x110 => some (decide (x110 ≤ 0))) else (some false))) fun s38 =>
  some s38

/-- porterslodge portref2 least -/
noncomputable def portref2_least (l : staff_Load) (p : staff_Promise) : Option Int :=
  Option.bind (whileB (fun s23 => if (decide (s23 < 61)) = true then Option.bind (portref2_keeps l p s23) fun x37 => if x37 = true then some (.rt s23) else some (.nx (w64 (s23 + 1))) else some (.bk s23)) 0) fun o14 => o14.andThen (fun y => some y) fun s15 =>
  some (-1)

/-- porterslodge portref2 DemandOf -/
noncomputable def portref2_DemandOf (l : (List staff_Load)) (p : staff_Promise) : Option ((List Int) × Int) :=
  if (decide ((400 : Int) < (l.length : Int))) = true then
    some (([] : (List Int)), 4)
  else
    Option.bind (rangeB (fun k13 _ => Option.bind (idx l (k13 : Int)) fun x32 => Option.bind (portref2_LoadFault x32) fun x46 => if (x46 != 0) = true then some (.rt (([] : (List Int)), x46)) else some (.nx ())) l.length 0 ()) fun o10 => o10.andThen (fun y => some y) fun s11 =>
    Option.bind (portref2_PromiseFault p) fun x55 =>
    if (x55 != 0) = true then
      some (([] : (List Int)), x55)
    else
      Option.bind (rangeB (fun k63 s72 => Option.bind (idx l (k63 : Int)) fun x87 => Option.bind (portref2_least x87 p) fun x102 => if (decide (x102 < 0)) = true then some (.rt (([] : (List Int)), 7)) else Option.bind (appendL 17592186044416 s72 ([x102] : List Int)) fun x112 => some (.nx x112)) l.length 0 ([] : (List Int))) fun o60 => o60.andThen (fun y => some y) fun s61 =>
      some (s61, 0)

/-- slices Equal int int -/
def slices_Equal_Lint_int (s1 : (List Int)) (s2 : (List Int)) : Option Bool :=
  if ((s1.length : Int) != (s2.length : Int)) = true then
    some false
  else
    Option.bind (rangeB (fun k9 _ => Option.bind (idx s1 (k9 : Int)) fun x29 => Option.bind (idx s2 (k9 : Int)) fun x33 => if (x29 != x33) = true then some (.rt false) else some (.nx ())) s1.length 0 ()) fun o6 => o6.andThen (fun y => some y) fun s7 =>
    some true

/-- porterslodge portlaw2 StaffDemands -/
noncomputable def portlaw2_StaffDemands (l : (List staff_Load)) (p : staff_Promise) : Option Bool :=
  Option.bind (staff_Demand l p) fun x10 =>
  Option.bind (portref2_DemandOf l p) fun x19 =>
  Option.bind (if (x10.2 == x19.2) = true then (Option.bind (slices_Equal_Lint_int x10.1 x19.1) fun x36 => some x36) else (some false)) fun s28 =>
  some s28

end Go.Proofs.Ytjjdbhfigpmciaa.M
