/-
  Written by program (gen.py) from the IR of the dump: plain models of the functions.
-/
import Derived.Test.YtbmbgmeggeemcaaDoorPv
import Derived.Lib.ItoaNum
namespace Go.Proofs.YtbmbgmeggeemcaaDoor.M
open Go Go.Pu
set_option linter.unusedVariables false
set_option linter.unusedSimpArgs false

structure staff_Load where
  calls : Int
  length : Int
  span : Int

structure staff_Ratio where
  num : ByteArray
  den : ByteArray

structure staff_ratio where
  num : (List Int)
  den : (List Int)

structure portref2_ratio where
  num : (List UInt32)
  den : (List UInt32)

/-- porterslodge staff within -/
def staff_within (n : Int) (low : Int) (high : Int) : Bool :=
  ((decide (low ≤ n)) && (decide (n ≤ high)))

/-- porterslodge staff checkLoad -/
def staff_checkLoad (l : staff_Load) : Option Int :=
  if (((!(staff_within l.calls 0 100000)) || (!(staff_within l.length 1 1440))) || (!(staff_within l.span 1 10080))) = true then
    some 2
  else
    some 0

/-- porterslodge staff Load offered -/
def staff_Load_offered (l : staff_Load) : Option (Int × Int) :=
  some (w64 (l.calls * l.length), l.span)

/-- porterslodge staff natOf -/
noncomputable def staff_natOf (n : Int) : Option (List Int) :=
  Option.bind (whileB (fun s12 => if (decide ((0 : Int) < s12.1)) = true then Option.bind (appendL 17592186044416 s12.2 ([Int.tmod s12.1 1000000000] : List Int)) fun x32 => some (.nx (w64 (Int.tdiv s12.1 1000000000), x32)) else some (.bk (s12.1, s12.2))) (n, ([] : (List Int)))) fun o1 => o1.andThen (fun y => some y) fun s2 =>
  some s2.2

/-- porterslodge staff nat compare -/
noncomputable def staff_nat_compare (a_ : (List Int)) (b : (List Int)) : Option Int :=
  if ((a_.length : Int) != (b.length : Int)) = true then
    if (decide ((a_.length : Int) < (b.length : Int))) = true then
      some (-1)
    else
      some 1
  else
    Option.bind (whileB (fun s16 => if (decide ((0 : Int) ≤ s16)) = true then Option.bind (idx a_ s16) fun x28 => Option.bind (idx b s16) fun x32 => if (x28 != x32) = true then if (decide (x28 < x32)) = true then some (.rt (-1)) else some (.rt 1) else some (.nx (w64 (s16 - 1))) else some (.bk s16)) (w64 ((a_.length : Int) - 1))) fun o7 => o7.andThen (fun y => some y) fun s8 =>
    some 0

/-- porterslodge staff nat trimmed -/
noncomputable def staff_nat_trimmed (a_ : (List Int)) : Option (List Int) :=
  Option.bind (whileB (fun s12 => Option.bind (if (decide ((0 : Int) < (s12.length : Int))) = true then (Option.bind (idx s12 (w64 ((s12.length : Int) - 1))) fun x25 => some (x25 == 0)) else (some false)) fun s24 => if s24 = true then Option.bind (sliceL s12 none (some (w64 ((s12.length : Int) - 1)))) fun x30 => some (.nx x30) else some (.bk s12)) a_) fun o3 => o3.andThen (fun y => some y) fun s4 =>
  some s4

/-- porterslodge staff nat part -/
noncomputable def staff_nat_part (a_ : (List Int)) (n : Int) : Option ((List Int) × Int) :=
  Option.bind (makeL 35184372088832 (a_.length : Int) (0 : Int)) fun x3 =>
  Option.bind (whileB (fun s20 => if (decide ((0 : Int) ≤ s20.2.2)) = true then Option.bind (idx a_ s20.2.2) fun x34 => Option.bind (quo (w64 ((w64 (s20.2.1 * 1000000000)) + x34)) n) fun x41 => Option.bind (rem (w64 ((w64 (s20.2.1 * 1000000000)) + x34)) n) fun x42 => Option.bind (idx s20.1 s20.2.2) fun x43 => Option.bind (setI s20.1 s20.2.2 x41) fun x48 => some (.nx (x48, x42, w64 (s20.2.2 - 1))) else some (.bk (s20.1, s20.2.1, s20.2.2))) (x3, 0, w64 ((a_.length : Int) - 1))) fun o9 => o9.andThen (fun y => some y) fun s10 =>
  Option.bind (staff_nat_trimmed s10.1) fun x60 =>
  some (x60, s10.2.1)

/-- porterslodge staff nat small -/
noncomputable def staff_nat_small (a_ : (List Int)) (n : Int) : Option (List Int) :=
  Option.bind (makeL 35184372088832 (w64 ((a_.length : Int) + 1)) (0 : Int)) fun x3 =>
  Option.bind (rangeB (fun k12 s20 => Option.bind (idx a_ (k12 : Int)) fun x35 => Option.bind (idx s20.1 (k12 : Int)) fun x39 => Option.bind (setI s20.1 (k12 : Int) (Int.tmod (w64 ((w64 (x35 * n)) + s20.2)) 1000000000)) fun x44 => some (.nx (x44, w64 (Int.tdiv (w64 ((w64 (x35 * n)) + s20.2)) 1000000000)))) a_.length 0 (x3, 0)) fun o9 => o9.andThen (fun y => some y) fun s10 =>
  Option.bind (idx s10.1 (a_.length : Int)) fun x51 =>
  Option.bind (setI s10.1 (a_.length : Int) s10.2) fun x56 =>
  Option.bind (staff_nat_trimmed x56) fun x65 =>
  some x65

/-- porterslodge staff takeAway -/
def staff_takeAway (r_ : List Int) (d : (List Int)) (times : Int) : Option (Bool × (List Int)) :=
  Option.bind (rangeB (fun k6 s14 => Option.bind (idx s14.1 (k6 : Int)) fun x29 => Option.bind (idx d (k6 : Int)) fun x34 => Option.bind (if (decide ((w64 ((w64 (x29 - (Int.tmod (w64 (x34 * times)) 1000000000))) - s14.2)) < 0)) = true then Option.bind (if (decide ((w64 ((w64 ((w64 (x29 - (Int.tmod (w64 (x34 * times)) 1000000000))) - s14.2)) + 1000000000)) < 0)) = true then some (w64 ((w64 ((w64 (Int.tdiv (w64 (x34 * times)) 1000000000)) + 1)) + 1), w64 ((w64 ((w64 ((w64 (x29 - (Int.tmod (w64 (x34 * times)) 1000000000))) - s14.2)) + 1000000000)) + 1000000000)) else some (w64 ((w64 (Int.tdiv (w64 (x34 * times)) 1000000000)) + 1), w64 ((w64 ((w64 (x29 - (Int.tmod (w64 (x34 * times)) 1000000000))) - s14.2)) + 1000000000))) fun s52 => some (s52.1, s52.2) else some (w64 (Int.tdiv (w64 (x34 * times)) 1000000000), w64 ((w64 (x29 - (Int.tmod (w64 (x34 * times)) 1000000000))) - s14.2))) fun s45 => Option.bind (setI s14.1 (k6 : Int) s45.2) fun x66 => some (.nx (x66, s45.1))) d.length 0 (r_, 0)) fun o3 => o3.andThen (fun y => some y) fun s4 =>
  Option.bind (idx s4.1 (d.length : Int)) fun x73 =>
  Option.bind (setI s4.1 (d.length : Int) (w64 (x73 - s4.2))) fun x82 =>
  Option.bind (idx x82 (d.length : Int)) fun x86 =>
  some (decide (x86 < 0), x82)

/-- porterslodge staff putBack -/
def staff_putBack (r_ : List Int) (d : (List Int)) : Option (List Int) :=
  Option.bind (rangeB (fun k6 s14 => Option.bind (idx s14.1 (k6 : Int)) fun x29 => Option.bind (idx d (k6 : Int)) fun x34 => Option.bind (setI s14.1 (k6 : Int) (Int.tmod (w64 ((w64 (x29 + x34)) + s14.2)) 1000000000)) fun x45 => some (.nx (x45, w64 (Int.tdiv (w64 ((w64 (x29 + x34)) + s14.2)) 1000000000)))) d.length 0 (r_, 0)) fun o3 => o3.andThen (fun y => some y) fun s4 =>
  Option.bind (idx s4.1 (d.length : Int)) fun x52 =>
  Option.bind (setI s4.1 (d.length : Int) (w64 (x52 + s4.2))) fun x61 =>
  some x61

/-- porterslodge staff nat by -/
noncomputable def staff_nat_by (a_ : (List Int)) (b : (List Int)) : Option ((List Int) × (List Int)) :=
  Option.bind (staff_nat_compare a_ b) fun x5 =>
  if (decide (x5 < 0)) = true then
    some (([] : (List Int)), a_)
  else
    if ((b.length : Int) == 1) = true then
      Option.bind (idx b 0) fun x11 =>
      Option.bind (staff_nat_part a_ x11) fun x15 =>
      Option.bind (staff_natOf x15.2) fun x21 =>
      some (x15.1, x21)
    else
      Option.bind (idx b (w64 ((b.length : Int) - 1))) fun x34 =>
      Option.bind (quo 1000000000 (w64 (x34 + 1))) fun x38 =>
      Option.bind (staff_nat_small b x38) fun x39 =>
      Option.bind (makeL 35184372088832 (w64 ((a_.length : Int) + 1)) (0 : Int)) fun x45 =>
      Option.bind (staff_nat_small a_ x38) fun x51 =>
      Option.bind (makeL 35184372088832 (w64 ((w64 ((a_.length : Int) - (x39.length : Int))) + 1)) (0 : Int)) fun x60 =>
      Option.bind (whileB (fun s79 => if (decide (s79.2.2 < (x60.length : Int))) = true then Option.bind (idx s79.1 (w64 ((w64 ((w64 ((s79.2.1.length : Int) - 1)) - s79.2.2)) + (x39.length : Int)))) fun x95 => Option.bind (idx s79.1 (w64 ((w64 ((w64 ((w64 ((s79.2.1.length : Int) - 1)) - s79.2.2)) + (x39.length : Int))) - 1))) fun x100 => Option.bind (idx x39 (w64 ((x39.length : Int) - 1))) fun x108 => Option.bind (quo (w64 ((w64 (x95 * 1000000000)) + x100)) x108) fun x112 => Option.bind (rem (w64 ((w64 (x95 * 1000000000)) + x100)) x108) fun x116 => Option.bind (whileB (fun s129 => Option.bind (if (decide ((1000000000 : Int) ≤ s129.1)) = true then (some true) else (Option.bind (if (decide (s129.2 < 1000000000)) = true then (Option.bind (idx x39 (w64 ((x39.length : Int) - 2))) fun x144 => Option.bind (idx s79.1 (w64 ((w64 ((w64 ((w64 ((s79.2.1.length : Int) - 1)) - s79.2.2)) + (x39.length : Int))) - 2))) fun x148 => some (decide ((w64 ((w64 (s129.2 * 1000000000)) + x148)) < (w64 (s129.1 * x144))))) else (some false)) fun s143 => some s143)) fun s141 => if s141 = true then some (.nx (w64 (s129.1 - 1), w64 (s129.2 + x108))) else some (.bk (s129.1, s129.2))) (x112, x116)) fun o120 => o120.andThen (fun y => some (.rt y)) fun s121 => Option.bind (winL s79.1 (w64 ((w64 ((s79.2.1.length : Int) - 1)) - s79.2.2)) (w64 ((w64 ((w64 ((w64 ((s79.2.1.length : Int) - 1)) - s79.2.2)) + (x39.length : Int))) + 1))) fun x163 => Option.bind (staff_takeAway x163 x39 s121.1) fun x169 => Option.bind (if x169.1 = true then Option.bind (winL (winS s79.1 (w64 ((w64 ((s79.2.1.length : Int) - 1)) - s79.2.2)) (w64 ((w64 ((w64 ((w64 ((s79.2.1.length : Int) - 1)) - s79.2.2)) + (x39.length : Int))) + 1)) x169.2) (w64 ((w64 ((s79.2.1.length : Int) - 1)) - s79.2.2)) (w64 ((w64 ((w64 ((w64 ((s79.2.1.length : Int) - 1)) - s79.2.2)) + (x39.length : Int))) + 1))) fun x186 => Option.bind (staff_putBack x186 x39) fun x192 => some ((winS (winS s79.1 (w64 ((w64 ((s79.2.1.length : Int) - 1)) - s79.2.2)) (w64 ((w64 ((w64 ((w64 ((s79.2.1.length : Int) - 1)) - s79.2.2)) + (x39.length : Int))) + 1)) x169.2) (w64 ((w64 ((s79.2.1.length : Int) - 1)) - s79.2.2)) (w64 ((w64 ((w64 ((w64 ((s79.2.1.length : Int) - 1)) - s79.2.2)) + (x39.length : Int))) + 1)) x192), w64 (s121.1 - 1)) else some ((winS s79.1 (w64 ((w64 ((s79.2.1.length : Int) - 1)) - s79.2.2)) (w64 ((w64 ((w64 ((w64 ((s79.2.1.length : Int) - 1)) - s79.2.2)) + (x39.length : Int))) + 1)) x169.2), s121.1)) fun s176 => Option.bind (idx s79.2.1 (w64 ((w64 ((s79.2.1.length : Int) - 1)) - s79.2.2))) fun x200 => Option.bind (setI s79.2.1 (w64 ((w64 ((s79.2.1.length : Int) - 1)) - s79.2.2)) s176.2) fun x205 => some (.nx (s176.1, x205, w64 (s79.2.2 + 1))) else some (.bk (s79.1, s79.2.1, s79.2.2))) ((copyL x45 x51), x60, 0)) fun o66 => o66.andThen (fun y => some y) fun s67 =>
      Option.bind (staff_nat_trimmed s67.1) fun x217 =>
      Option.bind (staff_nat_part x217 x38) fun x220 =>
      Option.bind (staff_nat_trimmed s67.2.1) fun x231 =>
      some (x231, x220.1)

/-- porterslodge staff divisor -/
noncomputable def staff_divisor (a_ : (List Int)) (b : (List Int)) : Option (List Int) :=
  Option.bind (whileB (fun s18 => if (decide ((0 : Int) < (s18.2.length : Int))) = true then Option.bind (staff_nat_by s18.1 s18.2) fun x34 => some (.nx (s18.2, x34.2)) else some (.bk (s18.1, s18.2))) (a_, b)) fun o5 => o5.andThen (fun y => some y) fun s6 =>
  some s6.1

/-- porterslodge staff lowest -/
noncomputable def staff_lowest (num : (List Int)) (den : (List Int)) : Option staff_ratio :=
  Option.bind (staff_divisor num den) fun x10 =>
  Option.bind (staff_nat_by num x10) fun x16 =>
  Option.bind (staff_nat_by den x10) fun x24 =>
  some (⟨x16.1, x24.1⟩ : staff_ratio)

/-- strconv.Itoa -/
def strconv_Itoa (n : Int) : Option ByteArray :=
  if -9223372036854775808 ≤ n ∧ n ≤ 9223372036854775807 then some ⟨(Go.Lib.itoa n).toArray⟩ else none

/-- (*strings.Builder).WriteString -/
def strings_Builder_WriteString (b : ByteArray) (s : ByteArray) : Option (Int × Unit × ByteArray) :=
  if b.size + s.size ≤ 140737488355328 then some (s.size, (), b ++ s) else none

/-- (*strings.Builder).String -/
def strings_Builder_String (b : ByteArray) : Option ByteArray := some b

/-- porterslodge staff nat text -/
noncomputable def staff_nat_text (a_ : (List Int)) : Option ByteArray :=
  if ((a_.length : Int) == 0) = true then
    some (⟨#[48]⟩ : ByteArray)
  else
    Option.bind (idx a_ (w64 ((a_.length : Int) - 1))) fun x9 =>
    Option.bind (strconv_Itoa x9) fun x13 =>
    Option.bind (strings_Builder_WriteString ByteArray.empty x13) fun x17 =>
    Option.bind (whileB (fun s31 => if (decide ((0 : Int) ≤ s31.1)) = true then Option.bind (idx a_ s31.1) fun x44 => Option.bind (strconv_Itoa (w64 (1000000000 + x44))) fun x48 => Option.bind (sliceS x48 (some 1) none) fun x52 => Option.bind (strings_Builder_WriteString s31.2 x52) fun x53 => some (.nx (w64 (s31.1 - 1), x53.2.2)) else some (.bk (s31.1, s31.2))) (w64 ((a_.length : Int) - 2), x17.2.2)) fun o22 => o22.andThen (fun y => some y) fun s23 =>
    Option.bind (strings_Builder_String s23.2) fun x61 =>
    some x61

/-- porterslodge staff ratio written -/
noncomputable def staff_ratio_written (r_ : staff_ratio) : Option staff_Ratio :=
  Option.bind (staff_nat_text r_.num) fun x20 =>
  Option.bind (staff_nat_text r_.den) fun x25 =>
  some (⟨x20, x25⟩ : staff_Ratio)

/-- porterslodge staff RatioOf -/
noncomputable def staff_RatioOf (num : Int) (den : Int) : Option (staff_Ratio × Int) :=
  if ((decide (num < 0)) || (decide (den < 1))) = true then
    some ((⟨ByteArray.empty, ByteArray.empty⟩ : staff_Ratio), 2)
  else
    Option.bind (staff_natOf num) fun x12 =>
    Option.bind (staff_natOf den) fun x20 =>
    Option.bind (staff_lowest x12 x20) fun x38 =>
    Option.bind (staff_ratio_written x38) fun x46 =>
    some (x46, 0)

/-- porterslodge staff Offered -/
noncomputable def staff_Offered (l : staff_Load) : Option (staff_Ratio × Int) :=
  Option.bind (staff_checkLoad l) fun x14 =>
  if (x14 != 0) = true then
    some ((⟨ByteArray.empty, ByteArray.empty⟩ : staff_Ratio), x14)
  else
    Option.bind (staff_Load_offered l) fun x23 =>
    Option.bind (staff_RatioOf x23.1 x23.2) fun x27 =>
    some (x27.1, x27.2)

/-- porterslodge portref2 LoadFault -/
def portref2_LoadFault (l : staff_Load) : Option Int :=
  if ((((((decide (l.calls < 0)) || (decide ((100000 : Int) < l.calls))) || (decide (l.length < 1))) || (decide ((1440 : Int) < l.length))) || (decide (l.span < 1))) || (decide ((10080 : Int) < l.span))) = true then
    some 2
  else
    some 0

/-- porterslodge portref2 loadFault -/
def portref2_loadFault (l : staff_Load) (n : Int) : Option Int :=
  Option.bind (portref2_LoadFault l) fun x8 =>
  if (x8 != 0) = true then
    some x8
  else
    if ((decide (n < 0)) || (decide ((60 : Int) < n))) = true then
      some 2
    else
      some 0

/-- porterslodge portref2 whole trim -/
noncomputable def portref2_whole_trim (a_ : (List UInt32)) : Option (List UInt32) :=
  Option.bind (whileB (fun s12 => Option.bind (if (decide ((0 : Int) < (s12.length : Int))) = true then (Option.bind (idx s12 (w64 ((s12.length : Int) - 1))) fun x27 => some ((x27.toNat : Int) == 0)) else (some false)) fun s26 => if s26 = true then Option.bind (sliceL s12 none (some (w64 ((s12.length : Int) - 1)))) fun x33 => some (.nx x33) else some (.bk s12)) a_) fun o1 => o1.andThen (fun y => some y) fun s2 =>
  some s2

/-- porterslodge portref2 wholeOf -/
noncomputable def portref2_wholeOf (n : Int) : Option (List UInt32) :=
  Option.bind (shr .i64 n 32) fun x1 =>
  Option.bind (portref2_whole_trim ([(toU32 n), (toU32 x1)] : List UInt32)) fun x11 =>
  some x11

/-- porterslodge portref2 whole cmp -/
noncomputable def portref2_whole_cmp (a_ : (List UInt32)) (b : (List UInt32)) : Option Int :=
  if ((a_.length : Int) != (b.length : Int)) = true then
    if (decide ((a_.length : Int) < (b.length : Int))) = true then
      some (-1)
    else
      some 1
  else
    Option.bind (whileB (fun s16 => if (decide ((0 : Int) ≤ s16)) = true then Option.bind (idx a_ s16) fun x28 => Option.bind (idx b s16) fun x32 => if ((x28.toNat : Int) != (x32.toNat : Int)) = true then if (decide ((x28.toNat : Int) < (x32.toNat : Int))) = true then some (.rt (-1)) else some (.rt 1) else some (.nx (w64 (s16 - 1))) else some (.bk s16)) (w64 ((a_.length : Int) - 1))) fun o7 => o7.andThen (fun y => some y) fun s8 =>
    some 0

/-- math bits Len32 -/
def math_bits_Len32 (x : Int) : Option Int :=
  Option.bind (if (decide ((65536 : Int) ≤ x)) = true then Option.bind (shr .u32 x 16) fun x8 => some (x8, 16) else some (x, 0)) fun s2 =>
  Option.bind (if (decide ((256 : Int) ≤ s2.1)) = true then Option.bind (shr .u32 s2.1 8) fun x18 => some (x18, w64 (s2.2 + 8)) else some (s2.1, s2.2)) fun s12 =>
  Option.bind (idxS (⟨#[0, 1, 2, 2, 3, 3, 3, 3, 4, 4, 4, 4, 4, 4, 4, 4, 5, 5, 5, 5, 5, 5, 5, 5, 5, 5, 5, 5, 5, 5, 5, 5, 6, 6, 6, 6, 6, 6, 6, 6, 6, 6, 6, 6, 6, 6, 6, 6, 6, 6, 6, 6, 6, 6, 6, 6, 6, 6, 6, 6, 6, 6, 6, 6, 7, 7, 7, 7, 7, 7, 7, 7, 7, 7, 7, 7, 7, 7, 7, 7, 7, 7, 7, 7, 7, 7, 7, 7, 7, 7, 7, 7, 7, 7, 7, 7, 7, 7, 7, 7, 7, 7, 7, 7, 7, 7, 7, 7, 7, 7, 7, 7, 7, 7, 7, 7, 7, 7, 7, 7, 7, 7, 7, 7, 7, 7, 7, 7, 8, 8, 8, 8, 8, 8, 8, 8, 8, 8, 8, 8, 8, 8, 8, 8, 8, 8, 8, 8, 8, 8, 8, 8, 8, 8, 8, 8, 8, 8, 8, 8, 8, 8, 8, 8, 8, 8, 8, 8, 8, 8, 8, 8, 8, 8, 8, 8, 8, 8, 8, 8, 8, 8, 8, 8, 8, 8, 8, 8, 8, 8, 8, 8, 8, 8, 8, 8, 8, 8, 8, 8, 8, 8, 8, 8, 8, 8, 8, 8, 8, 8, 8, 8, 8, 8, 8, 8, 8, 8, 8, 8, 8, 8, 8, 8, 8, 8, 8, 8, 8, 8, 8, 8, 8, 8, 8, 8, 8, 8, 8, 8, 8, 8, 8, 8, 8, 8, 8, 8, 8, 8, 8, 8, 8, 8, 8, 8]⟩ : ByteArray) ((toU8 s12.1).toNat : Int)) fun x21 =>
  some (w64 (s12.2 + (IntKind.wrap .i64 (x21.toNat : Int))))

/-- math bits LeadingZeros32 -/
def math_bits_LeadingZeros32 (x : Int) : Option Int :=
  Option.bind (math_bits_Len32 x) fun x1 =>
  some (w64 (32 - x1))

/-- porterslodge portref2 whole up -/
def portref2_whole_up (a_ : (List UInt32)) (shift : Int) : Option (List UInt32) :=
  Option.bind (makeL 70368744177664 (w64 ((a_.length : Int) + 1)) (0 : UInt32)) fun x3 =>
  Option.bind (rangeB (fun k12 s20 => Option.bind (idx a_ (k12 : Int)) fun x35 => Option.bind (shl .u64 (IntKind.wrap .u64 (x35.toNat : Int)) shift) fun x39 => Option.bind (idx s20 (k12 : Int)) fun x40 => Option.bind (setI s20 (k12 : Int) (toU32 (bitsI .or .u32 (x40.toNat : Int) ((toU32 x39).toNat : Int)))) fun x49 => Option.bind (shr .u64 x39 32) fun x53 => Option.bind (idx x49 (w64 ((k12 : Int) + 1))) fun x54 => Option.bind (setI x49 (w64 ((k12 : Int) + 1)) (toU32 x53)) fun x59 => some (.nx x59)) a_.length 0 x3) fun o9 => o9.andThen (fun y => some y) fun s10 =>
  some s10

/-- porterslodge portref2 whole by -/
noncomputable def portref2_whole_by (a_ : (List UInt32)) (b : (List UInt32)) : Option ((List UInt32) × (List UInt32)) :=
  Option.bind (portref2_whole_cmp a_ b) fun x5 =>
  if (decide (x5 < 0)) = true then
    Option.bind (appendL 35184372088832 ([] : (List UInt32)) a_) fun x10 =>
    some (([] : (List UInt32)), x10)
  else
    if ((b.length : Int) == 1) = true then
      Option.bind (makeL 70368744177664 (a_.length : Int) (0 : UInt32)) fun x17 =>
      Option.bind (whileB (fun s34 => if (decide ((0 : Int) ≤ s34.2.2)) = true then Option.bind (shl .u64 s34.2.1 32) fun x48 => Option.bind (idx a_ s34.2.2) fun x49 => Option.bind (idx b 0) fun x53 => Option.bind (quoK .u64 (bitsI .or .u64 x48 (IntKind.wrap .u64 (x49.toNat : Int))) (IntKind.wrap .u64 (x53.toNat : Int))) fun x57 => Option.bind (idx s34.1 s34.2.2) fun x58 => Option.bind (setI s34.1 s34.2.2 (toU32 x57)) fun x63 => Option.bind (remK .u64 (bitsI .or .u64 x48 (IntKind.wrap .u64 (x49.toNat : Int))) (IntKind.wrap .u64 (x53.toNat : Int))) fun x71 => some (.nx (x63, x71, w64 (s34.2.2 - 1))) else some (.bk (s34.1, s34.2.1, s34.2.2))) (x17, 0, w64 ((a_.length : Int) - 1))) fun o23 => o23.andThen (fun y => some y) fun s24 =>
      Option.bind (portref2_whole_trim s24.1) fun x75 =>
      Option.bind (portref2_whole_trim ([(toU32 s24.2.1)] : List UInt32)) fun x90 =>
      some (x75, x90)
    else
      Option.bind (idx b (w64 ((b.length : Int) - 1))) fun x97 =>
      Option.bind (math_bits_LeadingZeros32 (x97.toNat : Int)) fun x101 =>
      Option.bind (portref2_whole_up a_ (IntKind.wrap .u64 x101)) fun x102 =>
      Option.bind (portref2_whole_up b (IntKind.wrap .u64 x101)) fun x110 =>
      Option.bind (makeL 70368744177664 (w64 ((w64 ((a_.length : Int) - (b.length : Int))) + 1)) (0 : UInt32)) fun x118 =>
      Option.bind (whileB (fun s137 => if (decide ((0 : Int) ≤ s137.2.2)) = true then Option.bind (idx s137.1 (w64 (s137.2.2 + (b.length : Int)))) fun x153 => Option.bind (shl .u64 (IntKind.wrap .u64 (x153.toNat : Int)) 32) fun x158 => Option.bind (idx s137.1 (w64 ((w64 (s137.2.2 + (b.length : Int))) - 1))) fun x159 => Option.bind (idx x110 (w64 ((b.length : Int) - 1))) fun x167 => Option.bind (quoK .u64 (bitsI .or .u64 x158 (IntKind.wrap .u64 (x159.toNat : Int))) (IntKind.wrap .u64 (x167.toNat : Int))) fun x172 => Option.bind (remK .u64 (bitsI .or .u64 x158 (IntKind.wrap .u64 (x159.toNat : Int))) (IntKind.wrap .u64 (x167.toNat : Int))) fun x177 => Option.bind (whileB (fun s190 => Option.bind (if (decide ((4294967296 : Int) ≤ s190.1)) = true then (some true) else (Option.bind (idx x110 (w64 ((b.length : Int) - 2))) fun x203 => Option.bind (shl .u64 s190.2 32) fun x208 => Option.bind (idx s137.1 (w64 ((w64 (s137.2.2 + (b.length : Int))) - 2))) fun x209 => some (decide ((bitsI .or .u64 x208 (IntKind.wrap .u64 (x209.toNat : Int))) < (IntKind.wrap .u64 (s190.1 * (IntKind.wrap .u64 (x203.toNat : Int)))))))) fun s202 => if s202 = true then if (decide ((4294967296 : Int) ≤ (IntKind.wrap .u64 (s190.2 + (IntKind.wrap .u64 (x167.toNat : Int)))))) = true then some (.bk (IntKind.wrap .u64 (s190.1 - 1), IntKind.wrap .u64 (s190.2 + (IntKind.wrap .u64 (x167.toNat : Int))))) else some (.nx (IntKind.wrap .u64 (s190.1 - 1), IntKind.wrap .u64 (s190.2 + (IntKind.wrap .u64 (x167.toNat : Int))))) else some (.bk (s190.1, s190.2))) (x172, x177)) fun o181 => o181.andThen (fun y => some (.rt y)) fun s182 => Option.bind (whileB (fun s238 => if (decide (s238.2.2 < (b.length : Int))) = true then Option.bind (idx x110 s238.2.2) fun x252 => Option.bind (idx s238.1 (w64 (s238.2.2 + s137.2.2))) fun x257 => Option.bind (setI s238.1 (w64 (s238.2.2 + s137.2.2)) (toU32 (w64 ((w64 ((IntKind.wrap .i64 (x257.toNat : Int)) - s238.2.1)) - (IntKind.wrap .i64 (bitsI .and .u64 (IntKind.wrap .u64 (s182.1 * (IntKind.wrap .u64 (x252.toNat : Int)))) 4294967295)))))) fun x266 => Option.bind (shr .u64 (IntKind.wrap .u64 (s182.1 * (IntKind.wrap .u64 (x252.toNat : Int)))) 32) fun x270 => Option.bind (shr .i64 (w64 ((w64 ((IntKind.wrap .i64 (x257.toNat : Int)) - s238.2.1)) - (IntKind.wrap .i64 (bitsI .and .u64 (IntKind.wrap .u64 (s182.1 * (IntKind.wrap .u64 (x252.toNat : Int)))) 4294967295)))) 32) fun x271 => some (.nx (x266, w64 ((IntKind.wrap .i64 x270) - x271), w64 (s238.2.2 + 1))) else some (.bk (s238.1, s238.2.1, s238.2.2))) (s137.1, 0, 0)) fun o227 => o227.andThen (fun y => some (.rt y)) fun s228 => Option.bind (idx s228.1 (w64 (s137.2.2 + (b.length : Int)))) fun x275 => Option.bind (setI s228.1 (w64 (s137.2.2 + (b.length : Int))) (toU32 (w64 ((IntKind.wrap .i64 (x275.toNat : Int)) - s228.2.1)))) fun x284 => Option.bind (if (decide ((w64 ((IntKind.wrap .i64 (x275.toNat : Int)) - s228.2.1)) < 0)) = true then Option.bind (whileB (R := Empty) (fun s310 => if (decide (s310.2.2 < (b.length : Int))) = true then Option.bind (idx s310.1 (w64 (s310.2.2 + s137.2.2))) fun x324 => Option.bind (idx x110 s310.2.2) fun x329 => Option.bind (setI s310.1 (w64 (s310.2.2 + s137.2.2)) (toU32 (IntKind.wrap .u64 (s310.2.1 + (IntKind.wrap .u64 ((IntKind.wrap .u64 (x324.toNat : Int)) + (IntKind.wrap .u64 (x329.toNat : Int)))))))) fun x341 => Option.bind (shr .u64 (IntKind.wrap .u64 (s310.2.1 + (IntKind.wrap .u64 ((IntKind.wrap .u64 (x324.toNat : Int)) + (IntKind.wrap .u64 (x329.toNat : Int)))))) 32) fun x345 => some (.nx (x341, x345, w64 (s310.2.2 + 1))) else some (.bk (s310.1, s310.2.1, s310.2.2))) (x284, 0, 0)) fun o299 => o299.andThen (fun y => y.elim) fun s300 => Option.bind (idx s300.1 (w64 (s137.2.2 + (b.length : Int)))) fun x349 => Option.bind (setI s300.1 (w64 (s137.2.2 + (b.length : Int))) (toU32 ((x349.toNat : Int) + ((toU32 s300.2.1).toNat : Int)))) fun x358 => some (x358, IntKind.wrap .u64 (s182.1 - 1)) else some (x284, s182.1)) fun s289 => Option.bind (idx s137.2.1 s137.2.2) fun x364 => Option.bind (setI s137.2.1 s137.2.2 (toU32 s289.2)) fun x369 => some (.nx (s289.1, x369, w64 (s137.2.2 - 1))) else some (.bk (s137.1, s137.2.1, s137.2.2))) (x102, x118, w64 ((a_.length : Int) - (b.length : Int)))) fun o124 => o124.andThen (fun y => some y) fun s125 =>
      Option.bind (makeL 70368744177664 (b.length : Int) (0 : UInt32)) fun x376 =>
      Option.bind (whileB (fun s393 => if (decide (s393.2 < (b.length : Int))) = true then Option.bind (idx s125.1 s393.2) fun x407 => Option.bind (shr .u32 (x407.toNat : Int) (IntKind.wrap .u64 x101)) fun x412 => Option.bind (idx s125.1 (w64 (s393.2 + 1))) fun x413 => Option.bind (shl .u64 (IntKind.wrap .u64 (x413.toNat : Int)) (IntKind.wrap .u64 (32 - (IntKind.wrap .u64 x101)))) fun x418 => Option.bind (idx s393.1 s393.2) fun x419 => Option.bind (setI s393.1 s393.2 (toU32 (bitsI .or .u32 x412 ((toU32 x418).toNat : Int)))) fun x427 => some (.nx (x427, w64 (s393.2 + 1))) else some (.bk (s393.1, s393.2))) (x376, 0)) fun o382 => o382.andThen (fun y => some y) fun s383 =>
      Option.bind (portref2_whole_trim s125.2.1) fun x434 =>
      Option.bind (portref2_whole_trim s383.1) fun x441 =>
      some (x434, x441)

/-- porterslodge portref2 lowest -/
noncomputable def portref2_lowest (num : (List UInt32)) (den : (List UInt32)) : Option portref2_ratio :=
  Option.bind (whileB (fun s23 => if (decide ((0 : Int) < (s23.2.length : Int))) = true then Option.bind (portref2_whole_by s23.1 s23.2) fun x39 => some (.nx (s23.2, x39.2)) else some (.bk (s23.1, s23.2))) (num, den)) fun o10 => o10.andThen (fun y => some y) fun s11 =>
  Option.bind (portref2_whole_by num s11.1) fun x56 =>
  Option.bind (portref2_whole_by den s11.1) fun x65 =>
  some (⟨x56.1, x65.1⟩ : portref2_ratio)

/-- porterslodge portref2 rat -/
noncomputable def portref2_rat (num : Int) (den : Int) : Option portref2_ratio :=
  Option.bind (portref2_wholeOf num) fun x6 =>
  Option.bind (portref2_wholeOf den) fun x14 =>
  Option.bind (portref2_lowest x6 x14) fun x32 =>
  some x32

/-- porterslodge portref2 offered -/
noncomputable def portref2_offered (l : staff_Load) : Option portref2_ratio :=
  Option.bind (portref2_rat (w64 (l.calls * l.length)) l.span) fun x16 =>
  some x16

/-- porterslodge portref2 whole text -/
noncomputable def portref2_whole_text (a_ : (List UInt32)) : Option ByteArray :=
  if ((a_.length : Int) == 0) = true then
    some (⟨#[48]⟩ : ByteArray)
  else
    Option.bind (appendL 35184372088832 ([] : (List UInt32)) a_) fun x4 =>
    Option.bind (whileB (fun s23 => if (decide ((0 : Int) < (s23.2.length : Int))) = true then Option.bind (Option.bind (whileB (R := Empty) (fun s62 => if (decide ((0 : Int) ≤ s62.2.2)) = true then Option.bind (shl .u64 s62.2.1 32) fun x76 => Option.bind (idx s62.1 s62.2.2) fun x77 => Option.bind (quoK .u64 (bitsI .or .u64 x76 (IntKind.wrap .u64 (x77.toNat : Int))) 1000000000) fun x82 => Option.bind (setI s62.1 s62.2.2 (toU32 x82)) fun x87 => Option.bind (remK .u64 (bitsI .or .u64 x76 (IntKind.wrap .u64 (x77.toNat : Int))) 1000000000) fun x91 => some (.nx (x87, x91, w64 (s62.2.2 - 1))) else some (.bk (s62.1, s62.2.1, s62.2.2))) (s23.2, 0, w64 ((s23.2.length : Int) - 1))) fun o51 => o51.andThen (fun y => y.elim) fun s52 => Option.bind (portref2_whole_trim s52.1) fun x95 => Option.bind (whileB (R := Empty) (fun s113 => if ((decide (s113.2.2 < 9)) && ((decide ((0 : Int) < (x95.length : Int))) || (decide ((0 : Int) < s113.2.1)))) = true then Option.bind (remK .u64 s113.2.1 10) fun x131 => Option.bind (appendL 140737488355328 s113.1 ([(toU8 (IntKind.wrap .u64 (48 + x131)))] : List UInt8)) fun x138 => Option.bind (quoK .u64 s113.2.1 10) fun x144 => some (.nx (x138, x144, w64 (s113.2.2 + 1))) else some (.bk (s113.1, s113.2.1, s113.2.2))) (s23.1, s52.2.1, 0)) fun o102 => o102.andThen (fun y => y.elim) fun s103 => some (s103.1, x95)) fun s40 => some (.nx (s40.1, s40.2)) else some (.bk (s23.1, s23.2))) (([] : (List UInt8)), x4)) fun o10 => o10.andThen (fun y => some y) fun s11 =>
    Option.bind (whileB (fun s163 => if (decide (s163.2.1 < s163.2.2)) = true then Option.bind (idx s163.1 s163.2.2) fun x180 => Option.bind (idx s163.1 s163.2.1) fun x185 => Option.bind (setI s163.1 s163.2.1 x180) fun x194 => Option.bind (idx x194 s163.2.2) fun x198 => Option.bind (setI x194 s163.2.2 x185) fun x203 => some (.nx (x203, w64 (s163.2.1 + 1), w64 (s163.2.2 - 1))) else some (.bk (s163.1, s163.2.1, s163.2.2))) (s11.1, 0, w64 ((s11.1.length : Int) - 1))) fun o152 => o152.andThen (fun y => some y) fun s153 =>
    some (⟨s153.1.toArray⟩ : ByteArray)

/-- porterslodge portref2 ratioOf -/
noncomputable def portref2_ratioOf (x : portref2_ratio) : Option staff_Ratio :=
  Option.bind (portref2_whole_text x.num) fun x20 =>
  Option.bind (portref2_whole_text x.den) fun x25 =>
  some (⟨x20, x25⟩ : staff_Ratio)

/-- porterslodge portref2 whole times -/
noncomputable def portref2_whole_times (a_ : (List UInt32)) (b : (List UInt32)) : Option (List UInt32) :=
  Option.bind (makeL 70368744177664 (w64 ((a_.length : Int) + (b.length : Int))) (0 : UInt32)) fun x5 =>
  Option.bind (rangeB (fun k14 s22 => Option.bind (rangeB (fun k40 s48 => Option.bind (idx a_ (k14 : Int)) fun x63 => Option.bind (idx b (k40 : Int)) fun x67 => Option.bind (idx s48.1 (w64 ((k14 : Int) + (k40 : Int)))) fun x71 => Option.bind (setI s48.1 (w64 ((k14 : Int) + (k40 : Int))) (toU32 (IntKind.wrap .u64 (s48.2 + (IntKind.wrap .u64 ((IntKind.wrap .u64 ((IntKind.wrap .u64 (x63.toNat : Int)) * (IntKind.wrap .u64 (x67.toNat : Int)))) + (IntKind.wrap .u64 (x71.toNat : Int)))))))) fun x83 => Option.bind (shr .u64 (IntKind.wrap .u64 (s48.2 + (IntKind.wrap .u64 ((IntKind.wrap .u64 ((IntKind.wrap .u64 (x63.toNat : Int)) * (IntKind.wrap .u64 (x67.toNat : Int)))) + (IntKind.wrap .u64 (x71.toNat : Int)))))) 32) fun x87 => some (.nx (x83, x87))) b.length 0 (s22, 0)) fun o37 => o37.andThen (fun y => some (.rt y)) fun s38 => Option.bind (idx s38.1 (w64 ((k14 : Int) + (b.length : Int)))) fun x91 => Option.bind (setI s38.1 (w64 ((k14 : Int) + (b.length : Int))) (toU32 s38.2)) fun x96 => some (.nx x96)) a_.length 0 x5) fun o11 => o11.andThen (fun y => some y) fun s12 =>
  Option.bind (portref2_whole_trim s12) fun x103 =>
  some x103

/-- porterslodge portref2 whole plus -/
noncomputable def portref2_whole_plus (a_ : (List UInt32)) (b : (List UInt32)) : Option (List UInt32) :=
  Option.bind (if (decide ((a_.length : Int) < (b.length : Int))) = true then some (b, a_) else some (a_, b)) fun s6 =>
  Option.bind (makeC 70368744177664 0 (w64 ((s6.1.length : Int) + 1)) (0 : UInt32)) fun x18 =>
  Option.bind (rangeB (fun k27 s35 => Option.bind (idx s6.1 (k27 : Int)) fun x50 => Option.bind (if (decide ((k27 : Int) < (s6.2.length : Int))) = true then Option.bind (idx s6.2 (k27 : Int)) fun x61 => some (IntKind.wrap .u64 ((IntKind.wrap .u64 (s35.2 + (IntKind.wrap .u64 (x50.toNat : Int)))) + (IntKind.wrap .u64 (x61.toNat : Int)))) else some (IntKind.wrap .u64 (s35.2 + (IntKind.wrap .u64 (x50.toNat : Int))))) fun s55 => Option.bind (appendL 35184372088832 s35.1 ([(toU32 s55)] : List UInt32)) fun x73 => Option.bind (shr .u64 s55 32) fun x79 => some (.nx (x73, x79))) s6.1.length 0 (x18, 0)) fun o24 => o24.andThen (fun y => some y) fun s25 =>
  Option.bind (appendL 35184372088832 s25.1 ([(toU32 s25.2)] : List UInt32)) fun x89 =>
  Option.bind (portref2_whole_trim x89) fun x95 =>
  some x95

/-- porterslodge portref2 blocked -/
noncomputable def portref2_blocked (l : staff_Load) (n : Int) : Option portref2_ratio :=
  Option.bind (portref2_offered l) fun x14 =>
  Option.bind (portref2_wholeOf 1) fun x36 =>
  Option.bind (portref2_wholeOf 1) fun x44 =>
  Option.bind (whileB (fun s65 => if (decide (s65.2.2 ≤ n)) = true then Option.bind (portref2_whole_times s65.1 x14.num) fun x85 => Option.bind (portref2_whole_times s65.2.1 x14.den) fun x97 => Option.bind (portref2_wholeOf s65.2.2) fun x105 => Option.bind (portref2_whole_times x97 x105) fun x113 => Option.bind (portref2_whole_plus x113 x85) fun x121 => some (.nx (x85, x121, w64 (s65.2.2 + 1))) else some (.bk (s65.1, s65.2.1, s65.2.2))) (x36, x44, 1)) fun o52 => o52.andThen (fun y => some y) fun s53 =>
  Option.bind (portref2_lowest s53.1 s53.2.1) fun x142 =>
  some x142

/-- porterslodge portref2 ratio cmp -/
noncomputable def portref2_ratio_cmp (a_ : portref2_ratio) (b : portref2_ratio) : Option Int :=
  Option.bind (portref2_whole_times a_.num b.den) fun x41 =>
  Option.bind (portref2_whole_times b.num a_.den) fun x49 =>
  Option.bind (portref2_whole_cmp x41 x49) fun x57 =>
  some x57

/-- porterslodge portref2 whole minus -/
noncomputable def portref2_whole_minus (a_ : (List UInt32)) (b : (List UInt32)) : Option (List UInt32) :=
  Option.bind (makeL 70368744177664 (a_.length : Int) (0 : UInt32)) fun x5 =>
  Option.bind (rangeB (fun k14 s22 => Option.bind (idx a_ (k14 : Int)) fun x37 => Option.bind (if (decide ((k14 : Int) < (b.length : Int))) = true then Option.bind (idx b (k14 : Int)) fun x48 => some (IntKind.wrap .u64 (s22.2 + (IntKind.wrap .u64 (x48.toNat : Int)))) else some s22.2) fun s42 => Option.bind (if (decide ((IntKind.wrap .u64 (x37.toNat : Int)) < s42)) = true then some (1, IntKind.wrap .u64 ((IntKind.wrap .u64 (x37.toNat : Int)) + 4294967296)) else some (0, IntKind.wrap .u64 (x37.toNat : Int))) fun s55 => Option.bind (idx s22.1 (k14 : Int)) fun x63 => Option.bind (setI s22.1 (k14 : Int) (toU32 (IntKind.wrap .u64 (s55.2 - s42)))) fun x68 => some (.nx (x68, s55.1))) a_.length 0 (x5, 0)) fun o11 => o11.andThen (fun y => some y) fun s12 =>
  Option.bind (portref2_whole_trim s12.1) fun x75 =>
  some x75

/-- porterslodge portref2 ratio minus -/
noncomputable def portref2_ratio_minus (a_ : portref2_ratio) (b : portref2_ratio) : Option portref2_ratio :=
  Option.bind (portref2_whole_times a_.num b.den) fun x54 =>
  Option.bind (portref2_whole_times b.num a_.den) fun x62 =>
  Option.bind (portref2_whole_minus x54 x62) fun x70 =>
  Option.bind (portref2_whole_times a_.den b.den) fun x78 =>
  Option.bind (portref2_lowest x70 x78) fun x96 =>
  some x96

/-- porterslodge portref2 ratio times -/
noncomputable def portref2_ratio_times (a_ : portref2_ratio) (b : portref2_ratio) : Option portref2_ratio :=
  Option.bind (portref2_whole_times a_.num b.num) fun x46 =>
  Option.bind (portref2_whole_times a_.den b.den) fun x54 =>
  Option.bind (portref2_lowest x46 x54) fun x72 =>
  some x72

/-- porterslodge portref2 ratio by -/
noncomputable def portref2_ratio_by (a_ : portref2_ratio) (b : portref2_ratio) : Option portref2_ratio :=
  Option.bind (portref2_whole_times a_.num b.den) fun x46 =>
  Option.bind (portref2_whole_times a_.den b.num) fun x54 =>
  Option.bind (portref2_lowest x46 x54) fun x72 =>
  some x72

/-- porterslodge portref2 waits -/
noncomputable def portref2_waits (l : staff_Load) (n : Int) : Option portref2_ratio :=
  Option.bind (portref2_offered l) fun x14 =>
  if (l.calls == 0) = true then
    Option.bind (portref2_rat 0 1) fun x38 =>
    some x38
  else
    Option.bind (portref2_rat n 1) fun x63 =>
    Option.bind (portref2_ratio_cmp x63 x14) fun x71 =>
    if (decide (x71 ≤ 0)) = true then
      Option.bind (portref2_rat 1 1) fun x76 =>
      some x76
    else
      Option.bind (portref2_blocked l n) fun x94 =>
      Option.bind (portref2_rat 1 1) fun x234 =>
      Option.bind (portref2_ratio_minus x234 x94) fun x339 =>
      Option.bind (portref2_ratio_times x339 x14) fun x436 =>
      Option.bind (portref2_rat n 1) fun x525 =>
      Option.bind (portref2_ratio_by x436 x525) fun x606 =>
      Option.bind (portref2_rat 1 1) fun x646 =>
      Option.bind (portref2_ratio_minus x646 x606) fun x654 =>
      Option.bind (portref2_ratio_by x94 x654) fun x662 =>
      some x662

/-- porterslodge portref2 meanWait -/
noncomputable def portref2_meanWait (l : staff_Load) (n : Int) : Option (portref2_ratio × Bool) :=
  if (l.calls == 0) = true then
    Option.bind (portref2_rat 0 1) fun x15 =>
    some (x15, true)
  else
    Option.bind (portref2_rat n 1) fun x37 =>
    Option.bind (portref2_offered l) fun x45 =>
    Option.bind (portref2_ratio_cmp x37 x45) fun x53 =>
    if (decide (x53 ≤ 0)) = true then
      some ((⟨([] : (List UInt32)), ([] : (List UInt32))⟩ : portref2_ratio), false)
    else
      Option.bind (portref2_waits l n) fun x67 =>
      Option.bind (portref2_rat l.length 1) fun x75 =>
      Option.bind (portref2_ratio_times x67 x75) fun x83 =>
      Option.bind (portref2_rat n 1) fun x91 =>
      Option.bind (portref2_offered l) fun x99 =>
      Option.bind (portref2_ratio_minus x91 x99) fun x107 =>
      Option.bind (portref2_ratio_by x83 x107) fun x115 =>
      some (x115, true)

/-- porterslodge portref2 FormulaOf -/
noncomputable def portref2_FormulaOf (name : ByteArray) (l : staff_Load) (n : Int) : Option (staff_Ratio × Int) :=
  Option.bind (if (strEq name (⟨#[111, 102, 102, 101, 114, 101, 100]⟩ : ByteArray)) = true then some 0 else some n) fun s14 =>
  Option.bind (portref2_loadFault l s14) fun x24 =>
  if (x24 != 0) = true then
    some ((⟨ByteArray.empty, ByteArray.empty⟩ : staff_Ratio), x24)
  else
    if (strEq name (⟨#[111, 102, 102, 101, 114, 101, 100]⟩ : ByteArray)) = true then
      Option.bind (portref2_offered l) fun x34 =>
      Option.bind (portref2_ratioOf x34) fun x42 =>
      some (x42, 0)
    else
      if (strEq name (⟨#[98, 108, 111, 99, 107, 101, 100]⟩ : ByteArray)) = true then
        Option.bind (portref2_blocked l s14) fun x51 =>
        Option.bind (portref2_ratioOf x51) fun x59 =>
        some (x59, 0)
      else
        if (strEq name (⟨#[119, 97, 105, 116, 115]⟩ : ByteArray)) = true then
          Option.bind (portref2_waits l s14) fun x68 =>
          Option.bind (portref2_ratioOf x68) fun x76 =>
          some (x76, 0)
        else
          Option.bind (portref2_meanWait l s14) fun x84 =>
          if (!x84.2) = true then
            some ((⟨ByteArray.empty, ByteArray.empty⟩ : staff_Ratio), 7)
          else
            Option.bind (portref2_ratioOf x84.1) fun x115 =>
            some (x115, 0)

/-- porterslodge staff checkPeople -/
def staff_checkPeople (n : Int) : Int :=
  if (!(staff_within n 0 60)) = true then
    2
  else
    0

/-- cmp Or porterslodge api Errno -/
def cmp_Or_api_Errno (vals : (List Int)) : Option Int :=
  Option.bind (rangeB (fun k6 _ => Option.bind (idx vals (k6 : Int)) fun x21 => if (x21 != 0) = true then some (.rt x21) else some (.nx ())) vals.length 0 ()) fun o3 => o3.andThen (fun y => some y) fun s4 =>
  some 0

/-- porterslodge staff nat plus -/
noncomputable def staff_nat_plus (a_ : (List Int)) (b : (List Int)) : Option (List Int) :=
  Option.bind (if (decide ((a_.length : Int) < (b.length : Int))) = true then some (b, a_) else some (a_, b)) fun s6 =>
  Option.bind (makeC 35184372088832 (s6.1.length : Int) (w64 ((s6.1.length : Int) + 1)) (0 : Int)) fun x18 =>
  Option.bind (whileB (fun s38 => if ((decide (s38.2.2 < (s38.1.length : Int))) && ((decide (s38.2.2 < (s6.2.length : Int))) || (decide ((0 : Int) < s38.2.1)))) = true then Option.bind (idx s38.1 s38.2.2) fun x56 => Option.bind (if (decide (s38.2.2 < (s6.2.length : Int))) = true then Option.bind (idx s6.2 s38.2.2) fun x69 => some (w64 ((w64 (x56 + s38.2.1)) + x69)) else some (w64 (x56 + s38.2.1))) fun s62 => Option.bind (setI s38.1 s38.2.2 (Int.tmod s62 1000000000)) fun x79 => some (.nx (x79, w64 (Int.tdiv s62 1000000000), w64 (s38.2.2 + 1))) else some (.bk (s38.1, s38.2.1, s38.2.2))) ((copyL x18 s6.1), 0, 0)) fun o27 => o27.andThen (fun y => some y) fun s28 =>
  Option.bind (if (decide ((0 : Int) < s28.2.1)) = true then Option.bind (appendL 17592186044416 s28.1 ([s28.2.1] : List Int)) fun x102 => some x102 else some s28.1) fun s87 =>
  some s87

/-- porterslodge staff Load blocked -/
noncomputable def staff_Load_blocked (l : staff_Load) (n : Int) : Option staff_ratio :=
  Option.bind (staff_Load_offered l) fun x14 =>
  Option.bind (whileB (fun s61 => if (decide (s61.1 < n)) = true then Option.bind (staff_nat_small s61.2.num x14.1) fun x77 => Option.bind (staff_nat_small s61.2.den (w64 ((w64 (s61.1 + 1)) * x14.2))) fun x83 => Option.bind (staff_nat_plus x83 x77) fun x89 => some (.nx (w64 (s61.1 + 1), (⟨x77, x89⟩ : staff_ratio))) else some (.bk (s61.1, s61.2))) (0, (⟨([1] : List Int), ([1] : List Int)⟩ : staff_ratio))) fun o48 => o48.andThen (fun y => some y) fun s49 =>
  some s49.2

/-- porterslodge staff Blocked -/
noncomputable def staff_Blocked (l : staff_Load) (n : Int) : Option (staff_Ratio × Int) :=
  Option.bind (staff_checkLoad l) fun x14 =>
  Option.bind (cmp_Or_api_Errno ([x14, (staff_checkPeople n)] : List Int)) fun x24 =>
  if (x24 != 0) = true then
    some ((⟨ByteArray.empty, ByteArray.empty⟩ : staff_Ratio), x24)
  else
    Option.bind (staff_Load_blocked l n) fun x30 =>
    Option.bind (staff_lowest x30.num x30.den) fun x60 =>
    Option.bind (staff_ratio_written x60) fun x68 =>
    some (x68, 0)

/-- porterslodge staff Load enough -/
def staff_Load_enough (l : staff_Load) (n : Int) : Option Bool :=
  Option.bind (staff_Load_offered l) fun x8 =>
  some (decide (x8.1 < (w64 (n * x8.2))))

/-- porterslodge staff Load waits -/
noncomputable def staff_Load_waits (l : staff_Load) (n : Int) : Option staff_ratio :=
  if (l.calls == 0) = true then
    some (⟨([] : (List Int)), ([1] : List Int)⟩ : staff_ratio)
  else
    Option.bind (staff_Load_enough l n) fun x31 =>
    if (!x31) = true then
      some (⟨([1] : List Int), ([1] : List Int)⟩ : staff_ratio)
    else
      Option.bind (staff_Load_offered l) fun x63 =>
      Option.bind (staff_Load_blocked l n) fun x69 =>
      Option.bind (staff_nat_small x69.num (w64 (n * x63.2))) fun x106 =>
      Option.bind (staff_nat_small x69.den (w64 ((w64 (n * x63.2)) - x63.1))) fun x112 =>
      Option.bind (staff_nat_small x69.num x63.1) fun x118 =>
      Option.bind (staff_nat_plus x112 x118) fun x124 =>
      some (⟨x106, x124⟩ : staff_ratio)

/-- porterslodge staff Waits -/
noncomputable def staff_Waits (l : staff_Load) (n : Int) : Option (staff_Ratio × Int) :=
  Option.bind (staff_checkLoad l) fun x14 =>
  Option.bind (cmp_Or_api_Errno ([x14, (staff_checkPeople n)] : List Int)) fun x24 =>
  if (x24 != 0) = true then
    some ((⟨ByteArray.empty, ByteArray.empty⟩ : staff_Ratio), x24)
  else
    Option.bind (staff_Load_waits l n) fun x30 =>
    Option.bind (staff_lowest x30.num x30.den) fun x60 =>
    Option.bind (staff_ratio_written x60) fun x68 =>
    some (x68, 0)

/-- porterslodge staff Load meanWait -/
noncomputable def staff_Load_meanWait (l : staff_Load) (n : Int) : Option (staff_ratio × Bool) :=
  if (l.calls == 0) = true then
    some ((⟨([] : (List Int)), ([1] : List Int)⟩ : staff_ratio), true)
  else
    Option.bind (staff_Load_enough l n) fun x31 =>
    if (!x31) = true then
      some ((⟨([] : (List Int)), ([] : (List Int))⟩ : staff_ratio), false)
    else
      Option.bind (staff_Load_offered l) fun x41 =>
      Option.bind (staff_Load_waits l n) fun x46 =>
      Option.bind (staff_nat_small x46.num (w64 (l.length * x41.2))) fun x80 =>
      Option.bind (staff_nat_small x46.den (w64 ((w64 (n * x41.2)) - x41.1))) fun x86 =>
      some ((⟨x80, x86⟩ : staff_ratio), true)

/-- porterslodge staff MeanWait -/
noncomputable def staff_MeanWait (l : staff_Load) (n : Int) : Option (staff_Ratio × Int) :=
  Option.bind (staff_checkLoad l) fun x14 =>
  Option.bind (cmp_Or_api_Errno ([x14, (staff_checkPeople n)] : List Int)) fun x24 =>
  if (x24 != 0) = true then
    some ((⟨ByteArray.empty, ByteArray.empty⟩ : staff_Ratio), x24)
  else
    Option.bind (staff_Load_meanWait l n) fun x30 =>
    if (!x30.2) = true then
      some ((⟨ByteArray.empty, ByteArray.empty⟩ : staff_Ratio), 7)
    else
      Option.bind (staff_lowest x30.1.num x30.1.den) fun x64 =>
      Option.bind (staff_ratio_written x64) fun x72 =>
      some (x72, 0)

/-- porterslodge portlaw2 StaffFormulas -/
noncomputable def portlaw2_StaffFormulas (l : staff_Load) (n : Int) : Option Bool :=
  Option.bind (staff_Offered l) fun x8 =>
  Option.bind (portref2_FormulaOf (⟨#[111, 102, 102, 101, 114, 101, 100]⟩ : ByteArray) l n) fun x21 =>
  if ((!(strEq x8.1.num x21.1.num && (strEq x8.1.den x21.1.den))) || (x8.2 != x21.2)) = true then
    some false
  else
    Option.bind (staff_Blocked l n) fun x37 =>
    Option.bind (portref2_FormulaOf (⟨#[98, 108, 111, 99, 107, 101, 100]⟩ : ByteArray) l n) fun x45 =>
    if ((!(strEq x37.1.num x45.1.num && (strEq x37.1.den x45.1.den))) || (x37.2 != x45.2)) = true then
      some false
    else
      Option.bind (staff_Waits l n) fun x56 =>
      Option.bind (portref2_FormulaOf (⟨#[119, 97, 105, 116, 115]⟩ : ByteArray) l n) fun x64 =>
      if ((!(strEq x56.1.num x64.1.num && (strEq x56.1.den x64.1.den))) || (x56.2 != x64.2)) = true then
        some false
      else
        Option.bind (staff_MeanWait l n) fun x75 =>
        Option.bind (portref2_FormulaOf (⟨#[109, 101, 97, 110]⟩ : ByteArray) l n) fun x83 =>
        some ((strEq x75.1.num x83.1.num && (strEq x75.1.den x83.1.den)) && (x75.2 == x83.2))

end Go.Proofs.YtbmbgmeggeemcaaDoor.M
