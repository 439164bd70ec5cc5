/-
  Written by program (gen.py) from the IR of the dump: plain models of the functions.
-/
import Derived.Test.YtnnbhehaplphiaaGreatDoorPv
import Derived.Lib.AtoiAll
import Derived.Lib.ItoaNum
import Derived.Lib.SlTrimSet
namespace Go.Proofs.YtnnbhehaplphiaaGreatDoor.M
open Go Go.Pu
set_option linter.unusedVariables false
set_option linter.unusedSimpArgs false

structure staff_Ratio where
  num : ByteArray
  den : ByteArray

structure staff_ratio where
  num : (List Int)
  den : (List Int)

structure portref2_ratio where
  num : (List UInt32)
  den : (List UInt32)

/-- porterslodge staff checkDigits -/
noncomputable def staff_checkDigits (s : ByteArray) : Option Int :=
  Option.bind (whileB (fun s8 => if (decide (s8 < (s.size : Int))) = true then Option.bind (idxS s s8) fun x18 => Option.bind (if (decide ((x18.toNat : Int) < 48)) = true then (some true) else (some (decide ((57 : Int) < (x18.toNat : Int))))) fun s20 => if s20 = true then some (.rt 8) else some (.nx (w64 (s8 + 1))) else some (.bk s8)) 0) fun o1 => o1.andThen (fun y => some y) fun s2 =>
  Option.bind (if (strEq s (⟨#[]⟩ : ByteArray)) = true then (some true) else (Option.bind (idxS s 0) fun x27 => some (((x27.toNat : Int) == 48) && (decide ((1 : Int) < (s.size : Int)))))) fun s26 =>
  if s26 = true then
    some 8
  else
    some 0

/-- cmp Or porterslodge api Errno -/
def cmp_Or_api_Errno (vals : (List Int)) : Option Int :=
  Option.bind (rangeB (fun k6 _ => Option.bind (idx vals (k6 : Int)) fun x21 => if (x21 != 0) = true then some (.rt x21) else some (.nx ())) vals.length 0 ()) fun o3 => o3.andThen (fun y => some y) fun s4 =>
  some 0

/-- strconv.Atoi -/
def strconv_Atoi (s : ByteArray) : Option (Int × Bool) :=
  if s.size ≤ 281474976710656 then some (match Go.Lib.atoiAll s.data.toList with | .ok v => (v, false) | .range => (Go.Lib.atoiSat s.data.toList, true) | _ => (0, true)) else none

/-- porterslodge staff nat trimmed -/
noncomputable def staff_nat_trimmed (a_ : (List Int)) : Option (List Int) :=
  Option.bind (whileB (fun s12 => Option.bind (if (decide ((0 : Int) < (s12.length : Int))) = true then (Option.bind (idx s12 (w64 ((s12.length : Int) - 1))) fun x25 => some (x25 == 0)) else (some false)) fun s24 => if s24 = true then Option.bind (sliceL s12 none (some (w64 ((s12.length : Int) - 1)))) fun x30 => some (.nx x30) else some (.bk s12)) a_) fun o3 => o3.andThen (fun y => some y) fun s4 =>
  some s4

/-- porterslodge staff readNat -/
noncomputable def staff_readNat (s : ByteArray) : Option (List Int) :=
  Option.bind (whileB (fun s12 => if (decide ((0 : Int) < (s12.1.size : Int))) = true then Option.bind (sliceS s12.1 (some (if 0 < w64 ((s12.1.size : Int) - 9) then w64 ((s12.1.size : Int) - 9) else 0)) none) fun x26 => Option.bind (strconv_Atoi x26) fun x27 => Option.bind (appendL 17592186044416 s12.2 ([x27.1] : List Int)) fun x38 => Option.bind (sliceS s12.1 none (some (if 0 < w64 ((s12.1.size : Int) - 9) then w64 ((s12.1.size : Int) - 9) else 0))) fun x44 => some (.nx (x44, x38)) else some (.bk (s12.1, s12.2))) (s, ([] : (List Int)))) fun o1 => o1.andThen (fun y => some y) fun s2 =>
  Option.bind (staff_nat_trimmed s2.2) fun x53 =>
  some x53

/-- porterslodge staff nat compare -/
noncomputable def staff_nat_compare (a_ : (List Int)) (b : (List Int)) : Option Int :=
  if ((a_.length : Int) != (b.length : Int)) = true then
    if (decide ((a_.length : Int) < (b.length : Int))) = true then
      some (-1)
    else
      some 1
  else
    Option.bind (whileB (fun s16 => if (decide ((0 : Int) ≤ s16)) = true then Option.bind (idx a_ s16) fun x28 => Option.bind (idx b s16) fun x32 => if (x28 != x32) = true then if (decide (x28 < x32)) = true then some (.rt (-1)) else some (.rt 1) else some (.nx (w64 (s16 - 1))) else some (.bk s16)) (w64 ((a_.length : Int) - 1))) fun o7 => o7.andThen (fun y => some y) fun s8 =>
    some 0

/-- porterslodge staff nat part -/
noncomputable def staff_nat_part (a_ : (List Int)) (n : Int) : Option ((List Int) × Int) :=
  Option.bind (makeL 35184372088832 (a_.length : Int) (0 : Int)) fun x3 =>
  Option.bind (whileB (fun s20 => if (decide ((0 : Int) ≤ s20.2.2)) = true then Option.bind (idx a_ s20.2.2) fun x34 => Option.bind (quo (w64 ((w64 (s20.2.1 * 1000000000)) + x34)) n) fun x41 => Option.bind (rem (w64 ((w64 (s20.2.1 * 1000000000)) + x34)) n) fun x42 => Option.bind (idx s20.1 s20.2.2) fun x43 => Option.bind (setI s20.1 s20.2.2 x41) fun x48 => some (.nx (x48, x42, w64 (s20.2.2 - 1))) else some (.bk (s20.1, s20.2.1, s20.2.2))) (x3, 0, w64 ((a_.length : Int) - 1))) fun o9 => o9.andThen (fun y => some y) fun s10 =>
  Option.bind (staff_nat_trimmed s10.1) fun x60 =>
  some (x60, s10.2.1)

/-- porterslodge staff natOf -/
noncomputable def staff_natOf (n : Int) : Option (List Int) :=
  Option.bind (whileB (fun s12 => if (decide ((0 : Int) < s12.1)) = true then Option.bind (appendL 17592186044416 s12.2 ([Int.tmod s12.1 1000000000] : List Int)) fun x32 => some (.nx (w64 (Int.tdiv s12.1 1000000000), x32)) else some (.bk (s12.1, s12.2))) (n, ([] : (List Int)))) fun o1 => o1.andThen (fun y => some y) fun s2 =>
  some s2.2

/-- porterslodge staff nat small -/
noncomputable def staff_nat_small (a_ : (List Int)) (n : Int) : Option (List Int) :=
  Option.bind (makeL 35184372088832 (w64 ((a_.length : Int) + 1)) (0 : Int)) fun x3 =>
  Option.bind (rangeB (fun k12 s20 => Option.bind (idx a_ (k12 : Int)) fun x35 => Option.bind (idx s20.1 (k12 : Int)) fun x39 => Option.bind (setI s20.1 (k12 : Int) (Int.tmod (w64 ((w64 (x35 * n)) + s20.2)) 1000000000)) fun x44 => some (.nx (x44, w64 (Int.tdiv (w64 ((w64 (x35 * n)) + s20.2)) 1000000000)))) a_.length 0 (x3, 0)) fun o9 => o9.andThen (fun y => some y) fun s10 =>
  Option.bind (idx s10.1 (a_.length : Int)) fun x51 =>
  Option.bind (setI s10.1 (a_.length : Int) s10.2) fun x56 =>
  Option.bind (staff_nat_trimmed x56) fun x65 =>
  some x65

/-- porterslodge staff takeAway -/
def staff_takeAway (r_ : List Int) (d : (List Int)) (times : Int) : Option (Bool × (List Int)) :=
  Option.bind (rangeB (fun k6 s14 => Option.bind (idx s14.1 (k6 : Int)) fun x29 => Option.bind (idx d (k6 : Int)) fun x34 => Option.bind (if (decide ((w64 ((w64 (x29 - (Int.tmod (w64 (x34 * times)) 1000000000))) - s14.2)) < 0)) = true then Option.bind (if (decide ((w64 ((w64 ((w64 (x29 - (Int.tmod (w64 (x34 * times)) 1000000000))) - s14.2)) + 1000000000)) < 0)) = true then some (w64 ((w64 ((w64 (Int.tdiv (w64 (x34 * times)) 1000000000)) + 1)) + 1), w64 ((w64 ((w64 ((w64 (x29 - (Int.tmod (w64 (x34 * times)) 1000000000))) - s14.2)) + 1000000000)) + 1000000000)) else some (w64 ((w64 (Int.tdiv (w64 (x34 * times)) 1000000000)) + 1), w64 ((w64 ((w64 (x29 - (Int.tmod (w64 (x34 * times)) 1000000000))) - s14.2)) + 1000000000))) fun s52 => some (s52.1, s52.2) else some (w64 (Int.tdiv (w64 (x34 * times)) 1000000000), w64 ((w64 (x29 - (Int.tmod (w64 (x34 * times)) 1000000000))) - s14.2))) fun s45 => Option.bind (setI s14.1 (k6 : Int) s45.2) fun x66 => some (.nx (x66, s45.1))) d.length 0 (r_, 0)) fun o3 => o3.andThen (fun y => some y) fun s4 =>
  Option.bind (idx s4.1 (d.length : Int)) fun x73 =>
  Option.bind (setI s4.1 (d.length : Int) (w64 (x73 - s4.2))) fun x82 =>
  Option.bind (idx x82 (d.length : Int)) fun x86 =>
  some (decide (x86 < 0), x82)

/-- porterslodge staff putBack -/
def staff_putBack (r_ : List Int) (d : (List Int)) : Option (List Int) :=
  Option.bind (rangeB (fun k6 s14 => Option.bind (idx s14.1 (k6 : Int)) fun x29 => Option.bind (idx d (k6 : Int)) fun x34 => Option.bind (setI s14.1 (k6 : Int) (Int.tmod (w64 ((w64 (x29 + x34)) + s14.2)) 1000000000)) fun x45 => some (.nx (x45, w64 (Int.tdiv (w64 ((w64 (x29 + x34)) + s14.2)) 1000000000)))) d.length 0 (r_, 0)) fun o3 => o3.andThen (fun y => some y) fun s4 =>
  Option.bind (idx s4.1 (d.length : Int)) fun x52 =>
  Option.bind (setI s4.1 (d.length : Int) (w64 (x52 + s4.2))) fun x61 =>
  some x61

/-- porterslodge staff nat by -/
noncomputable def staff_nat_by (a_ : (List Int)) (b : (List Int)) : Option ((List Int) × (List Int)) :=
  Option.bind (staff_nat_compare a_ b) fun x5 =>
  if (decide (x5 < 0)) = true then
    some (([] : (List Int)), a_)
  else
    if ((b.length : Int) == 1) = true then
      Option.bind (idx b 0) fun x11 =>
      Option.bind (staff_nat_part a_ x11) fun x15 =>
      Option.bind (staff_natOf x15.2) fun x21 =>
      some (x15.1, x21)
    else
      Option.bind (idx b (w64 ((b.length : Int) - 1))) fun x34 =>
      Option.bind (quo 1000000000 (w64 (x34 + 1))) fun x38 =>
      Option.bind (staff_nat_small b x38) fun x39 =>
      Option.bind (makeL 35184372088832 (w64 ((a_.length : Int) + 1)) (0 : Int)) fun x45 =>
      Option.bind (staff_nat_small a_ x38) fun x51 =>
      Option.bind (makeL 35184372088832 (w64 ((w64 ((a_.length : Int) - (x39.length : Int))) + 1)) (0 : Int)) fun x60 =>
      Option.bind (whileB (fun s79 => if (decide (s79.2.2 < (x60.length : Int))) = true then Option.bind (idx s79.1 (w64 ((w64 ((w64 ((s79.2.1.length : Int) - 1)) - s79.2.2)) + (x39.length : Int)))) fun x95 => Option.bind (idx s79.1 (w64 ((w64 ((w64 ((w64 ((s79.2.1.length : Int) - 1)) - s79.2.2)) + (x39.length : Int))) - 1))) fun x100 => Option.bind (idx x39 (w64 ((x39.length : Int) - 1))) fun x108 => Option.bind (quo (w64 ((w64 (x95 * 1000000000)) + x100)) x108) fun x112 => Option.bind (rem (w64 ((w64 (x95 * 1000000000)) + x100)) x108) fun x116 => Option.bind (whileB (fun s129 => Option.bind (if (decide ((1000000000 : Int) ≤ s129.1)) = true then (some true) else (Option.bind (if (decide (s129.2 < 1000000000)) = true then (Option.bind (idx x39 (w64 ((x39.length : Int) - 2))) fun x144 => Option.bind (idx s79.1 (w64 ((w64 ((w64 ((w64 ((s79.2.1.length : Int) - 1)) - s79.2.2)) + (x39.length : Int))) - 2))) fun x148 => some (decide ((w64 ((w64 (s129.2 * 1000000000)) + x148)) < (w64 (s129.1 * x144))))) else (some false)) fun s143 => some s143)) fun s141 => if s141 = true then some (.nx (w64 (s129.1 - 1), w64 (s129.2 + x108))) else some (.bk (s129.1, s129.2))) (x112, x116)) fun o120 => o120.andThen (fun y => some (.rt y)) fun s121 => Option.bind (winL s79.1 (w64 ((w64 ((s79.2.1.length : Int) - 1)) - s79.2.2)) (w64 ((w64 ((w64 ((w64 ((s79.2.1.length : Int) - 1)) - s79.2.2)) + (x39.length : Int))) + 1))) fun x163 => Option.bind (staff_takeAway x163 x39 s121.1) fun x169 => Option.bind (if x169.1 = true then Option.bind (winL (winS s79.1 (w64 ((w64 ((s79.2.1.length : Int) - 1)) - s79.2.2)) (w64 ((w64 ((w64 ((w64 ((s79.2.1.length : Int) - 1)) - s79.2.2)) + (x39.length : Int))) + 1)) x169.2) (w64 ((w64 ((s79.2.1.length : Int) - 1)) - s79.2.2)) (w64 ((w64 ((w64 ((w64 ((s79.2.1.length : Int) - 1)) - s79.2.2)) + (x39.length : Int))) + 1))) fun x186 => Option.bind (staff_putBack x186 x39) fun x192 => some ((winS (winS s79.1 (w64 ((w64 ((s79.2.1.length : Int) - 1)) - s79.2.2)) (w64 ((w64 ((w64 ((w64 ((s79.2.1.length : Int) - 1)) - s79.2.2)) + (x39.length : Int))) + 1)) x169.2) (w64 ((w64 ((s79.2.1.length : Int) - 1)) - s79.2.2)) (w64 ((w64 ((w64 ((w64 ((s79.2.1.length : Int) - 1)) - s79.2.2)) + (x39.length : Int))) + 1)) x192), w64 (s121.1 - 1)) else some ((winS s79.1 (w64 ((w64 ((s79.2.1.length : Int) - 1)) - s79.2.2)) (w64 ((w64 ((w64 ((w64 ((s79.2.1.length : Int) - 1)) - s79.2.2)) + (x39.length : Int))) + 1)) x169.2), s121.1)) fun s176 => Option.bind (idx s79.2.1 (w64 ((w64 ((s79.2.1.length : Int) - 1)) - s79.2.2))) fun x200 => Option.bind (setI s79.2.1 (w64 ((w64 ((s79.2.1.length : Int) - 1)) - s79.2.2)) s176.2) fun x205 => some (.nx (s176.1, x205, w64 (s79.2.2 + 1))) else some (.bk (s79.1, s79.2.1, s79.2.2))) ((copyL x45 x51), x60, 0)) fun o66 => o66.andThen (fun y => some y) fun s67 =>
      Option.bind (staff_nat_trimmed s67.1) fun x217 =>
      Option.bind (staff_nat_part x217 x38) fun x220 =>
      Option.bind (staff_nat_trimmed s67.2.1) fun x231 =>
      some (x231, x220.1)

/-- porterslodge staff divisor -/
noncomputable def staff_divisor (a_ : (List Int)) (b : (List Int)) : Option (List Int) :=
  Option.bind (whileB (fun s18 => if (decide ((0 : Int) < (s18.2.length : Int))) = true then Option.bind (staff_nat_by s18.1 s18.2) fun x34 => some (.nx (s18.2, x34.2)) else some (.bk (s18.1, s18.2))) (a_, b)) fun o5 => o5.andThen (fun y => some y) fun s6 =>
  some s6.1

/-- porterslodge staff read -/
noncomputable def staff_read (r_ : staff_Ratio) : Option (staff_ratio × Int) :=
  if ((decide ((20000 : Int) < (r_.num.size : Int))) || (decide ((20000 : Int) < (r_.den.size : Int)))) = true then
    some ((⟨([] : (List Int)), ([] : (List Int))⟩ : staff_ratio), 4)
  else
    Option.bind (staff_checkDigits r_.num) fun x22 =>
    Option.bind (staff_checkDigits r_.den) fun x24 =>
    Option.bind (cmp_Or_api_Errno ([x22, x24] : List Int)) fun x33 =>
    if (x33 != 0) = true then
      some ((⟨([] : (List Int)), ([] : (List Int))⟩ : staff_ratio), x33)
    else
      if (strEq r_.den (⟨#[48]⟩ : ByteArray)) = true then
        some ((⟨([] : (List Int)), ([] : (List Int))⟩ : staff_ratio), 2)
      else
        Option.bind (staff_readNat r_.num) fun x126 =>
        Option.bind (staff_readNat r_.den) fun x204 =>
        Option.bind (staff_divisor ((⟨x126, x204⟩ : staff_ratio).num) ((⟨x126, x204⟩ : staff_ratio).den)) fun x243 =>
        Option.bind (staff_nat_compare x243 ([1] : List Int)) fun x254 =>
        if (x254 != 0) = true then
          some ((⟨([] : (List Int)), ([] : (List Int))⟩ : staff_ratio), 1)
        else
          some ((⟨x126, x204⟩ : staff_ratio), 0)

/-- porterslodge staff two -/
noncomputable def staff_two (a_ : staff_Ratio) (b : staff_Ratio) : Option (staff_ratio × staff_ratio × Int) :=
  Option.bind (staff_read a_) fun x25 =>
  if (x25.2 != 0) = true then
    some (x25.1, x25.1, x25.2)
  else
    Option.bind (staff_read b) fun x80 =>
    some (x25.1, x80.1, x80.2)

/-- porterslodge staff nat times -/
noncomputable def staff_nat_times (a_ : (List Int)) (b : (List Int)) : Option (List Int) :=
  if (((a_.length : Int) == 0) || ((b.length : Int) == 0)) = true then
    some ([] : (List Int))
  else
    Option.bind (makeL 35184372088832 (w64 ((a_.length : Int) + (b.length : Int))) (0 : Int)) fun x8 =>
    Option.bind (rangeB (fun k17 s25 => Option.bind (Option.bind (idx a_ (k17 : Int)) fun x50 => Option.bind (rangeB (R := Empty) (fun k57 s65 => Option.bind (idx b (k57 : Int)) fun x80 => Option.bind (idx s65.1 (w64 ((k17 : Int) + (k57 : Int)))) fun x84 => Option.bind (setI s65.1 (w64 ((k17 : Int) + (k57 : Int))) (Int.tmod (w64 ((w64 (x84 + (w64 (x50 * x80)))) + s65.2)) 1000000000)) fun x93 => some (.nx (x93, w64 (Int.tdiv (w64 ((w64 (x84 + (w64 (x50 * x80)))) + s65.2)) 1000000000)))) b.length 0 (s25, 0)) fun o54 => o54.andThen (fun y => y.elim) fun s55 => Option.bind (whileB (R := Empty) (fun s111 => if (decide ((0 : Int) < s111.2.1)) = true then Option.bind (idx s111.1 s111.2.2) fun x125 => Option.bind (setI s111.1 s111.2.2 (Int.tmod (w64 (x125 + s111.2.1)) 1000000000)) fun x134 => some (.nx (x134, w64 (Int.tdiv (w64 (x125 + s111.2.1)) 1000000000), w64 (s111.2.2 + 1))) else some (.bk (s111.1, s111.2.1, s111.2.2))) (s55.1, s55.2, w64 ((k17 : Int) + (b.length : Int)))) fun o100 => o100.andThen (fun y => y.elim) fun s101 => some s101.1) fun s41 => some (.nx s41)) a_.length 0 x8) fun o14 => o14.andThen (fun y => some y) fun s15 =>
    Option.bind (staff_nat_trimmed s15) fun x150 =>
    some x150

/-- porterslodge staff ratio compare -/
noncomputable def staff_ratio_compare (r_ : staff_ratio) (s : staff_ratio) : Option Int :=
  Option.bind (staff_nat_times r_.num s.den) fun x41 =>
  Option.bind (staff_nat_times s.num r_.den) fun x47 =>
  Option.bind (staff_nat_compare x41 x47) fun x53 =>
  some x53

/-- porterslodge staff Compare -/
noncomputable def staff_Compare (a_ : staff_Ratio) (b : staff_Ratio) : Option (Int × Int) :=
  Option.bind (staff_two a_ b) fun x16 =>
  if (x16.2.2 != 0) = true then
    some (0, x16.2.2)
  else
    Option.bind (staff_ratio_compare x16.1 x16.2.1) fun x75 =>
    some (x75, 0)

/-- strings.Trim -/
def strings_Trim (s : ByteArray) (cutset : ByteArray) : Option ByteArray :=
  if s.size ≤ 9223372036854775807 ∧ cutset.size < 4294967281 ∧ (cutset.data.toList.all fun b => decide (b.toNat < 128)) = true then some ⟨(Go.Lib.trimS s.data.toList cutset.data.toList).toArray⟩ else none

/-- porterslodge portref2 digits -/
def portref2_digits (s : ByteArray) (most : Int) : Option Bool :=
  Option.bind (if (!(strEq s (⟨#[]⟩ : ByteArray))) = true then (if (decide ((s.size : Int) ≤ most)) = true then (Option.bind (strings_Trim s (⟨#[48, 49, 50, 51, 52, 53, 54, 55, 56, 57]⟩ : ByteArray)) fun x11 => if (strEq x11 (⟨#[]⟩ : ByteArray)) = true then (if ((s.size : Int) == 1) = true then (some true) else (Option.bind (idxS s 0) fun x18 => some ((x18.toNat : Int) != 48))) else (some false)) else (if false = true then (if ((s.size : Int) == 1) = true then (some true) else (Option.bind (idxS s 0) fun x24 => some ((x24.toNat : Int) != 48))) else (some false))) else (if false = true then (Option.bind (strings_Trim s (⟨#[48, 49, 50, 51, 52, 53, 54, 55, 56, 57]⟩ : ByteArray)) fun x28 => if (strEq x28 (⟨#[]⟩ : ByteArray)) = true then (if ((s.size : Int) == 1) = true then (some true) else (Option.bind (idxS s 0) fun x35 => some ((x35.toNat : Int) != 48))) else (some false)) else (if false = true then (if ((s.size : Int) == 1) = true then (some true) else (Option.bind (idxS s 0) fun x41 => some ((x41.toNat : Int) != 48))) else (some false)))) fun s2 =>
  some s2

/-- porterslodge portref2 digitString -/
def portref2_digitString (s : ByteArray) : Option Bool :=
  Option.bind (portref2_digits s 20000) fun x1 =>
  some x1

/-- porterslodge portref2 wholeText -/
noncomputable def portref2_wholeText (s : ByteArray) : Option (List UInt32) :=
  Option.bind (whileB (fun s12 => if (decide (s12.2 < (s.size : Int))) = true then Option.bind (Option.bind (whileB (R := Empty) (fun s43 => if (decide (s43.1 < (if (s.size : Int) < w64 (s12.2 + 9) then (s.size : Int) else w64 (s12.2 + 9)))) = true then Option.bind (idxS s s43.1) fun x53 => some (.nx (w64 (s43.1 + 1), IntKind.wrap .u64 ((IntKind.wrap .u64 (10 * s43.2.1)) + (IntKind.wrap .u64 ((toU8 ((x53.toNat : Int) - 48)).toNat : Int))), IntKind.wrap .u64 (10 * s43.2.2))) else some (.bk (s43.1, s43.2.1, s43.2.2))) (s12.2, 0, 1)) fun o36 => o36.andThen (fun y => y.elim) fun s37 => Option.bind (rangeB (R := Empty) (fun k60 s68 => Option.bind (idx s68.1 (k60 : Int)) fun x83 => Option.bind (setI s68.1 (k60 : Int) (toU32 (IntKind.wrap .u64 (s68.2 + (IntKind.wrap .u64 (s37.2.2 * (IntKind.wrap .u64 (x83.toNat : Int)))))))) fun x92 => Option.bind (shr .u64 (IntKind.wrap .u64 (s68.2 + (IntKind.wrap .u64 (s37.2.2 * (IntKind.wrap .u64 (x83.toNat : Int)))))) 32) fun x96 => some (.nx (x92, x96))) s12.1.length 0 (s12.1, s37.2.1)) fun o57 => o57.andThen (fun y => y.elim) fun s58 => Option.bind (if (decide ((0 : Int) < s58.2)) = true then Option.bind (appendL 35184372088832 s58.1 ([(toU32 s58.2)] : List UInt32)) fun x117 => some x117 else some s58.1) fun s101 => some (s101, s37.1)) fun s27 => some (.nx (s27.1, s27.2)) else some (.bk (s12.1, s12.2))) (([] : (List UInt32)), 0)) fun o1 => o1.andThen (fun y => some y) fun s2 =>
  some s2.1

/-- porterslodge portref2 whole cmp -/
noncomputable def portref2_whole_cmp (a_ : (List UInt32)) (b : (List UInt32)) : Option Int :=
  if ((a_.length : Int) != (b.length : Int)) = true then
    if (decide ((a_.length : Int) < (b.length : Int))) = true then
      some (-1)
    else
      some 1
  else
    Option.bind (whileB (fun s16 => if (decide ((0 : Int) ≤ s16)) = true then Option.bind (idx a_ s16) fun x28 => Option.bind (idx b s16) fun x32 => if ((x28.toNat : Int) != (x32.toNat : Int)) = true then if (decide ((x28.toNat : Int) < (x32.toNat : Int))) = true then some (.rt (-1)) else some (.rt 1) else some (.nx (w64 (s16 - 1))) else some (.bk s16)) (w64 ((a_.length : Int) - 1))) fun o7 => o7.andThen (fun y => some y) fun s8 =>
    some 0

/-- porterslodge portref2 whole trim -/
noncomputable def portref2_whole_trim (a_ : (List UInt32)) : Option (List UInt32) :=
  Option.bind (whileB (fun s12 => Option.bind (if (decide ((0 : Int) < (s12.length : Int))) = true then (Option.bind (idx s12 (w64 ((s12.length : Int) - 1))) fun x27 => some ((x27.toNat : Int) == 0)) else (some false)) fun s26 => if s26 = true then Option.bind (sliceL s12 none (some (w64 ((s12.length : Int) - 1)))) fun x33 => some (.nx x33) else some (.bk s12)) a_) fun o1 => o1.andThen (fun y => some y) fun s2 =>
  some s2

/-- math bits Len32 -/
def math_bits_Len32 (x : Int) : Option Int :=
  Option.bind (if (decide ((65536 : Int) ≤ x)) = true then Option.bind (shr .u32 x 16) fun x8 => some (x8, 16) else some (x, 0)) fun s2 =>
  Option.bind (if (decide ((256 : Int) ≤ s2.1)) = true then Option.bind (shr .u32 s2.1 8) fun x18 => some (x18, w64 (s2.2 + 8)) else some (s2.1, s2.2)) fun s12 =>
  Option.bind (idxS (⟨#[0, 1, 2, 2, 3, 3, 3, 3, 4, 4, 4, 4, 4, 4, 4, 4, 5, 5, 5, 5, 5, 5, 5, 5, 5, 5, 5, 5, 5, 5, 5, 5, 6, 6, 6, 6, 6, 6, 6, 6, 6, 6, 6, 6, 6, 6, 6, 6, 6, 6, 6, 6, 6, 6, 6, 6, 6, 6, 6, 6, 6, 6, 6, 6, 7, 7, 7, 7, 7, 7, 7, 7, 7, 7, 7, 7, 7, 7, 7, 7, 7, 7, 7, 7, 7, 7, 7, 7, 7, 7, 7, 7, 7, 7, 7, 7, 7, 7, 7, 7, 7, 7, 7, 7, 7, 7, 7, 7, 7, 7, 7, 7, 7, 7, 7, 7, 7, 7, 7, 7, 7, 7, 7, 7, 7, 7, 7, 7, 8, 8, 8, 8, 8, 8, 8, 8, 8, 8, 8, 8, 8, 8, 8, 8, 8, 8, 8, 8, 8, 8, 8, 8, 8, 8, 8, 8, 8, 8, 8, 8, 8, 8, 8, 8, 8, 8, 8, 8, 8, 8, 8, 8, 8, 8, 8, 8, 8, 8, 8, 8, 8, 8, 8, 8, 8, 8, 8, 8, 8, 8, 8, 8, 8, 8, 8, 8, 8, 8, 8, 8, 8, 8, 8, 8, 8, 8, 8, 8, 8, 8, 8, 8, 8, 8, 8, 8, 8, 8, 8, 8, 8, 8, 8, 8, 8, 8, 8, 8, 8, 8, 8, 8, 8, 8, 8, 8, 8, 8, 8, 8, 8, 8, 8, 8, 8, 8, 8, 8, 8, 8, 8, 8, 8, 8, 8, 8]⟩ : ByteArray) ((toU8 s12.1).toNat : Int)) fun x21 =>
  some (w64 (s12.2 + (IntKind.wrap .i64 (x21.toNat : Int))))

/-- math bits LeadingZeros32 -/
def math_bits_LeadingZeros32 (x : Int) : Option Int :=
  Option.bind (math_bits_Len32 x) fun x1 =>
  some (w64 (32 - x1))

/-- porterslodge portref2 whole up -/
def portref2_whole_up (a_ : (List UInt32)) (shift : Int) : Option (List UInt32) :=
  Option.bind (makeL 70368744177664 (w64 ((a_.length : Int) + 1)) (0 : UInt32)) fun x3 =>
  Option.bind (rangeB (fun k12 s20 => Option.bind (idx a_ (k12 : Int)) fun x35 => Option.bind (shl .u64 (IntKind.wrap .u64 (x35.toNat : Int)) shift) fun x39 => Option.bind (idx s20 (k12 : Int)) fun x40 => Option.bind (setI s20 (k12 : Int) (toU32 (bitsI .or .u32 (x40.toNat : Int) ((toU32 x39).toNat : Int)))) fun x49 => Option.bind (shr .u64 x39 32) fun x53 => Option.bind (idx x49 (w64 ((k12 : Int) + 1))) fun x54 => Option.bind (setI x49 (w64 ((k12 : Int) + 1)) (toU32 x53)) fun x59 => some (.nx x59)) a_.length 0 x3) fun o9 => o9.andThen (fun y => some y) fun s10 =>
  some s10

/-- porterslodge portref2 whole by -/
noncomputable def portref2_whole_by (a_ : (List UInt32)) (b : (List UInt32)) : Option ((List UInt32) × (List UInt32)) :=
  Option.bind (portref2_whole_cmp a_ b) fun x5 =>
  if (decide (x5 < 0)) = true then
    Option.bind (appendL 35184372088832 ([] : (List UInt32)) a_) fun x10 =>
    some (([] : (List UInt32)), x10)
  else
    if ((b.length : Int) == 1) = true then
      Option.bind (makeL 70368744177664 (a_.length : Int) (0 : UInt32)) fun x17 =>
      Option.bind (whileB (fun s34 => if (decide ((0 : Int) ≤ s34.2.2)) = true then Option.bind (shl .u64 s34.2.1 32) fun x48 => Option.bind (idx a_ s34.2.2) fun x49 => Option.bind (idx b 0) fun x53 => Option.bind (quoK .u64 (bitsI .or .u64 x48 (IntKind.wrap .u64 (x49.toNat : Int))) (IntKind.wrap .u64 (x53.toNat : Int))) fun x57 => Option.bind (idx s34.1 s34.2.2) fun x58 => Option.bind (setI s34.1 s34.2.2 (toU32 x57)) fun x63 => Option.bind (remK .u64 (bitsI .or .u64 x48 (IntKind.wrap .u64 (x49.toNat : Int))) (IntKind.wrap .u64 (x53.toNat : Int))) fun x71 => some (.nx (x63, x71, w64 (s34.2.2 - 1))) else some (.bk (s34.1, s34.2.1, s34.2.2))) (x17, 0, w64 ((a_.length : Int) - 1))) fun o23 => o23.andThen (fun y => some y) fun s24 =>
      Option.bind (portref2_whole_trim s24.1) fun x75 =>
      Option.bind (portref2_whole_trim ([(toU32 s24.2.1)] : List UInt32)) fun x90 =>
      some (x75, x90)
    else
      Option.bind (idx b (w64 ((b.length : Int) - 1))) fun x97 =>
      Option.bind (math_bits_LeadingZeros32 (x97.toNat : Int)) fun x101 =>
      Option.bind (portref2_whole_up a_ (IntKind.wrap .u64 x101)) fun x102 =>
      Option.bind (portref2_whole_up b (IntKind.wrap .u64 x101)) fun x110 =>
      Option.bind (makeL 70368744177664 (w64 ((w64 ((a_.length : Int) - (b.length : Int))) + 1)) (0 : UInt32)) fun x118 =>
      Option.bind (whileB (fun s137 => if (decide ((0 : Int) ≤ s137.2.2)) = true then Option.bind (idx s137.1 (w64 (s137.2.2 + (b.length : Int)))) fun x153 => Option.bind (shl .u64 (IntKind.wrap .u64 (x153.toNat : Int)) 32) fun x158 => Option.bind (idx s137.1 (w64 ((w64 (s137.2.2 + (b.length : Int))) - 1))) fun x159 => Option.bind (idx x110 (w64 ((b.length : Int) - 1))) fun x167 => Option.bind (quoK .u64 (bitsI .or .u64 x158 (IntKind.wrap .u64 (x159.toNat : Int))) (IntKind.wrap .u64 (x167.toNat : Int))) fun x172 => Option.bind (remK .u64 (bitsI .or .u64 x158 (IntKind.wrap .u64 (x159.toNat : Int))) (IntKind.wrap .u64 (x167.toNat : Int))) fun x177 => Option.bind (whileB (fun s190 => Option.bind (if (decide ((4294967296 : Int) ≤ s190.1)) = true then (some true) else (Option.bind (idx x110 (w64 ((b.length : Int) - 2))) fun x203 => Option.bind (shl .u64 s190.2 32) fun x208 => Option.bind (idx s137.1 (w64 ((w64 (s137.2.2 + (b.length : Int))) - 2))) fun x209 => some (decide ((bitsI .or .u64 x208 (IntKind.wrap .u64 (x209.toNat : Int))) < (IntKind.wrap .u64 (s190.1 * (IntKind.wrap .u64 (x203.toNat : Int)))))))) fun s202 => if s202 = true then if (decide ((4294967296 : Int) ≤ (IntKind.wrap .u64 (s190.2 + (IntKind.wrap .u64 (x167.toNat : Int)))))) = true then some (.bk (IntKind.wrap .u64 (s190.1 - 1), IntKind.wrap .u64 (s190.2 + (IntKind.wrap .u64 (x167.toNat : Int))))) else some (.nx (IntKind.wrap .u64 (s190.1 - 1), IntKind.wrap .u64 (s190.2 + (IntKind.wrap .u64 (x167.toNat : Int))))) else some (.bk (s190.1, s190.2))) (x172, x177)) fun o181 => o181.andThen (fun y => some (.rt y)) fun s182 => Option.bind (whileB (fun s238 => if (decide (s238.2.2 < (b.length : Int))) = true then Option.bind (idx x110 s238.2.2) fun x252 => Option.bind (idx s238.1 (w64 (s238.2.2 + s137.2.2))) fun x257 => Option.bind (setI s238.1 (w64 (s238.2.2 + s137.2.2)) (toU32 (w64 ((w64 ((IntKind.wrap .i64 (x257.toNat : Int)) - s238.2.1)) - (IntKind.wrap .i64 (bitsI .and .u64 (IntKind.wrap .u64 (s182.1 * (IntKind.wrap .u64 (x252.toNat : Int)))) 4294967295)))))) fun x266 => Option.bind (shr .u64 (IntKind.wrap .u64 (s182.1 * (IntKind.wrap .u64 (x252.toNat : Int)))) 32) fun x270 => Option.bind (shr .i64 (w64 ((w64 ((IntKind.wrap .i64 (x257.toNat : Int)) - s238.2.1)) - (IntKind.wrap .i64 (bitsI .and .u64 (IntKind.wrap .u64 (s182.1 * (IntKind.wrap .u64 (x252.toNat : Int)))) 4294967295)))) 32) fun x271 => some (.nx (x266, w64 ((IntKind.wrap .i64 x270) - x271), w64 (s238.2.2 + 1))) else some (.bk (s238.1, s238.2.1, s238.2.2))) (s137.1, 0, 0)) fun o227 => o227.andThen (fun y => some (.rt y)) fun s228 => Option.bind (idx s228.1 (w64 (s137.2.2 + (b.length : Int)))) fun x275 => Option.bind (setI s228.1 (w64 (s137.2.2 + (b.length : Int))) (toU32 (w64 ((IntKind.wrap .i64 (x275.toNat : Int)) - s228.2.1)))) fun x284 => Option.bind (if (decide ((w64 ((IntKind.wrap .i64 (x275.toNat : Int)) - s228.2.1)) < 0)) = true then Option.bind (whileB (R := Empty) (fun s310 => if (decide (s310.2.2 < (b.length : Int))) = true then Option.bind (idx s310.1 (w64 (s310.2.2 + s137.2.2))) fun x324 => Option.bind (idx x110 s310.2.2) fun x329 => Option.bind (setI s310.1 (w64 (s310.2.2 + s137.2.2)) (toU32 (IntKind.wrap .u64 (s310.2.1 + (IntKind.wrap .u64 ((IntKind.wrap .u64 (x324.toNat : Int)) + (IntKind.wrap .u64 (x329.toNat : Int)))))))) fun x341 => Option.bind (shr .u64 (IntKind.wrap .u64 (s310.2.1 + (IntKind.wrap .u64 ((IntKind.wrap .u64 (x324.toNat : Int)) + (IntKind.wrap .u64 (x329.toNat : Int)))))) 32) fun x345 => some (.nx (x341, x345, w64 (s310.2.2 + 1))) else some (.bk (s310.1, s310.2.1, s310.2.2))) (x284, 0, 0)) fun o299 => o299.andThen (fun y => y.elim) fun s300 => Option.bind (idx s300.1 (w64 (s137.2.2 + (b.length : Int)))) fun x349 => Option.bind (setI s300.1 (w64 (s137.2.2 + (b.length : Int))) (toU32 ((x349.toNat : Int) + ((toU32 s300.2.1).toNat : Int)))) fun x358 => some (x358, IntKind.wrap .u64 (s182.1 - 1)) else some (x284, s182.1)) fun s289 => Option.bind (idx s137.2.1 s137.2.2) fun x364 => Option.bind (setI s137.2.1 s137.2.2 (toU32 s289.2)) fun x369 => some (.nx (s289.1, x369, w64 (s137.2.2 - 1))) else some (.bk (s137.1, s137.2.1, s137.2.2))) (x102, x118, w64 ((a_.length : Int) - (b.length : Int)))) fun o124 => o124.andThen (fun y => some y) fun s125 =>
      Option.bind (makeL 70368744177664 (b.length : Int) (0 : UInt32)) fun x376 =>
      Option.bind (whileB (fun s393 => if (decide (s393.2 < (b.length : Int))) = true then Option.bind (idx s125.1 s393.2) fun x407 => Option.bind (shr .u32 (x407.toNat : Int) (IntKind.wrap .u64 x101)) fun x412 => Option.bind (idx s125.1 (w64 (s393.2 + 1))) fun x413 => Option.bind (shl .u64 (IntKind.wrap .u64 (x413.toNat : Int)) (IntKind.wrap .u64 (32 - (IntKind.wrap .u64 x101)))) fun x418 => Option.bind (idx s393.1 s393.2) fun x419 => Option.bind (setI s393.1 s393.2 (toU32 (bitsI .or .u32 x412 ((toU32 x418).toNat : Int)))) fun x427 => some (.nx (x427, w64 (s393.2 + 1))) else some (.bk (s393.1, s393.2))) (x376, 0)) fun o382 => o382.andThen (fun y => some y) fun s383 =>
      Option.bind (portref2_whole_trim s125.2.1) fun x434 =>
      Option.bind (portref2_whole_trim s383.1) fun x441 =>
      some (x434, x441)

/-- porterslodge portref2 lowest -/
noncomputable def portref2_lowest (num : (List UInt32)) (den : (List UInt32)) : Option portref2_ratio :=
  Option.bind (whileB (fun s23 => if (decide ((0 : Int) < (s23.2.length : Int))) = true then Option.bind (portref2_whole_by s23.1 s23.2) fun x39 => some (.nx (s23.2, x39.2)) else some (.bk (s23.1, s23.2))) (num, den)) fun o10 => o10.andThen (fun y => some y) fun s11 =>
  Option.bind (portref2_whole_by num s11.1) fun x56 =>
  Option.bind (portref2_whole_by den s11.1) fun x65 =>
  some (⟨x56.1, x65.1⟩ : portref2_ratio)

/-- porterslodge portref2 ratOf -/
noncomputable def portref2_ratOf (r_ : staff_Ratio) : Option portref2_ratio :=
  Option.bind (portref2_wholeText r_.num) fun x18 =>
  Option.bind (portref2_wholeText r_.den) fun x26 =>
  Option.bind (portref2_lowest x18 x26) fun x44 =>
  some x44

/-- porterslodge portref2 whole text -/
noncomputable def portref2_whole_text (a_ : (List UInt32)) : Option ByteArray :=
  if ((a_.length : Int) == 0) = true then
    some (⟨#[48]⟩ : ByteArray)
  else
    Option.bind (appendL 35184372088832 ([] : (List UInt32)) a_) fun x4 =>
    Option.bind (whileB (fun s23 => if (decide ((0 : Int) < (s23.2.length : Int))) = true then Option.bind (Option.bind (whileB (R := Empty) (fun s62 => if (decide ((0 : Int) ≤ s62.2.2)) = true then Option.bind (shl .u64 s62.2.1 32) fun x76 => Option.bind (idx s62.1 s62.2.2) fun x77 => Option.bind (quoK .u64 (bitsI .or .u64 x76 (IntKind.wrap .u64 (x77.toNat : Int))) 1000000000) fun x82 => Option.bind (setI s62.1 s62.2.2 (toU32 x82)) fun x87 => Option.bind (remK .u64 (bitsI .or .u64 x76 (IntKind.wrap .u64 (x77.toNat : Int))) 1000000000) fun x91 => some (.nx (x87, x91, w64 (s62.2.2 - 1))) else some (.bk (s62.1, s62.2.1, s62.2.2))) (s23.2, 0, w64 ((s23.2.length : Int) - 1))) fun o51 => o51.andThen (fun y => y.elim) fun s52 => Option.bind (portref2_whole_trim s52.1) fun x95 => Option.bind (whileB (R := Empty) (fun s113 => if ((decide (s113.2.2 < 9)) && ((decide ((0 : Int) < (x95.length : Int))) || (decide ((0 : Int) < s113.2.1)))) = true then Option.bind (remK .u64 s113.2.1 10) fun x131 => Option.bind (appendL 140737488355328 s113.1 ([(toU8 (IntKind.wrap .u64 (48 + x131)))] : List UInt8)) fun x138 => Option.bind (quoK .u64 s113.2.1 10) fun x144 => some (.nx (x138, x144, w64 (s113.2.2 + 1))) else some (.bk (s113.1, s113.2.1, s113.2.2))) (s23.1, s52.2.1, 0)) fun o102 => o102.andThen (fun y => y.elim) fun s103 => some (s103.1, x95)) fun s40 => some (.nx (s40.1, s40.2)) else some (.bk (s23.1, s23.2))) (([] : (List UInt8)), x4)) fun o10 => o10.andThen (fun y => some y) fun s11 =>
    Option.bind (whileB (fun s163 => if (decide (s163.2.1 < s163.2.2)) = true then Option.bind (idx s163.1 s163.2.2) fun x180 => Option.bind (idx s163.1 s163.2.1) fun x185 => Option.bind (setI s163.1 s163.2.1 x180) fun x194 => Option.bind (idx x194 s163.2.2) fun x198 => Option.bind (setI x194 s163.2.2 x185) fun x203 => some (.nx (x203, w64 (s163.2.1 + 1), w64 (s163.2.2 - 1))) else some (.bk (s163.1, s163.2.1, s163.2.2))) (s11.1, 0, w64 ((s11.1.length : Int) - 1))) fun o152 => o152.andThen (fun y => some y) fun s153 =>
    some (⟨s153.1.toArray⟩ : ByteArray)

/-- porterslodge portref2 ratioOf -/
noncomputable def portref2_ratioOf (x : portref2_ratio) : Option staff_Ratio :=
  Option.bind (portref2_whole_text x.num) fun x20 =>
  Option.bind (portref2_whole_text x.den) fun x25 =>
  some (⟨x20, x25⟩ : staff_Ratio)

/-- porterslodge portref2 RatioFault -/
noncomputable def portref2_RatioFault (r_ : staff_Ratio) : Option Int :=
  if ((decide ((20000 : Int) < (r_.num.size : Int))) || (decide ((20000 : Int) < (r_.den.size : Int)))) = true then
    some 4
  else
    Option.bind (Option.bind (portref2_digitString r_.num) fun x21 => if (!x21) = true then (some true) else (Option.bind (portref2_digitString r_.den) fun x28 => some (!x28))) fun s13 =>
    if s13 = true then
      some 8
    else
      if (strEq r_.den (⟨#[48]⟩ : ByteArray)) = true then
        some 2
      else
        Option.bind (portref2_ratOf r_) fun x41 =>
        Option.bind (portref2_ratioOf x41) fun x49 =>
        if (!(strEq x49.num r_.num && (strEq x49.den r_.den))) = true then
          some 1
        else
          some 0

/-- porterslodge portref2 twoRatios -/
noncomputable def portref2_twoRatios (a_ : staff_Ratio) (b : staff_Ratio) : Option Int :=
  Option.bind (portref2_RatioFault a_) fun x15 =>
  if (x15 != 0) = true then
    some x15
  else
    Option.bind (portref2_RatioFault b) fun x22 =>
    some x22

/-- porterslodge portref2 whole times -/
noncomputable def portref2_whole_times (a_ : (List UInt32)) (b : (List UInt32)) : Option (List UInt32) :=
  Option.bind (makeL 70368744177664 (w64 ((a_.length : Int) + (b.length : Int))) (0 : UInt32)) fun x5 =>
  Option.bind (rangeB (fun k14 s22 => Option.bind (rangeB (fun k40 s48 => Option.bind (idx a_ (k14 : Int)) fun x63 => Option.bind (idx b (k40 : Int)) fun x67 => Option.bind (idx s48.1 (w64 ((k14 : Int) + (k40 : Int)))) fun x71 => Option.bind (setI s48.1 (w64 ((k14 : Int) + (k40 : Int))) (toU32 (IntKind.wrap .u64 (s48.2 + (IntKind.wrap .u64 ((IntKind.wrap .u64 ((IntKind.wrap .u64 (x63.toNat : Int)) * (IntKind.wrap .u64 (x67.toNat : Int)))) + (IntKind.wrap .u64 (x71.toNat : Int)))))))) fun x83 => Option.bind (shr .u64 (IntKind.wrap .u64 (s48.2 + (IntKind.wrap .u64 ((IntKind.wrap .u64 ((IntKind.wrap .u64 (x63.toNat : Int)) * (IntKind.wrap .u64 (x67.toNat : Int)))) + (IntKind.wrap .u64 (x71.toNat : Int)))))) 32) fun x87 => some (.nx (x83, x87))) b.length 0 (s22, 0)) fun o37 => o37.andThen (fun y => some (.rt y)) fun s38 => Option.bind (idx s38.1 (w64 ((k14 : Int) + (b.length : Int)))) fun x91 => Option.bind (setI s38.1 (w64 ((k14 : Int) + (b.length : Int))) (toU32 s38.2)) fun x96 => some (.nx x96)) a_.length 0 x5) fun o11 => o11.andThen (fun y => some y) fun s12 =>
  Option.bind (portref2_whole_trim s12) fun x103 =>
  some x103

/-- porterslodge portref2 ratio cmp -/
noncomputable def portref2_ratio_cmp (a_ : portref2_ratio) (b : portref2_ratio) : Option Int :=
  Option.bind (portref2_whole_times a_.num b.den) fun x41 =>
  Option.bind (portref2_whole_times b.num a_.den) fun x49 =>
  Option.bind (portref2_whole_cmp x41 x49) fun x57 =>
  some x57

/-- porterslodge portref2 CompareRatios -/
noncomputable def portref2_CompareRatios (a_ : staff_Ratio) (b : staff_Ratio) : Option (Int × Int) :=
  Option.bind (portref2_twoRatios a_ b) fun x16 =>
  if (x16 != 0) = true then
    some (0, x16)
  else
    Option.bind (portref2_ratOf a_) fun x26 =>
    Option.bind (portref2_ratOf b) fun x34 =>
    Option.bind (portref2_ratio_cmp x26 x34) fun x42 =>
    some (x42, 0)

/-- porterslodge staff nat plus -/
noncomputable def staff_nat_plus (a_ : (List Int)) (b : (List Int)) : Option (List Int) :=
  Option.bind (if (decide ((a_.length : Int) < (b.length : Int))) = true then some (b, a_) else some (a_, b)) fun s6 =>
  Option.bind (makeC 35184372088832 (s6.1.length : Int) (w64 ((s6.1.length : Int) + 1)) (0 : Int)) fun x18 =>
  Option.bind (whileB (fun s38 => if ((decide (s38.2.2 < (s38.1.length : Int))) && ((decide (s38.2.2 < (s6.2.length : Int))) || (decide ((0 : Int) < s38.2.1)))) = true then Option.bind (idx s38.1 s38.2.2) fun x56 => Option.bind (if (decide (s38.2.2 < (s6.2.length : Int))) = true then Option.bind (idx s6.2 s38.2.2) fun x69 => some (w64 ((w64 (x56 + s38.2.1)) + x69)) else some (w64 (x56 + s38.2.1))) fun s62 => Option.bind (setI s38.1 s38.2.2 (Int.tmod s62 1000000000)) fun x79 => some (.nx (x79, w64 (Int.tdiv s62 1000000000), w64 (s38.2.2 + 1))) else some (.bk (s38.1, s38.2.1, s38.2.2))) ((copyL x18 s6.1), 0, 0)) fun o27 => o27.andThen (fun y => some y) fun s28 =>
  Option.bind (if (decide ((0 : Int) < s28.2.1)) = true then Option.bind (appendL 17592186044416 s28.1 ([s28.2.1] : List Int)) fun x102 => some x102 else some s28.1) fun s87 =>
  some s87

/-- strconv.Itoa -/
def strconv_Itoa (n : Int) : Option ByteArray :=
  if -9223372036854775808 ≤ n ∧ n ≤ 9223372036854775807 then some ⟨(Go.Lib.itoa n).toArray⟩ else none

/-- (*strings.Builder).WriteString -/
def strings_Builder_WriteString (b : ByteArray) (s : ByteArray) : Option (Int × Unit × ByteArray) :=
  if b.size + s.size ≤ 140737488355328 then some (s.size, (), b ++ s) else none

/-- (*strings.Builder).String -/
def strings_Builder_String (b : ByteArray) : Option ByteArray := some b

/-- porterslodge staff nat text -/
noncomputable def staff_nat_text (a_ : (List Int)) : Option ByteArray :=
  if ((a_.length : Int) == 0) = true then
    some (⟨#[48]⟩ : ByteArray)
  else
    Option.bind (idx a_ (w64 ((a_.length : Int) - 1))) fun x9 =>
    Option.bind (strconv_Itoa x9) fun x13 =>
    Option.bind (strings_Builder_WriteString ByteArray.empty x13) fun x17 =>
    Option.bind (whileB (fun s31 => if (decide ((0 : Int) ≤ s31.1)) = true then Option.bind (idx a_ s31.1) fun x44 => Option.bind (strconv_Itoa (w64 (1000000000 + x44))) fun x48 => Option.bind (sliceS x48 (some 1) none) fun x52 => Option.bind (strings_Builder_WriteString s31.2 x52) fun x53 => some (.nx (w64 (s31.1 - 1), x53.2.2)) else some (.bk (s31.1, s31.2))) (w64 ((a_.length : Int) - 2), x17.2.2)) fun o22 => o22.andThen (fun y => some y) fun s23 =>
    Option.bind (strings_Builder_String s23.2) fun x61 =>
    some x61

/-- porterslodge staff ratio written -/
noncomputable def staff_ratio_written (r_ : staff_ratio) : Option staff_Ratio :=
  Option.bind (staff_nat_text r_.num) fun x20 =>
  Option.bind (staff_nat_text r_.den) fun x25 =>
  some (⟨x20, x25⟩ : staff_Ratio)

/-- porterslodge staff limited -/
noncomputable def staff_limited (r_ : staff_ratio) : Option (staff_Ratio × Int) :=
  Option.bind (staff_ratio_written r_) fun x21 =>
  if ((decide ((20000 : Int) < (x21.num.size : Int))) || (decide ((20000 : Int) < (x21.den.size : Int)))) = true then
    some ((⟨ByteArray.empty, ByteArray.empty⟩ : staff_Ratio), 4)
  else
    some (x21, 0)

/-- porterslodge staff Plus -/
noncomputable def staff_Plus (a_ : staff_Ratio) (b : staff_Ratio) : Option (staff_Ratio × Int) :=
  Option.bind (staff_two a_ b) fun x21 =>
  if (x21.2.2 != 0) = true then
    some ((⟨ByteArray.empty, ByteArray.empty⟩ : staff_Ratio), x21.2.2)
  else
    Option.bind (staff_divisor x21.1.den x21.2.1.den) fun x81 =>
    Option.bind (staff_nat_by x21.1.den x81) fun x91 =>
    Option.bind (staff_nat_by x21.2.1.den x81) fun x103 =>
    Option.bind (staff_nat_times x21.1.num x103.1) fun x122 =>
    Option.bind (staff_nat_times x21.2.1.num x91.1) fun x128 =>
    Option.bind (staff_nat_plus x122 x128) fun x134 =>
    Option.bind (staff_divisor x134 x81) fun x147 =>
    Option.bind (staff_nat_by x134 x147) fun x153 =>
    Option.bind (staff_nat_by x21.2.1.den x147) fun x165 =>
    Option.bind (staff_nat_times x91.1 x165.1) fun x173 =>
    Option.bind (staff_limited (⟨x153.1, x173⟩ : staff_ratio)) fun x185 =>
    some (x185.1, x185.2)

/-- porterslodge portref2 whole plus -/
noncomputable def portref2_whole_plus (a_ : (List UInt32)) (b : (List UInt32)) : Option (List UInt32) :=
  Option.bind (if (decide ((a_.length : Int) < (b.length : Int))) = true then some (b, a_) else some (a_, b)) fun s6 =>
  Option.bind (makeC 70368744177664 0 (w64 ((s6.1.length : Int) + 1)) (0 : UInt32)) fun x18 =>
  Option.bind (rangeB (fun k27 s35 => Option.bind (idx s6.1 (k27 : Int)) fun x50 => Option.bind (if (decide ((k27 : Int) < (s6.2.length : Int))) = true then Option.bind (idx s6.2 (k27 : Int)) fun x61 => some (IntKind.wrap .u64 ((IntKind.wrap .u64 (s35.2 + (IntKind.wrap .u64 (x50.toNat : Int)))) + (IntKind.wrap .u64 (x61.toNat : Int)))) else some (IntKind.wrap .u64 (s35.2 + (IntKind.wrap .u64 (x50.toNat : Int))))) fun s55 => Option.bind (appendL 35184372088832 s35.1 ([(toU32 s55)] : List UInt32)) fun x73 => Option.bind (shr .u64 s55 32) fun x79 => some (.nx (x73, x79))) s6.1.length 0 (x18, 0)) fun o24 => o24.andThen (fun y => some y) fun s25 =>
  Option.bind (appendL 35184372088832 s25.1 ([(toU32 s25.2)] : List UInt32)) fun x89 =>
  Option.bind (portref2_whole_trim x89) fun x95 =>
  some x95

/-- porterslodge portref2 ratio plus -/
noncomputable def portref2_ratio_plus (a_ : portref2_ratio) (b : portref2_ratio) : Option portref2_ratio :=
  Option.bind (portref2_whole_times a_.num b.den) fun x54 =>
  Option.bind (portref2_whole_times b.num a_.den) fun x62 =>
  Option.bind (portref2_whole_plus x54 x62) fun x70 =>
  Option.bind (portref2_whole_times a_.den b.den) fun x78 =>
  Option.bind (portref2_lowest x70 x78) fun x96 =>
  some x96

/-- porterslodge portref2 ratio times -/
noncomputable def portref2_ratio_times (a_ : portref2_ratio) (b : portref2_ratio) : Option portref2_ratio :=
  Option.bind (portref2_whole_times a_.num b.num) fun x46 =>
  Option.bind (portref2_whole_times a_.den b.den) fun x54 =>
  Option.bind (portref2_lowest x46 x54) fun x72 =>
  some x72

/-- porterslodge portref2 OpOf -/
noncomputable def portref2_OpOf (a_ : staff_Ratio) (b : staff_Ratio) (times : Bool) : Option (staff_Ratio × Int) :=
  Option.bind (portref2_twoRatios a_ b) fun x21 =>
  if (x21 != 0) = true then
    some ((⟨ByteArray.empty, ByteArray.empty⟩ : staff_Ratio), x21)
  else
    Option.bind (portref2_ratOf a_) fun x151 =>
    Option.bind (portref2_ratOf b) fun x267 =>
    Option.bind (portref2_ratio_plus x151 x267) fun x375 =>
    Option.bind (if times = true then Option.bind (portref2_ratOf a_) fun x416 => Option.bind (portref2_ratOf b) fun x424 => Option.bind (portref2_ratio_times x416 x424) fun x432 => some x432 else some x375) fun s399 =>
    Option.bind (portref2_ratioOf s399) fun x451 =>
    if ((decide ((20000 : Int) < (x451.num.size : Int))) || (decide ((20000 : Int) < (x451.den.size : Int)))) = true then
      some ((⟨ByteArray.empty, ByteArray.empty⟩ : staff_Ratio), 4)
    else
      some (x451, 0)

/-- porterslodge staff lowest -/
noncomputable def staff_lowest (num : (List Int)) (den : (List Int)) : Option staff_ratio :=
  Option.bind (staff_divisor num den) fun x10 =>
  Option.bind (staff_nat_by num x10) fun x16 =>
  Option.bind (staff_nat_by den x10) fun x24 =>
  some (⟨x16.1, x24.1⟩ : staff_ratio)

/-- porterslodge staff Times -/
noncomputable def staff_Times (a_ : staff_Ratio) (b : staff_Ratio) : Option (staff_Ratio × Int) :=
  Option.bind (staff_two a_ b) fun x21 =>
  if (x21.2.2 != 0) = true then
    some ((⟨ByteArray.empty, ByteArray.empty⟩ : staff_Ratio), x21.2.2)
  else
    Option.bind (staff_lowest x21.1.num x21.2.1.den) fun x640 =>
    Option.bind (staff_lowest x21.2.1.num x21.1.den) fun x996 =>
    Option.bind (staff_nat_times x640.num x996.num) fun x1061 =>
    Option.bind (staff_nat_times x640.den x996.den) fun x1067 =>
    Option.bind (staff_limited (⟨x1061, x1067⟩ : staff_ratio)) fun x1079 =>
    some (x1079.1, x1079.2)

/-- porterslodge staff CheckRatio -/
noncomputable def staff_CheckRatio (r_ : staff_Ratio) : Option Int :=
  Option.bind (staff_read r_) fun x8 =>
  some x8.2

/-- porterslodge portlaw2 RatioSums -/
noncomputable def portlaw2_RatioSums (a_ : staff_Ratio) (b : staff_Ratio) : Option Bool :=
  Option.bind (staff_Compare a_ b) fun x16 =>
  Option.bind (portref2_CompareRatios a_ b) fun x22 =>
  Option.bind (staff_Plus a_ b) fun x28 =>
  Option.bind (portref2_OpOf a_ b false) fun x42 =>
  Option.bind (staff_Times a_ b) fun x56 =>
  Option.bind (portref2_OpOf a_ b true) fun x70 =>
  Option.bind (if ((((((x16.1 == x22.1) && (strEq x28.1.num x42.1.num && (strEq x28.1.den x42.1.den))) && (strEq x56.1.num x70.1.num && (strEq x56.1.den x70.1.den))) && (x16.2 == x22.2)) && (x28.2 == x42.2)) && (x56.2 == x70.2)) = true then (Option.bind (staff_CheckRatio a_) fun x99 => Option.bind (portref2_RatioFault a_) fun x101 => some (x99 == x101)) else (some false)) fun s97 =>
  some s97

end Go.Proofs.YtnnbhehaplphiaaGreatDoor.M
