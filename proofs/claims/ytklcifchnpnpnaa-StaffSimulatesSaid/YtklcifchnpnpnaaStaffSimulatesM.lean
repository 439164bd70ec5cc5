/-
  Written by program (gen.py) from the IR of the dump: plain models of the functions.
-/
import Derived.Test.YtklcifchnpnpnaaPu
namespace Go.Proofs.Ytklcifchnpnpnaa.M
open Go Go.Pu
set_option linter.unusedVariables false
set_option linter.unusedSimpArgs false

structure staff_Call where
  at_ : Int
  length : Int

def sortIntsL (l : List Int) : Option (List Int) := if l.length < 4611686018427387904 then some (l.mergeSort fun x y => decide (x ≤ y)) else none

/-- porterslodge staff within -/
def staff_within (n : Int) (low : Int) (high : Int) : Bool :=
  ((decide (low ≤ n)) && (decide (n ≤ high)))

/-- slices Min int int -/
noncomputable def slices_Min_Lint_int (x : (List Int)) : Option Int :=
  if (decide ((x.length : Int) < 1)) = true then
    none
  else
    Option.bind (idx x 0) fun x4 =>
    Option.bind (whileB (fun s15 => if (decide (s15.2 < (x.length : Int))) = true then Option.bind (idx x s15.2) fun x26 => some (.nx ((if x26 < s15.1 then x26 else s15.1), w64 (s15.2 + 1))) else some (.bk (s15.1, s15.2))) (x4, 1)) fun o8 => o8.andThen (fun y => some y) fun s9 =>
    some s9.1

/-- slices Index int int -/
def slices_Index_Lint_int (s : (List Int)) (v : Int) : Option Int :=
  Option.bind (rangeB (fun k6 _ => Option.bind (idx s (k6 : Int)) fun x21 => if (v == x21) = true then some (.rt (k6 : Int)) else some (.nx ())) s.length 0 ()) fun o3 => o3.andThen (fun y => some y) fun s4 =>
  some (-1)

/-- porterslodge staff Simulate -/
noncomputable def staff_Simulate (calls : (List staff_Call)) (n : Int) : Option ((List Int) × Int) :=
  if (decide ((10000 : Int) < (calls.length : Int))) = true then
    some (([] : (List Int)), 4)
  else
    Option.bind (rangeB (fun k7 s14 => Option.bind (idx calls (k7 : Int)) fun x27 => if ((!(staff_within x27.at_ 0 3000000)) || (!(staff_within x27.length 1 1440))) = true then some (.rt (([] : (List Int)), 2)) else if (decide (x27.at_ < s14)) = true then some (.rt (([] : (List Int)), 5)) else some (.nx x27.at_)) calls.length 0 0) fun o4 => o4.andThen (fun y => some y) fun s5 =>
    if (!(staff_within n 1 60)) = true then
      some (([] : (List Int)), 2)
    else
      Option.bind (makeL 35184372088832 n (0 : Int)) fun x52 =>
      Option.bind (rangeB (fun k61 s71 => Option.bind (idx calls (k61 : Int)) fun x88 => Option.bind (slices_Min_Lint_int s71.1) fun x101 => Option.bind (slices_Index_Lint_int s71.1 x101) fun x105 => Option.bind (idx s71.1 x105) fun x107 => Option.bind (appendL 17592186044416 s71.2 ([w64 ((if x88.at_ < x107 then x107 else x88.at_) - x88.at_)] : List Int)) fun x121 => Option.bind (setI s71.1 x105 (w64 ((if x88.at_ < x107 then x107 else x88.at_) + x88.length))) fun x132 => some (.nx (x132, x121))) calls.length 0 (x52, ([] : (List Int)))) fun o58 => o58.andThen (fun y => some y) fun s59 =>
      some (s59.2, 0)

/-- porterslodge portref2 IsMoment -/
def portref2_IsMoment (m : Int) : Bool :=
  ((decide ((0 : Int) ≤ m)) && (decide (m ≤ 3000000)))

/-- porterslodge portref2 SimulateOf -/
def portref2_SimulateOf (calls : (List staff_Call)) (n : Int) : Option ((List Int) × Int) :=
  if (decide ((10000 : Int) < (calls.length : Int))) = true then
    some (([] : (List Int)), 4)
  else
    Option.bind (rangeB (fun k7 _ => Option.bind (idx calls (k7 : Int)) fun x27 => if (((!(portref2_IsMoment x27.at_)) || (decide (x27.length < 1))) || (decide ((1440 : Int) < x27.length))) = true then some (.rt (([] : (List Int)), 2)) else Option.bind (if (decide ((0 : Int) < (k7 : Int))) = true then (Option.bind (idx calls (w64 ((k7 : Int) - 1))) fun x51 => some (decide (x27.at_ < x51.at_))) else (some false)) fun s49 => if s49 = true then some (.rt (([] : (List Int)), 5)) else some (.nx ())) calls.length 0 ()) fun o4 => o4.andThen (fun y => some y) fun s5 =>
    if ((decide (n < 1)) || (decide ((60 : Int) < n))) = true then
      some (([] : (List Int)), 2)
    else
      Option.bind (makeL 35184372088832 n (0 : Int)) fun x66 =>
      Option.bind (rangeB (fun k75 s85 => Option.bind (idx calls (k75 : Int)) fun x102 => Option.bind (sortIntsL s85.1) fun x115 => Option.bind (idx x115 0) fun x120 => Option.bind (setI x115 0 (w64 ((if x102.at_ < x120 then x120 else x102.at_) + x102.length))) fun x133 => Option.bind (appendL 17592186044416 s85.2 ([w64 ((if x102.at_ < x120 then x120 else x102.at_) - x102.at_)] : List Int)) fun x143 => some (.nx (x133, x143))) calls.length 0 (x66, ([] : (List Int)))) fun o72 => o72.andThen (fun y => some y) fun s73 =>
      some (s73.2, 0)

/-- slices Equal int int -/
def slices_Equal_Lint_int (s1 : (List Int)) (s2 : (List Int)) : Option Bool :=
  if ((s1.length : Int) != (s2.length : Int)) = true then
    some false
  else
    Option.bind (rangeB (fun k9 _ => Option.bind (idx s1 (k9 : Int)) fun x29 => Option.bind (idx s2 (k9 : Int)) fun x33 => if (x29 != x33) = true then some (.rt false) else some (.nx ())) s1.length 0 ()) fun o6 => o6.andThen (fun y => some y) fun s7 =>
    some true

/-- porterslodge portlaw2 StaffSimulates -/
noncomputable def portlaw2_StaffSimulates (calls : (List staff_Call)) (n : Int) : Option Bool :=
  Option.bind (staff_Simulate calls n) fun x3 =>
  Option.bind (portref2_SimulateOf calls n) fun x11 =>
  Option.bind (if (x3.2 == x11.2) = true then (Option.bind (slices_Equal_Lint_int x3.1 x11.1) fun x28 => some x28) else (some false)) fun s20 =>
  some s20

end Go.Proofs.Ytklcifchnpnpnaa.M
