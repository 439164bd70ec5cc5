/-
  Written by program (gen.py) from the IR of the dump: plain models of the functions.
-/
import Derived.Test.YtlimocfkknfdgaaPu
namespace Go.Proofs.Ytlimocfkknfdgaa.M
open Go Go.Pu
set_option linter.unusedVariables false

structure know_Vote where
  id : Int
  at_ : Int
  good : Bool

/-- porterslodge know within -/
def know_within (n : Int) (low : Int) (high : Int) : Bool :=
  ((decide (low ≤ n)) && (decide (n ≤ high)))

/-- porterslodge know Worth -/
def know_Worth (l : (List know_Vote)) (id : Int) (m : Int) (half : Int) : Option (Int × Int) :=
  if (decide ((5000 : Int) < (l.length : Int))) = true then
    some (0, 4)
  else
    Option.bind (rangeB (fun k16 _ => Option.bind (idx l (k16 : Int)) fun x30 => if (!(know_within x30.at_ 0 3000000)) = true then some (.rt (0, 2)) else some (.nx ())) l.length 0 ()) fun o12 => o12.andThen (fun y => some y) fun s13 =>
    if ((!(know_within m 0 3000000)) || (!(know_within half 1 3000000))) = true then
      some (0, 2)
    else
      Option.bind (rangeB (fun k57 s61 => Option.bind (Option.bind (idx l (k57 : Int)) fun x77 => if ((x77.id != id) || (decide (m < x77.at_))) = true then some s61 else Option.bind (quo (w64 (m - x77.at_)) half) fun x96 => if (decide ((20 : Int) ≤ x96)) = true then some s61 else Option.bind (shr .i64 1000000 x96) fun x98 => Option.bind (if (!x77.good) = true then some (w64 (0 - x98)) else some x98) fun s101 => some (w64 (s61 + s101))) fun s72 => some (.nx s72)) l.length 0 0) fun o53 => o53.andThen (fun y => some y) fun s54 =>
      some (s54, 0)

/-- slices IndexFunc porterslodge know Vote porterslodge know Vote -/
def slices_IndexFunc_Lknow_Vote_know_Vote (s : (List know_Vote)) (f : know_Vote → Option Bool) : Option Int :=
  Option.bind (rangeB (fun k11 _ => Option.bind (idx s (k11 : Int)) fun x26 => Option.bind (f x26) fun x31 => if x31 = true then some (.rt (k11 : Int)) else some (.nx ())) s.length 0 ()) fun o7 => o7.andThen (fun y => some y) fun s8 =>
  some (-1)

/-- slices ContainsFunc porterslodge know Vote porterslodge know Vote -/
def slices_ContainsFunc_Lknow_Vote_know_Vote (s : (List know_Vote)) (f : know_Vote → Option Bool) : Option Bool :=
  Option.bind (slices_IndexFunc_Lknow_Vote_know_Vote s f) fun x3 =>
  some (decide ((0 : Int) ≤ x3))

/-- porterslodge portref2 IsMoment -/
def portref2_IsMoment (m : Int) : Bool :=
  ((decide ((0 : Int) ≤ m)) && (decide (m ≤ 3000000)))

/-- porterslodge portref2 WorthOf 1 -/
def portref2_WorthOf_1 (v : know_Vote) : Option Bool :=
  some (!(portref2_IsMoment v.at_))

/-- porterslodge portref2 WorthOf -/
noncomputable def portref2_WorthOf (l : (List know_Vote)) (id : Int) (m : Int) (half : Int) : Option (Int × Int) :=
  if (decide ((5000 : Int) < (l.length : Int))) = true then
    some (0, 4)
  else
    Option.bind (slices_ContainsFunc_Lknow_Vote_know_Vote l (fun y8 => portref2_WorthOf_1 y8)) fun x9 =>
    if (((x9 || (!(portref2_IsMoment m))) || (decide (half < 1))) || (decide ((3000000 : Int) < half))) = true then
      some (0, 2)
    else
      Option.bind (rangeB (fun k37 s41 => Option.bind (Option.bind (idx l (k37 : Int)) fun x57 => if ((x57.id != id) || (decide (m < x57.at_))) = true then some s41 else Option.bind (quo (w64 (m - x57.at_)) half) fun x76 => Option.bind (whileB (R := Empty) (fun s85 => if ((decide ((0 : Int) < s85.2)) && (decide ((0 : Int) < s85.1))) = true then some (.nx (w64 (Int.tdiv s85.1 2), w64 (s85.2 - 1))) else some (.bk (s85.1, s85.2))) (1000000, x76)) fun o77 => o77.andThen (fun y => y.elim) fun s78 => Option.bind (if (decide ((20 : Int) ≤ x76)) = true then some 0 else some s78.1) fun s101 => Option.bind (if (!x57.good) = true then some (w64 (0 - s101)) else some s101) fun s109 => some (w64 (s41 + s109))) fun s52 => some (.nx s52)) l.length 0 0) fun o33 => o33.andThen (fun y => some y) fun s34 =>
      some (s34, 0)

/-- porterslodge portlaw2 KnowWorth -/
noncomputable def portlaw2_KnowWorth (l : (List know_Vote)) (id : Int) (m : Int) (half : Int) : Option Bool :=
  Option.bind (know_Worth l id m half) fun x3 =>
  Option.bind (portref2_WorthOf l id m half) fun x6 =>
  some ((x3.1 == x6.1) && (x3.2 == x6.2))

end Go.Proofs.Ytlimocfkknfdgaa.M
