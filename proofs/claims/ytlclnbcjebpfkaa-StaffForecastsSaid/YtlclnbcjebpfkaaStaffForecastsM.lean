/-
  Written by program (gen.py) from the IR of the dump: plain models of the functions.
-/
import Derived.Test.YtlclnbcjebpfkaaPu
namespace Go.Proofs.Ytlclnbcjebpfkaa.M
open Go Go.Pu
set_option linter.unusedVariables false


/-- porterslodge.staff.within -/
def staff_within (n : Int) (low : Int) (high : Int) : Bool :=
  ((decide (low ≤ n)) && (decide (n ≤ high)))

/-- porterslodge.staff.Forecast -/
noncomputable def staff_Forecast (history : (List Int)) (season : Int) (back : Int) : Option (Int × Int) :=
  if (decide ((5000 : Int) < (history.length : Int))) = true then
    some (0, 4)
  else
    Option.bind (rangeB (fun k16 _ => Option.bind (idx history (k16 : Int)) fun x27 => if (!(staff_within x27 0 100000)) = true then some (.rt (0, 2)) else some (.nx ())) history.length 0 ()) fun o12 => o12.andThen (fun y => some y) fun s13 =>
    if ((!(staff_within season 1 5000)) || (!(staff_within back 1 100))) = true then
      some (0, 2)
    else
      Option.bind (whileB (fun s49 => if ((decide ((0 : Int) ≤ s49.2.2)) && (decide (s49.2.1 < back))) = true then Option.bind (idx history s49.2.2) fun x62 => some (.nx (w64 (s49.1 + x62), w64 (s49.2.1 + 1), w64 (s49.2.2 - season))) else some (.bk (s49.1, s49.2.1, s49.2.2))) (0, 0, w64 ((history.length : Int) - season))) fun o44 => o44.andThen (fun y => some y) fun s45 =>
      if (s45.2.1 == 0) = true then
        some (0, 7)
      else
        Option.bind (quo (w64 ((w64 (2 * s45.1)) + s45.2.1)) (w64 (2 * s45.2.1))) fun x71 =>
        some (x71, 0)

/-- slices.IndexFunc[[]int,int] -/
def slices_IndexFunc_Lint_int (s : (List Int)) (f : Int → Option Bool) : Option Int :=
  Option.bind (rangeB (fun k11 _ => Option.bind (idx s (k11 : Int)) fun x22 => Option.bind (f x22) fun x26 => if x26 = true then some (.rt (k11 : Int)) else some (.nx ())) s.length 0 ()) fun o7 => o7.andThen (fun y => some y) fun s8 =>
  some (-1)

/-- slices.ContainsFunc[[]int,int] -/
def slices_ContainsFunc_Lint_int (s : (List Int)) (f : Int → Option Bool) : Option Bool :=
  Option.bind (slices_IndexFunc_Lint_int s f) fun x3 =>
  some (decide ((0 : Int) ≤ x3))

/-- porterslodge.portref2.ForecastOf$1 -/
def portref2_ForecastOf_1 (n : Int) : Bool :=
  ((decide (n < 0)) || (decide ((100000 : Int) < n)))

/-- porterslodge.portref2.ForecastOf -/
noncomputable def portref2_ForecastOf (history : (List Int)) (season : Int) (back : Int) : Option (Int × Int) :=
  if (decide ((5000 : Int) < (history.length : Int))) = true then
    some (0, 4)
  else
    Option.bind (slices_ContainsFunc_Lint_int history (fun y8 => some (portref2_ForecastOf_1 y8))) fun x9 =>
    if ((((x9 || (decide (season < 1))) || (decide ((5000 : Int) < season))) || (decide (back < 1))) || (decide ((100 : Int) < back))) = true then
      some (0, 2)
    else
      Option.bind (whileB (fun s40 => if ((decide ((0 : Int) ≤ s40.2.2)) && (decide (s40.2.1 < back))) = true then Option.bind (idx history s40.2.2) fun x53 => some (.nx (w64 (s40.1 + x53), w64 (s40.2.1 + 1), w64 (s40.2.2 - season))) else some (.bk (s40.1, s40.2.1, s40.2.2))) (0, 0, w64 ((history.length : Int) - season))) fun o35 => o35.andThen (fun y => some y) fun s36 =>
      if (s36.2.1 == 0) = true then
        some (0, 7)
      else
        Option.bind (quo (w64 ((w64 (2 * s36.1)) + s36.2.1)) (w64 (2 * s36.2.1))) fun x62 =>
        some (x62, 0)

/-- porterslodge.portlaw2.StaffForecasts -/
noncomputable def portlaw2_StaffForecasts (history : (List Int)) (season : Int) (back : Int) : Option Bool :=
  Option.bind (staff_Forecast history season back) fun x3 =>
  Option.bind (portref2_ForecastOf history season back) fun x4 =>
  some ((x3.1 == x4.1) && (x3.2 == x4.2))

end Go.Proofs.Ytlclnbcjebpfkaa.M
