import Derived.Test.YtabkhhpkibbheaaClockRanksClkFirst
import Derived.Test.YtabkhhpkibbheaaClockRanksClkX
namespace Go.Proofs.Ytabkhhpkibbheaa.M
open Go Go.Pu
set_option linter.unusedSimpArgs false
set_option linter.unusedVariables false
theorem rdue_val {cals : List cal_Calendar} (c : level_Clock) (hlen : c.pieces.length ≤ 6000) (h0 : 0 ≤ c.start) (h1 : c.start ≤ 3000000) (hs : SortedP cals c.start c.pieces) (hk0 : 0 ≤ c.minutes) (hk1 : c.minutes ≤ 3000000) {d : Int} (hd : DueSpec (OC cals c.pieces) c.start c.minutes d) : portref2_meter_due ⟨cals⟩ c = some d := by
 unfold portref2_meter_due
 rw [w64_id (n := c.minutes + 1) (by omega) (by omega)]
 obtain ⟨f, hf, f1, f2, f3, f4⟩ := first_val c hlen h0 h1 hs (c.minutes + 1)
 rw [hf]
 simp only [Option.bind_some]
 rw [w64_id (by omega) (by omega)]
 congr 1
 rcases hd with ⟨d1, d2, d3, d4⟩ | ⟨rfl, d2⟩
 ·have hs := cnt_step_yes d1 d4
  have g1 : d + 1 ≤ f := by
   refine Int.not_lt.1 fun h => ?_
   have := f4 (by omega)
   have := cnt_mono (O := OC cals c.pieces) (a := c.start) (m := f) (b := d) f1 (by omega)
   omega
  have g2 : f ≤ d + 1 := Int.not_lt.1 fun h => by have := f3 (d + 1) (by omega) h; omega
  omega
 ·have : ¬ f ≤ 3000000 := fun h => by
   have := f4 h
   have := cnt_mono (O := OC cals c.pieces) (a := c.start) (m := f) (b := 3000001) f1 (by omega)
   omega
  omega
end Go.Proofs.Ytabkhhpkibbheaa.M
