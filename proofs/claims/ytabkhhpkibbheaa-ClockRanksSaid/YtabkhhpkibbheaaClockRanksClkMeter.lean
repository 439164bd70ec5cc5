import Derived.Test.YtabkhhpkibbheaaClockRanksClkX
namespace Go.Proofs.Ytabkhhpkibbheaa.M
open Go Go.Pu
set_option linter.unusedSimpArgs false
set_option linter.unusedVariables false
theorem meter_val (cals : List cal_Calendar) (h : cals.length ≤ 1000) : portref2_newMeter cals = some ⟨cals⟩ := by
 unfold portref2_newMeter
 obtain ⟨t, ht, hI⟩ := rangeB_inv (R := portref2_meter) (b := fun k11 s19 => Option.bind (idx cals (k11 : Int)) fun x34 => Option.bind (portref2_NewClock x34) fun x72 => Option.bind (appendL 17592186044416 s19.clocks [x72]) fun x86 => some (.nx (⟨x86⟩ : portref2_meter))) cals.length (fun k s => s = ⟨cals.take k⟩) (s := ⟨[]⟩) (by simp) (by
  rintro k s hk rfl
  refine ⟨_, ?_, rfl⟩
  have hx := List.getElem?_eq_getElem hk
  rw [idx_nat, hx]
  simp only [Option.bind_some, portref2_NewClock]
  unfold appendL
  rw [if_pos (by simp; omega)]
  rw [List.take_add_one, hx]
  rfl)
 rw [ht, hI]
 simp [Lp.andThen]
end Go.Proofs.Ytabkhhpkibbheaa.M
