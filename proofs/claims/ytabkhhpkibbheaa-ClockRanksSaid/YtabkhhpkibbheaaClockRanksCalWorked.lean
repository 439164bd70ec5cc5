import Derived.Test.YtabkhhpkibbheaaClockRanksCalCount
namespace Go.Proofs.Ytabkhhpkibbheaa.M
open Go Go.Pu
set_option linter.unusedSimpArgs false
set_option linter.unusedVariables false
theorem sum_iter {O : Int → Prop} {b : Int} (hb : b ≤ 3000001) : ∀ (l : List cal_Span) (a n : Int), 0 ≤ a → a ≤ b → 0 ≤ n → n ≤ a → Apart O a b l → l.foldl (fun (s59 : Int) (x68 : cal_Span) => w64 (s59 + (w64 (x68.to_ - x68.from_)))) n = n + cnt O a b
 | [], a, n, h0, hab, hn, hna, hl => by
  rw [cnt_none fun u h1 h2 => apart_nil hl u h1 h2]
  simp
 | x :: l, a, n, h0, hab, hn, hna, hl => by
  obtain ⟨g1, g2, g3, g4⟩ := apart_cons hl
  have e1 : w64 (x.to_ - x.from_) = x.to_ - x.from_ := w64_id (by omega) (by omega)
  rw [List.foldl_cons, e1, w64_id (n := n + (x.to_ - x.from_)) (by omega) (by omega), sum_iter hb l x.to_ _ (by omega) (by omega) (by omega) (by omega) (apart_tail hl)]
  rw [cnt_split (O := O) (a := a) (m := x.from_) (b := b) (by omega) (by omega), cnt_none (O := O) (a := a) (b := x.from_) (fun u h1 h2 => g2 u h1 h2), cnt_split (O := O) (a := x.from_) (m := x.to_) (b := b) (by omega) (by omega), cnt_all (O := O) (a := x.from_) (b := x.to_) (by omega) g3]
  omega
theorem worked_val {c : cal_Calendar} (hc : CalOk c) (hcc : cal_CheckCalendar c = some 0) (from_ to_ : Int) (h0 : 0 ≤ from_) (h1 : from_ ≤ 3000000) (h2 : from_ ≤ to_) (h3 : to_ ≤ 3000001) : cal_Worked c from_ to_ = some (cnt (Opn c) from_ to_, 0) := by
 have hst : cal_stretch from_ to_ = 0 := by
  have e1 : cal_within from_ 0 3000000 = true := by simp [cal_within]; omega
  have e2 : cal_within to_ 0 3000001 = true := by simp [cal_within]; omega
  have e3 : ¬ to_ < from_ := by omega
  simp [cal_stretch, e1, e2, e3]
 unfold cal_Worked
 simp only [hcc, Option.bind_some, or_two, hst, ne_eq, not_true, if_false, bne_self_eq_false, Bool.false_eq_true, cal_Calendar_open]
 have hop := open_spec hc from_ to_ (by omega) (by omega)
 rw [open_val hc from_ to_ (by omega) (by omega)]
 have hf := iter_fold (fun (s59 : Int) (x68 : cal_Span) => w64 (s59 + (w64 (x68.to_ - x68.from_)))) (openL c from_ to_) 0
 rw [hf]
 have := sum_iter h3 (openL c from_ to_) from_ 0 h0 h2 (by omega) h0 hop
 simp [this]
end Go.Proofs.Ytabkhhpkibbheaa.M
