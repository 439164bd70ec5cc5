import Derived.Test.YtabkhhpkibbheaaClockRanksCalIter
namespace Go.Proofs.Ytabkhhpkibbheaa.M
open Go Go.Pu
set_option linter.unusedSimpArgs false
set_option linter.unusedVariables false
theorem apart_nil {O : Int → Prop} {a b : Int} (h : Apart O a b []) (m : Int) (h1 : a ≤ m) (h2 : m < b) : ¬ O m := by
 rw [h.all m h1 h2]
 simp
theorem apart_cons {O : Int → Prop} {a b : Int} {x : cal_Span} {l : List cal_Span} (h : Apart O a b (x :: l)) : (a ≤ x.from_ ∧ x.from_ < x.to_ ∧ x.to_ ≤ b) ∧ (∀ m, a ≤ m → m < x.from_ → ¬ O m) ∧ (∀ m, x.from_ ≤ m → m < x.to_ → O m) ∧ (x.to_ < b → ¬ O x.to_) := by
 have he := h.each x (by simp)
 have hp := (List.pairwise_cons.1 h.apart).1
 refine ⟨he, fun m h1 h2 => ?_, fun m h1 h2 => (h.all m (by omega) (by omega)).2 ⟨x, by simp, h1, h2⟩, fun h1 => ?_⟩
 ·rw [h.all m h1 (by omega)]
  rintro ⟨y, hy, q1, q2⟩
  rcases List.mem_cons.1 hy with rfl | hy
  ·omega
  ·have := hp y hy; omega
 ·rw [h.all _ (by omega) h1]
  rintro ⟨y, hy, q1, q2⟩
  rcases List.mem_cons.1 hy with rfl | hy
  ·omega
  ·have := hp y hy; omega
theorem apart_tail {O : Int → Prop} {a b : Int} {x : cal_Span} {l : List cal_Span} (h : Apart O a b (x :: l)) : Apart O x.to_ b l := by
 have hp := List.pairwise_cons.1 h.apart
 refine ⟨fun y hy => ?_, hp.2, fun m h1 h2 => ?_⟩
 ·have := hp.1 y hy
  have := h.each y (by simp [hy])
  omega
 ·have hx := h.each x (by simp)
  rw [h.all m (by omega) h2]
  constructor
  ·rintro ⟨y, hy, q1, q2⟩
   rcases List.mem_cons.1 hy with rfl | hy
   ·omega
   ·exact ⟨y, hy, q1, q2⟩
  ·rintro ⟨y, hy, q1, q2⟩
   exact ⟨y, List.mem_cons_of_mem _ hy, q1, q2⟩
def wk (l : List cal_Shift) (d : Int) : Nat := (l.filter fun s => s.day == d % 7).length
def WS (l : List cal_Shift) : Int → Nat → Nat
 | _, 0 => 0
 | d, n + 1 => wk l d + WS l (d + 1) n
theorem iter_fold {S : Type} (f : S → cal_Span → S) : ∀ (l : List cal_Span) (s : S), iterB (yieldB (fun (x : cal_Span) (s : S) => some (f s x, none))) l (s, none) = some (true, (l.foldl f s, none))
 | [], s => rfl
 | x :: l, s => by
  rw [iterB]
  simp only [yieldB, Option.isNone_none, if_true, Option.bind_some, List.foldl_cons]
  have := iter_fold f l (f s x)
  exact this
end Go.Proofs.Ytabkhhpkibbheaa.M
