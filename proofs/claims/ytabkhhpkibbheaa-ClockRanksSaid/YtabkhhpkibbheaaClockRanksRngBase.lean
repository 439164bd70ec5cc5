import Derived.Test.YtabkhhpkibbheaaClockRanksM
import Derived.Test.YtabkhhpkibbheaaPl
import Derived.Test.YtabkhhpkibbheaaPr
namespace Go.Proofs.Ytabkhhpkibbheaa.M
open Go Go.Pu
set_option linter.unusedSimpArgs false
set_option linter.unusedVariables false
def rng {β : Type} (f : Nat → List β) : Nat → List β
 | 0 => []
 | n + 1 => rng f n ++ f n
theorem uniq_sorted {α : Type} (le : α → α → Prop) (anti : ∀ x y, le x y → le y x → x = y) : ∀ (l m : List α), l.Perm m → l.Pairwise le → m.Pairwise le → l = m := by
 intro l
 induction l with
 | nil => intro m h _ _; exact (List.nil_perm.1 h).symm
 | cons a l ih =>
  intro m h hl hm
  cases m with
  | nil => exact absurd h.length_eq (by simp)
  | cons b m =>
   rw [List.pairwise_cons] at hl hm
   have hab : a = b := by
    have h1 := h.mem_iff.1 (List.mem_cons_self (a := a) (l := l))
    have h2 := h.mem_iff.2 (List.mem_cons_self (a := b) (l := m))
    rcases List.mem_cons.1 h1 with e | e
    ·exact e
    ·rcases List.mem_cons.1 h2 with e' | e'
     ·exact e'.symm
     ·exact anti _ _ (hl.1 b e') (hm.1 a e)
   subst hab
   rw [ih m ((List.perm_cons a).1 h) hl.2 hm.2]
def tab {α : Type} (f : Nat → α) (m : Nat) : List α := (List.range m).map f
end Go.Proofs.Ytabkhhpkibbheaa.M
