/-
  Maps of the call's own that from some point on are only read, through a variable that closures may hold.
-/
import Derived.Test.YteoinebegjpodaaGreatDoorHa
namespace Go.Gw
open Go Go.RowKit Go.Pu
variable {Dw : Prop}
set_option linter.unusedSimpArgs false
set_option linter.unusedVariables false

section
variable {κ α : Type} [Mk κ] [Cel α]
/-- a map's block that is only read -/
def Fm (A : Nat → Prop) (w : World) (mb : Nat) (l : List (κ × α)) : Prop := A mb ∧ mb < w.heap.size ∧ ∃ es clk, w.heap[mb]? = some (.map es clk) ∧ es.toList.map (fun e => (e.key, e.val)) = l.map encE ∧ (l.map (·.1)).Nodup
variable {A A1 : Nat → Prop} {w w1 : World} {B mb : Nat} {l : List (κ × α)} {L : List Ob} {i : Nat}
theorem Fm.keep (h : Fm A w mb l) (he : Ex A w A1 w1) : Fm A1 w1 mb l := by
  obtain ⟨h1, h2, es, clk, h3, h4, h5⟩ := h
  obtain ⟨h6, h7⟩ := he.block mb h2 h1
  exact ⟨h6, Nat.lt_of_lt_of_le h2 he.size, es, clk, h7.trans h3, h4, h5⟩
theorem Fm.kp (h : Fm A w mb l) (he : Kp Dw w w1) : Fm A w1 mb l := h.keep (.kp he)
theorem Fm.tr (h : Fm A w mb l) (m : Tr Dw B A w A1 w1) : Fm A1 w1 mb l := h.keep m.ex
theorem Fm.hp (h : Fm A w mb l) : Hp 0 (fun _ => False) w [obSM mb l] := by
  obtain ⟨h1, h2, h3⟩ := h
  exact ⟨[mb], ⟨[mb], [], rfl, by simp, ⟨rfl, h3⟩, rfl⟩, fun b hb => by simp at hb; subst hb; exact ⟨Nat.zero_le _, h2, fun h => h⟩⟩
instance : GoT (Fmap κ α) where
  cells := 1
  wf _ := True
  rep A w cs x := ∃ mb, cs = [.map (some mb)] ∧ Fm A w mb x.l
  len h := by obtain ⟨mb, rfl, _⟩ := h; rfl
  one {_ _ _ x} h u hu := by obtain ⟨mb, rfl, _⟩ := h; simp at hu; subst hu; rfl
  keep h he := by obtain ⟨mb, e, h1⟩ := h; exact ⟨mb, e, h1.keep he⟩
theorem El.map {b off : Nat} {x : Fmap κ α} (h : El A w b off x) : ∃ mb, w.cell? ⟨b, off, none⟩ = some (.map (some mb)) ∧ Fm A w mb x.l := by
  obtain ⟨h1, h2, cs, ⟨mb, rfl, h3⟩, h4⟩ := h
  refine ⟨mb, ?_, h3⟩
  have := h4 0 (.map (some mb)) rfl
  simpa using this
theorem Hp.freezeSM {b : Nat} (h : Hp B A w L) (hi : L[i]? = some (obSM mb l)) (hA : ∀ b, w.heap.size ≤ b → A b) (hv : Vb A w b (.map (some mb))) : ∃ A1 : Nat → Prop, Tr Dw B A w A1 w ∧ El A1 w b 0 (⟨l⟩ : Fmap κ α) ∧ Hp B A1 w (L.eraseIdx i) := by
  obtain ⟨A1, f, ⟨rfl, hp⟩, hf, hs, ht, hh⟩ := h.frz (Dw := Dw) hi hA
  obtain ⟨h1, h2⟩ := hf mb (by simp)
  refine ⟨A1, ht, ⟨hs _ hv.1, hv.2.1, [.map (some mb)], ⟨mb, rfl, h1, h2, hp⟩, ?_⟩, hh⟩
  intro j u hj
  match j, hj with
  | 0, hj =>
    simp at hj
    subst hj
    simpa using hv.2.2
end
end Go.Gw
