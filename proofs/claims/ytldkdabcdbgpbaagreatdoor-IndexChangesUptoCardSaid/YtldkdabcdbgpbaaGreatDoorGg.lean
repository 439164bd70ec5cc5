import Derived.Test.YtldkdabcdbgpbaaGreatDoorGi
import Derived.Lib.Split
import Derived.Shelf.Strings.FuncGrows
namespace Go.Gw
open Go Go.RowKit Go.Pu Go.Proofs
variable {Dw : Prop}
set_option linter.unusedSimpArgs false
set_option linter.unusedVariables false
def Mx (P : Program) (g : Nat) (A : Nat → Prop) (w : World) : Prop := (∃ m, w.cell? ⟨g, 0, none⟩ = some (.int .i64 m)) ∧ A g ∧ g < w.heap.size
def Tx (P : Program) (g : Nat) (A : Nat → Prop) (w : World) : Prop := Tb P A w ∧ Mx P g A w
section
variable {P : Program} {A A1 : Nat → Prop} {w w1 : World} {B g : Nat}
theorem Mx.to (h : Mx P g A w) (hh : ∀ g, g < w.heap.size → A g → w1.heap[g]? = w.heap[g]? ∧ A1 g) (hs : w.heap.size ≤ w1.heap.size) : Mx P g A1 w1 := by
 obtain ⟨⟨m, h1⟩, h2, h3⟩ := h
 obtain ⟨h5, h6⟩ := hh g h3 h2
 exact ⟨⟨m, (World.cell?_of_block (a := ⟨g, 0, none⟩) h5).trans h1⟩, h6, Nat.lt_of_lt_of_le h3 hs⟩
theorem Mx.tr (h : Mx P g A w) (t : Tr Dw B A w A1 w1) : Mx P g A1 w1 := h.to (fun g h1 h2 => ⟨(t.ex.block g h1 h2).2, (t.ex.block g h1 h2).1⟩) t.ex.size
theorem Mx.shape {t : TypeId} {zero : Array Value} (h : w.ShapedOpen P) (hg : g < P.globals.size)
  (h0 : ((begin P (fun _ _ => 0) default).world.heap[g]?).bind Obj.row? = some (zero, t)) (hz : zero.size = 1)
  (hb : P.buildable t = true) (hc : P.cellTypes P.depth t = some [t]) (hu : P.underlying t = some (.int .i64)) : Mx P g (fun _ => True) w := by
 obtain ⟨cs, hh, hs, hr⟩ := h.1 g zero t hg h0
 obtain ⟨ts, hts, _, hall⟩ := hr hb
 rw [hc] at hts
 cases hts
 have h1 : 0 < cs.size := by omega
 obtain ⟨u, hu', hok⟩ := hall 0 cs[0] (by simp [h1])
 have : u = t := by simpa using hu'.symm
 subst this
 have hcell : w.cell? ⟨g, 0, none⟩ = some cs[0] := by simp [World.cell?, hh, h1]
 refine ⟨?_, trivial, (Array.getElem?_eq_some_iff.1 hh).1⟩
 rw [hcell]
 unfold Cell.ok at hok
 rw [hu] at hok
 cases hv : cs[0] <;> rw [hv] at hok <;> first | (obtain ⟨rfl, _⟩ := hok; exact ⟨_, rfl⟩) | (obtain rfl := hok; exact ⟨_, rfl⟩) | exact ⟨_, by simp_all⟩ | simp at hok
end
theorem contains_fn {p : Bool} {w w' : World} {e : Ending} (h : ∃ v, e = .returned v ∧ v = .bool p ∧ w = w') : e = .returned (.bool p) ∧ Below w.heap.size w w' := by
 obtain ⟨v, rfl, rfl, rfl⟩ := h
 exact ⟨rfl, Below.refl _ _⟩
theorem contains_wrap {P : Program} {fid : FuncId} {args : Array Value} {w : World} {b : Bool} (h : Calls P fid args w fun e w' => e = .returned (.bool b) ∧ Below w.heap.size w w') : Ret P fid args w fun v w' => v = .bool b ∧ Kp False w w' :=
 h.mono fun _ _ ⟨h1, h2⟩ => ⟨_, h1, rfl, .of h2⟩
end Go.Gw
