import Derived.Test.YtiblagcmjobknaaGreatDoorGi
import Derived.Lib.Split
import Derived.Shelf.Strings.FuncGrows
namespace Go.Gw
open Go Go.RowKit Go.Pu Go.Proofs
variable {Dw : Prop}
set_option linter.unusedSimpArgs false
set_option linter.unusedVariables false
def Mx (P : Program) (g : Nat) (A : Nat → Prop) (w : World) : Prop := (∃ m, w.cell? ⟨g, 0, none⟩ = some (.int .i64 m)) ∧ A g ∧ g < w.heap.size
def Tx (P : Program) (g : Nat) (A : Nat → Prop) (w : World) : Prop := Tb P A w ∧ Mx P g A w
section
variable {P : Program} {A A1 : Nat → Prop} {w w1 : World} {B g : Nat}
theorem Mx.to (h : Mx P g A w) (hh : ∀ g, g < w.heap.size → A g → w1.heap[g]? = w.heap[g]? ∧ A1 g) (hs : w.heap.size ≤ w1.heap.size) : Mx P g A1 w1 := by
 obtain ⟨⟨m, h1⟩, h2, h3⟩ := h
 obtain ⟨h5, h6⟩ := hh g h3 h2
 exact ⟨⟨m, (World.cell?_of_block (a := ⟨g, 0, none⟩) h5).trans h1⟩, h6, Nat.lt_of_lt_of_le h3 hs⟩
theorem Mx.shape {t : TypeId} {zero : Array Value} (h : w.ShapedOpen P) (hg : g < P.globals.size)
  (h0 : ((begin P (fun _ _ => 0) default).world.heap[g]?).bind Obj.row? = some (zero, t)) (hz : zero.size = 1)
  (hb : P.buildable t = true) (hc : P.cellTypes P.depth t = some [t]) (hu : P.underlying t = some (.int .i64)) : Mx P g (fun _ => True) w := by
 obtain ⟨cs, hh, hs, hr⟩ := h.1 g zero t hg h0
 obtain ⟨ts, hts, _, hall⟩ := hr hb
 rw [hc] at hts
 cases hts
 have h1 : 0 < cs.size := by omega
 obtain ⟨u, hu', hok⟩ := hall 0 cs[0] (by simp [h1])
 have : u = t := by simpa using hu'.symm
 subst this
 have hcell : w.cell? ⟨g, 0, none⟩ = some cs[0] := by simp [World.cell?, hh, h1]
 refine ⟨?_, trivial, (Array.getElem?_eq_some_iff.1 hh).1⟩
 rw [hcell]
 unfold Cell.ok at hok
 rw [hu] at hok
 cases hv : cs[0] <;> rw [hv] at hok <;> first | (obtain ⟨rfl, _⟩ := hok; exact ⟨_, rfl⟩) | (obtain rfl := hok; exact ⟨_, rfl⟩) | exact ⟨_, by simp_all⟩ | simp at hok
end
theorem zjw {P : Program} {fid : FuncId} {A : Nat → Prop} {w : World} {s sep : ByteArray} {sv : Nat} {l : List ByteArray} {N : Nat} {T : TypeId} {nn : Int} (hA : ∀ b, w.heap.size ≤ b → A b) (hl : l.length ≤ N) (hN : N ≤ maxLen)
  (h : Calls P fid #[.string s, .string sep, .int .i64 sv, .int .i64 nn] w fun e w' => e = .returned (.slice (some ⟨w.heap.size, 0, none⟩) l.length N) ∧ w' = w.alloc (.cells (Lib.cellsOf l N) T)) :
  Ret P fid #[.string s, .string sep, .int .i64 sv, .int .i64 nn] w fun v w' => ∃ s0, v = s0 ∧ Sl A w' s0 l ∧ Kp Dw w w' := by
 refine h.mono ?_
 rintro _ w' ⟨rfl, rfl⟩
 have hk : Kp Dw w (w.alloc (.cells (Lib.cellsOf l N) T)) := ⟨rfl, rfl, rfl, by simp, fun _ => Nat.le_refl _, fun k hk => Lib.alloc_old w _ k hk⟩
 have hb : (w.alloc (.cells (Lib.cellsOf l N) T)).heap[w.heap.size]? = some (.cells (Lib.cellsOf l N) T) := heap_alloc_new w _
 have hrep : ∀ {l : List ByteArray}, repL A (w.alloc (.cells (Lib.cellsOf l N) T)) (l.map Value.string) l := by
  intro l
  generalize (w.alloc (.cells (Lib.cellsOf l N) T)) = w2
  induction l with
  | nil => rfl
  | cons x l ih => exact ⟨[.string x], l.map Value.string, rfl, rfl, ih⟩
 have hrep' : repL A (w.alloc (.cells (Lib.cellsOf l N) T)) (l.map Value.string) l := hrep
 refine ⟨_, rfl, _, rfl, .inr ⟨w.heap.size, 0, N, l.map Value.string, rfl, hA _ (Nat.le_refl _), by simp, hl, hN, hrep', fun j u hj => ?_⟩, hk⟩
 rw [World.cell?_alloc_new]
 simp only [Nat.zero_add]
 rw [List.getElem?_map] at hj
 unfold Lib.cellsOf
 have hj' : j < l.length := by
  rcases Nat.lt_or_ge j l.length with h | h
  ·exact h
  ·rw [List.getElem?_eq_none h] at hj; cases hj
 rw [List.getElem?_eq_getElem hj'] at hj
 simp only [Option.map_some, Option.some.injEq] at hj
 simp [List.getElem?_append_left, hj', hj]
end Go.Gw
