import Derived.Test.YtiblagcmjobknaaGreatDoorGg
import Derived.Stop.LaidErr
import Derived.Shelf.Strconv.AtoiAll
namespace Go.Gw
open Go Go.RowKit Go.Pu Go.Proofs
variable {Dw : Prop}
set_option linter.unusedSimpArgs false
set_option linter.unusedVariables false
class Keeps (R : (Nat → Prop) → World → Prop) : Prop where
 to : ∀ {A A1 : Nat → Prop} {w w1 : World}, R A w → (∀ g, g < w.heap.size → A g → w1.heap[g]? = w.heap[g]? ∧ A1 g) → w.heap.size ≤ w1.heap.size → R A1 w1
instance {P : Program} : Keeps (Tb P) := ⟨Tb.to⟩
instance {P : Program} {g : Nat} : Keeps (Mx P g) := ⟨Mx.to⟩
def Er (P : Program) (g : Nat) (A : Nat → Prop) (w : World) : Prop := (∃ t p, w.cell? ⟨g, 0, none⟩ = some (.iface t p)) ∧ A g ∧ g < w.heap.size
instance {P : Program} {g : Nat} : Keeps (Er P g) := ⟨fun h hh hs => by
 obtain ⟨⟨t, p, h1⟩, h2, h3⟩ := h
 obtain ⟨h5, h6⟩ := hh g h3 h2
 exact ⟨⟨t, p, (World.cell?_of_block (a := ⟨g, 0, none⟩) h5).trans h1⟩, h6, Nat.lt_of_lt_of_le h3 hs⟩⟩
def Fz (R : (Nat → Prop) → World → Prop) (A : Nat → Prop) (w : World) : Prop := R A w
section
variable {R : (Nat → Prop) → World → Prop} [Keeps R] {A A1 : Nat → Prop} {w w1 : World} {B : Nat}
theorem Fz.tr (h : Fz R A w) (t : Tr Dw B A w A1 w1) : Fz R A1 w1 := Keeps.to (R := R) h (fun g h1 h2 => ⟨(t.ex.block g h1 h2).2, (t.ex.block g h1 h2).1⟩) t.ex.size
end
theorem Er.laid {P : Program} {w : World} {l : List (String × DataW Unit)} {n nm : String} {d : DataW Unit} {g : Nat} {t : TypeId} {ms : Array (String × TypeId)} (h : laidMetH P l w) (hp : (l.all fun x => x.2.handleName?.isNone) = true) (hm : (n, DataW.iface nm d) ∈ l)
  (hg : P.globalNamed n = some g) (hty : (P.globals[g]?).map (·.type) = some t) (ht : P.underlying t = some (.interface ms)) : Er P g (fun _ => True) w := by
 rw [MakeChecks.laidMetH_plain _ _ _ hp] at h
 obtain ⟨g', t', cs, fuel, p, h1, h2, h3, h4⟩ := Go.Lib.laidMet.reads h hm
 obtain rfl := Option.some.inj (hg.symm.trans h1)
 obtain rfl := Option.some.inj (hty.symm.trans h2)
 obtain ⟨f1, u, v, hcs, hn, _⟩ := iface_of_trod ht h4
 refine ⟨⟨u, v, ?_⟩, trivial, ?_⟩
 ·have h0 := World.var?_cell hg h3 0
  obtain ⟨l⟩ := cs
  simp only at hcs
  subst hcs
  simpa using h0
 ·unfold World.var? at h3
  rw [hg] at h3
  simp only [Option.bind_some] at h3
  split at h3
  ·rename_i hx
   exact (Array.getElem?_eq_some_iff.1 hx).1
  ·cases h3
def ErV (v : Value) (b : Bool) : Prop := if b = true then ∃ t p, v = .iface t p else v = .nilIface
section
variable {P : Program} {n : Fr} {E : Env} {w : World} {x y : Operand} {ty t : TypeId} {pos : String} {af : Array Edge} {g : Option (Nat × Bool)} {v : Value} {b : Bool} {ρd : Option Nat}
end
end Go.Gw
