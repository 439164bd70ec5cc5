import Derived.Test.YtiblagcmjobknaaGreatDoorGe
import Derived.Lib.LaidU8
import Derived.Lib.ItoaNum
import Derived.Lib.AppendIntMem
import Derived.MakeChecks
import Derived.Laws.BytesString
namespace Go.Gw
open Go Go.RowKit Go.Pu
variable {Dw : Prop}
set_option linter.unusedSimpArgs false
set_option linter.unusedVariables false
def Tb (P : Program) (A : Nat → Prop) (w : World) : Prop := Go.Lib.TabIs P w "internal/strconv.uint64pow10" .u64 Go.Lib.pow10Tab ∧ ∃ g, P.globalNamed "internal/strconv.uint64pow10" = some g ∧ A g ∧ g < w.heap.size
section
variable {P : Program} {A A1 : Nat → Prop} {w w1 : World} {B : Nat}
theorem Tb.to (h : Tb P A w) (hh : ∀ g, g < w.heap.size → A g → w1.heap[g]? = w.heap[g]? ∧ A1 g) (hs : w.heap.size ≤ w1.heap.size) : Tb P A1 w1 := by
 obtain ⟨h1, g, h2, h3, h4⟩ := h
 obtain ⟨h5, h6⟩ := hh g h4 h3
 refine ⟨?_, g, h2, h6, Nat.lt_of_lt_of_le h4 hs⟩
 unfold Go.Lib.TabIs World.var? at h1 ⊢
 rw [h2] at h1 ⊢
 simp only [Option.bind_some] at h1 ⊢
 rw [h5]
 exact h1
theorem Tb.laid {l : List (String × DataW Unit)} {g : Nat} {t e : TypeId} {n : Nat} (h : laidMetH P l w) (hp : (l.all fun x => x.2.handleName?.isNone) = true) (hm : ("internal/strconv.uint64pow10", Go.Lib.tabData .u64 Go.Lib.pow10Tab) ∈ l)
  (hg : P.globalNamed "internal/strconv.uint64pow10" = some g) (hty : (P.globals[g]?).map (·.type) = some t) (ht : P.underlying t = some (.array n e)) (he : P.underlying e = some (.int .u64)) (hce : P.cellsOf e = 1) (hct : P.cellsOf t = n) : Tb P (fun _ => True) w := by
 rw [MakeChecks.laidMetH_plain _ _ _ hp] at h
 obtain ⟨g', t', cs, fuel, p, h1, h2, h3, h4⟩ := Go.Lib.laidMet.reads h hm
 obtain rfl := Option.some.inj (hg.symm.trans h1)
 obtain rfl := Option.some.inj (hty.symm.trans h2)
 have h5 := Go.Lib.cells_of_tab ht he hce hct h4
 refine ⟨?_, g, hg, trivial, ?_⟩
 ·unfold Go.Lib.TabIs
  rw [h3, ← h5]
 ·unfold World.var? at h3
  rw [hg] at h3
  simp only [Option.bind_some] at h3
  split at h3
  ·rename_i hx
   exact (Array.getElem?_eq_some_iff.1 hx).1
  ·cases h3
end
section
variable {P : Program} {n : Fr} {E : Env} {w : World} {A : Nat → Prop} {x : Operand} {ty t e : TypeId} {pos : String} {af : Array Edge} {v : Value}
end
section
variable {P : Program} {n : Fr} {E : Env} {w : World} {x y z : Operand} {ty t : TypeId} {pos : String} {af : Array Edge} {ρd : Option Nat} {g : Option (Nat × Bool)} {s r : ByteArray}
theorem zeR {lo hi : Option Int} (h : zdg s lo hi = some r) : ∃ l u : Nat, lo.getD 0 = (l : Int) ∧ hi.getD s.size = (u : Int) ∧ l ≤ u ∧ u ≤ s.size ∧ r = s.extract l u := by
 unfold zdg at h
 simp only [Option.map_eq_some_iff] at h
 obtain ⟨p, hp, rfl⟩ := h
 unfold zdd at hp
 simp only at hp
 split at hp
 ·rename_i hb
  obtain rfl := Option.some.inj hp
  exact ⟨(lo.getD 0).toNat, (hi.getD s.size).toNat, by omega, by omega, by omega, by omega, rfl⟩
 ·cases hp
theorem zjL {k : IntKind} {lo : Int} (h : zdg s (some lo) none = some r) (ht : P.underlying t = some .string) (hx : ev E x = some (.string s)) (hy : ev E y = some (.int k lo)) : Y P n E ⟨ρd, .slice t x (some y) none none, ty, pos, af, g⟩ w (.string r) w := by
 intro a hA
 obtain ⟨l, u, h1, h2, h3, h4, rfl⟩ := zeR h
 simp only [Option.getD_none, Option.getD_some] at h1 h2
 obtain rfl : u = s.size := by omega
 subst h1
 have hb : ¬ s.size < l := by omega
 simp [execOp, hA.eval hx, hA.eval hy, Instr.sliceAt, Instr.slice, Instr.sliceBounds, Instr.sliceBound, asIntOf, underlying, ht, hb]
theorem zjJ {k : IntKind} {hi : Int} (h : zdg s none (some hi) = some r) (ht : P.underlying t = some .string) (hx : ev E x = some (.string s)) (hz : ev E z = some (.int k hi)) : Y P n E ⟨ρd, .slice t x none (some z) none, ty, pos, af, g⟩ w (.string r) w := by
 intro a hA
 obtain ⟨l, u, h1, h2, h3, h4, rfl⟩ := zeR h
 simp only [Option.getD_none, Option.getD_some] at h1 h2
 obtain rfl : l = 0 := by omega
 subst h2
 have hb : ¬ s.size < u := by omega
 simp [execOp, hA.eval hx, hA.eval hz, Instr.sliceAt, Instr.slice, Instr.sliceBounds, Instr.sliceBound, asIntOf, underlying, ht, hb]
end
end Go.Gw
