/-
  Variables of the program that are slices of texts and are only read.
-/
import Derived.Test.YtcbebdcofipcpaaGreatDoorHi
namespace Go.Gw
open Go Go.RowKit Go.Pu Go.Proofs
variable {Dw : Prop}
set_option linter.unusedSimpArgs false
set_option linter.unusedVariables false

/-- the variable g is a slice of these texts -/
def Gs (g : Nat) (l : List ByteArray) (A : Nat → Prop) (w : World) : Prop := El A w g 0 l
instance {g : Nat} {l : List ByteArray} : Keeps (Gs g l) := ⟨fun h hh hs => El.keep h ⟨hs, fun k h1 h2 => ⟨(hh k h1 h2).2, (hh k h1 h2).1⟩⟩⟩
theorem repL_bas {w : World} : ∀ l : List ByteArray, repL (fun _ => True) w (l.map Value.string) l
  | [] => rfl
  | x :: l => (repL.single (A := fun _ => True) (x := x) rfl).append (repL_bas l)
theorem Gs.laid {P : Program} {w : World} {l : List (String × DataW Unit)} {n : String} {ws : List ByteArray} {g : Nat} {t e : TypeId} (h : laidMetH P l w) (hp : (l.all fun x => x.2.handleName?.isNone) = true)
    (hm : (n, (.slice (ws.map fun s => .lit (.string s.data.toList)) [] : DataW Unit)) ∈ l)
    (hg : P.globalNamed n = some g) (hty : (P.globals[g]?).map (·.type) = some t) (ht : P.underlying t = some (.slice e)) (he : P.underlying e = some .string) (hc : P.cellsOf e = 1) (hl : 0 < ws.length) : Gs g ws (fun _ => True) w := by
  rw [MakeChecks.laidMetH_plain _ _ _ hp] at h
  obtain ⟨g', t', cs, fuel, p, h1, h2, h3, h4⟩ := Go.Lib.laidMet.reads h hm
  obtain rfl := Option.some.inj (hg.symm.trans h1)
  obtain rfl := Option.some.inj (hty.symm.trans h2)
  have hgl : g < w.heap.size := by
    unfold World.var? at h3
    rw [hg] at h3
    simp only [Option.bind_some] at h3
    split at h3
    · rename_i hx
      exact (Array.getElem?_eq_some_iff.1 hx).1
    · cases h3
  rcases DataW.trod_slice ht h4 with ⟨_, hx⟩ | ⟨a, len, cap, el, rs, m, rfl, hcs, hx, _, hlc, hm2, hel, helem, hsp, _⟩
  · cases hx
  have e0 := congrArg Prod.fst hx
  simp only [DataW.slice.injEq] at e0
  obtain ⟨eE, eR⟩ := e0
  have hlen : len = ws.length := by
    have := congrArg List.length eE
    simp at this
    omega
  have hcell : ∀ i (hi : i < ws.length), w.cell? (a.add i) = some (.string ws[i]) := by
    intro i hi
    have h1 := helem i (by omega)
    rw [hc] at h1
    obtain ⟨b, hb⟩ : ∃ b, el[i]? = some b := ⟨el[i]'(by omega), List.getElem?_eq_getElem (by omega)⟩
    rw [hb] at h1
    obtain ⟨ce, hce, hte⟩ := Option.bind_eq_some_iff.1 h1
    obtain ⟨z, hz, hbz, _⟩ := DataW.trod_string he hte
    have hb1 : b.1 = .lit (.string ws[i].data.toList) := by
      have := congrArg (·[i]?) eE
      simp [hb, hi] at this
      exact this.symm
    rw [hbz] at hb1
    simp only [DataW.lit.injEq, Lit.string.injEq] at hb1
    have hzz : z = ws[i] := by
      apply ByteArray.ext
      exact Array.toList_inj.1 hb1
    obtain ⟨_, _, hcc⟩ := World.cells?_some hce
    have := hcc 0 (by omega)
    rw [hz] at this
    simp only [Nat.mul_one] at this
    have e1 : (a.add i).add 0 = a.add i := by simp [Addr.add]
    rw [e1] at this
    rw [this, ← hzz]
    rfl
  obtain ⟨R, o, sR⟩ := a
  obtain rfl : sR = none := by
    have h00 := hcell 0 hl
    have : (Addr.add ⟨R, o, sR⟩ 0) = ⟨R, o, sR⟩ := by simp [Addr.add]
    rw [this] at h00
    exact Go.Proofs.cell_spot h00
  have hblt : R < w.heap.size := by
    have h00 := hcell 0 hl
    have : (Addr.add ⟨R, o, none⟩ 0) = ⟨R, o, none⟩ := by simp [Addr.add]
    rw [this] at h00
    exact World.block_lt_of_cell? w _ h00
  refine ⟨trivial, hgl, [.slice (some ⟨R, o, none⟩) len cap], ?_, ?_⟩
  · refine ⟨_, rfl, .inr ⟨R, o, cap, ws.map Value.string, by rw [hlen], trivial, hblt, by omega, hm2, repL_bas ws, ?_⟩⟩
    intro j u hj
    have hj' : j < ws.length := by
      have := (List.getElem?_eq_some_iff.1 hj).1
      simpa using this
    have := hcell j hj'
    rw [addr_add] at this
    rw [this]
    simp [hj'] at hj
    rw [hj]
  · intro j u hj
    have h0 := World.var?_cell hg h3 j
    rw [← Array.getElem?_toList, hcs, hj] at h0
    rw [Nat.zero_add]
    exact h0
end Go.Gw
