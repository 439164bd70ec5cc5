import Derived.Test.YtjdjmddclfhpeaaGreatDoorGe
import Derived.Test.YtjdjmddclfhpeaaGreatDoorPj
import Derived.Below
namespace Go.Gw
open Go Go.RowKit Go.Pu
variable {Dw : Prop}
set_option linter.unusedSimpArgs false
set_option linter.unusedVariables false
@[reducible] def anyT (ts ti : TypeId) : GoT AnyV where
 cells := 1
 wf _ := True
 rep _ _ cs x := cs = [AnyV.val ts ti x]
 len h := by subst h; rfl
 one h := by rename_i x; subst h; cases x <;> simp [AnyV.val, Value.oneCell']
 keep h _ := h
section
variable {P : Program} {n : Fr} {E : Env} {w : World} {x : Operand} {ty t tx ts ti : TypeId} {pos : String} {af : Array Edge} {ρd : Option Nat} {g : Option (Nat × Bool)}
end
end Go.Gw
namespace Go.Gw
open Go Go.RowKit Go.Pu
variable {Dw : Prop}
theorem repL_strs {A : Nat → Prop} {w : World} : ∀ {l : List ByteArray} {cs : List Value}, repL A w cs l → cs = l.map Value.string
 | [], cs, h => h
 | b :: l, cs, h => by
  obtain ⟨c1, c2, rfl, h1, h2⟩ := h
  rw [repL_strs h2, show c1 = [.string b] from h1]
  rfl
theorem join_wrap {P : Program} {fid : FuncId} {A : Nat → Prop} {w : World} {v : Value} {l : List ByteArray} {sep : ByteArray} (hsl : Sl A w v l)
  (h0 : ∀ (a : Option Addr) (c : Nat), Calls P fid #[.slice a 0 c, .string sep] w fun e w' => e = .returned (.string ⟨#[]⟩) ∧ w' = w)
  (h1 : ∀ (bk o c : Nat), (∀ (j : Nat) x, l[j]? = some x → w.cell? ⟨bk, o + j, none⟩ = some (.string x)) → bk < w.heap.size → l.length ≤ c →
   Calls P fid #[.slice (some ⟨bk, o, none⟩) l.length c, .string sep] w fun e w' => e = .returned (.string ⟨(Go.Lib.join (l.map (·.data.toList)) sep.data.toList).toArray⟩) ∧ Below w.heap.size w w') :
  Ret P fid #[v, .string sep] w fun v w' => v = .string ⟨(Go.Lib.join (l.map (·.data.toList)) sep.data.toList).toArray⟩ ∧ Kp False w w' := by
 rcases hsl with ⟨a, c, rfl, rfl, _, _⟩ | ⟨b, off, cap, cs, rfl, hb, hlt, hlc, hcm, hrep, hat⟩
 ·refine (h0 a c).mono ?_
  rintro _ w' ⟨rfl, rfl⟩
  exact ⟨_, rfl, rfl, Bel.refl _ _⟩
 ·have hcs := repL_strs hrep
  refine (h1 b off cap (fun j x hj => hat j _ (by rw [hcs, List.getElem?_map, hj]; rfl)) hlt hlc).mono ?_
  rintro _ w' ⟨rfl, hk⟩
  exact ⟨_, rfl, rfl, .of hk⟩
end Go.Gw
