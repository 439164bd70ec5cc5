/-
  Interface values that hold a string or an int; strings.Join over the shelf's contract.
-/
import Derived.Test.YtblcbjmgpacliaaGreatDoorGe
import Derived.Test.YtblcbjmgpacliaaGreatDoorPj
import Derived.Below
namespace Go.Gw
open Go Go.RowKit Go.Pu
variable {Dw : Prop}
set_option linter.unusedSimpArgs false
set_option linter.unusedVariables false

@[reducible] def anyT (ts ti : TypeId) : GoT AnyV where
  cells := 1
  wf _ := True
  rep _ _ cs x := cs = [AnyV.val ts ti x]
  len h := by subst h; rfl
  one h := by rename_i x; subst h; cases x <;> simp [AnyV.val, Value.oneCell']
  keep h _ := h
theorem anyFlat (ts ti : TypeId) : @Flat AnyV (anyT ts ti) := letI := anyT ts ti; ⟨fun h => h⟩

section
variable {P : Program} {n : Fr} {E : Env} {w : World} {x : Operand} {ty t tx ts ti : TypeId} {pos : String} {af : Array Edge} {ρd : Option Nat} {g : Option (Nat × Bool)}
theorem Y_mkStr {s : ByteArray} (ht : P.underlying ts = some .string) (hx : ev E x = some (.string s)) : Y P n E ⟨ρd, .makeInterface ts x, ty, pos, af, g⟩ w (AnyV.val ts ti (.str s)) w := fun a hA => by
  simp [execOp, hA.eval hx, Instr.makeInterface, underlying, ht, AnyV.val]
theorem Y_mkInt {k : Int} (ht : P.underlying ti = some (.int .i64)) (hx : ev E x = some (.int .i64 k)) : Y P n E ⟨ρd, .makeInterface ti x, ty, pos, af, g⟩ w (AnyV.val ts ti (.int k)) w := fun a hA => by
  simp [execOp, hA.eval hx, Instr.makeInterface, underlying, ht, AnyV.val]
theorem Y_asStr {v : AnyV} (ht : P.underlying ts = some .string) (hz : ∀ w, (zeroValue ts).run P w = .ok (.string ByteArray.empty) w) (hne : ti ≠ ts) (hx : ev E x = some (AnyV.val ts ti v)) :
    Y P n E ⟨ρd, .typeAssert x tx ts true, ty, pos, af, g⟩ w (.tuple #[.string v.asStr.1, .bool v.asStr.2]) w := fun a hA => by
  cases v <;> simp [execOp, hA.eval hx, Instr.typeAssert, underlying, ht, AnyV.val, AnyV.asStr, hne, hz]
theorem Y_asInt {v : AnyV} (ht : P.underlying ti = some (.int .i64)) (hz : ∀ w, (zeroValue ti).run P w = .ok (.int .i64 0) w) (hne : ts ≠ ti) (hx : ev E x = some (AnyV.val ts ti v)) :
    Y P n E ⟨ρd, .typeAssert x tx ti true, ty, pos, af, g⟩ w (.tuple #[.int .i64 v.asInt.1, .bool v.asInt.2]) w := fun a hA => by
  cases v <;> simp [execOp, hA.eval hx, Instr.typeAssert, underlying, ht, AnyV.val, AnyV.asInt, hne, hz]
theorem El.anyv {A : Nat → Prop} {b off : Nat} {v : AnyV} (h : @El AnyV (anyT ts ti) A w b off v) : w.cell? ⟨b, off, none⟩ = some (AnyV.val ts ti v) := by
  letI := anyT ts ti
  obtain ⟨h1, h2, cs, h3, h4⟩ := h
  obtain rfl := h3
  exact h4 0 _ rfl
end
end Go.Gw
namespace Go.Gw
open Go Go.RowKit Go.Pu
variable {Dw : Prop}
theorem repL_strs {A : Nat → Prop} {w : World} : ∀ {l : List ByteArray} {cs : List Value}, repL A w cs l → cs = l.map Value.string
  | [], cs, h => h
  | b :: l, cs, h => by
    obtain ⟨c1, c2, rfl, h1, h2⟩ := h
    rw [repL_strs h2, show c1 = [.string b] from h1]
    rfl
/-- strings.Join, from the shelf's contract -/
theorem join_wrap {P : Program} {fid : FuncId} {A : Nat → Prop} {w : World} {v : Value} {l : List ByteArray} {sep : ByteArray} (hsl : Sl A w v l)
    (h0 : ∀ (a : Option Addr) (c : Nat), Calls P fid #[.slice a 0 c, .string sep] w fun e w' => e = .returned (.string ⟨#[]⟩) ∧ w' = w)
    (h1 : ∀ (bk o c : Nat), (∀ (j : Nat) x, l[j]? = some x → w.cell? ⟨bk, o + j, none⟩ = some (.string x)) → bk < w.heap.size → l.length ≤ c →
      Calls P fid #[.slice (some ⟨bk, o, none⟩) l.length c, .string sep] w fun e w' => e = .returned (.string ⟨(Go.Lib.join (l.map (·.data.toList)) sep.data.toList).toArray⟩) ∧ Below w.heap.size w w') :
    Ret P fid #[v, .string sep] w fun v w' => v = .string ⟨(Go.Lib.join (l.map (·.data.toList)) sep.data.toList).toArray⟩ ∧ Kp False w w' := by
  rcases hsl with ⟨a, c, rfl, rfl, _, _⟩ | ⟨b, off, cap, cs, rfl, hb, hlt, hlc, hcm, hrep, hat⟩
  · refine (h0 a c).mono ?_
    rintro _ w' ⟨rfl, rfl⟩
    exact ⟨_, rfl, rfl, Bel.refl _ _⟩
  · have hcs := repL_strs hrep
    refine (h1 b off cap (fun j x hj => hat j _ (by rw [hcs, List.getElem?_map, hj]; rfl)) hlt hlc).mono ?_
    rintro _ w' ⟨rfl, hk⟩
    exact ⟨_, rfl, rfl, .of hk⟩
end Go.Gw
