import Derived.Test.YtjdjmddclfhpeaaGreatDoorGa
namespace Go.Gw
open Go Go.RowKit Go.Pu
variable {Dw : Prop}
set_option linter.unusedSimpArgs false
set_option linter.unusedVariables false
section
variable {P : Program} {ops : Array Oper} {md : Region.Mode} {W : World → Prop}
def Flg (ops : Array Oper) (k : Nat) (listed : Array Bool) : Prop := ∀ t, k ≤ t → t < ops.size → listed.getD t true = true
def lexHeadF (md : Region.Mode) (ops : Array Oper) : Nat → Nat → Array Bool → Bool
 | 0, _, listed => (Region.ready md ops listed).isEmpty
 | f + 1, k, listed => (Region.ready md ops listed).contains k && Region.free md ops listed k && lexHeadF md ops f (k + 1) (listed.setIfInBounds k true)
def StoresAt (P : Program) (ops : Array Oper) (k : Nat) : Nat → Nat → List (Nat × TypeId × Value) → List (Nat × Nat) → Prop
 | _, _, [], [] => True
 | ka, s, (d, t, z) :: r, (x, h) :: xs => (∃ ty pos af, ops[s]? = some ⟨none, .store t (.tmp d) (.tmp x), ty, pos, af, none⟩ ∧ (∃ e ∈ af, Region.binds md e = true ∧ e.on = h) ∧ (∃ e ∈ af, Region.binds md e = true ∧ e.on = ka)) ∧
   h < k ∧ (ops[h]?).bind (·.dst) = some x ∧ (∀ w, (Go.sizeOf t).run P w = .ok z.cells.toList.length w) ∧ StoresAt P ops k (ka + 1) (s + 1) r xs
 | _, _, _, _ => False
def obSt (als : List (Nat × TypeId × Value)) (vs : List Value) (dn : List Nat) (j b : Nat) : List Ob := match als[j]?, vs[j]? with | some (_, t, z), some v => [obC b (if j ∈ dn then v.cells.toList else z.cells.toList) t] | _, _ => []
def objSt (als : List (Nat × TypeId × Value)) (vs : List Value) (dn : List Nat) (ex : List (Nat × Nat)) : List Ob := ex.flatMap fun p => obSt als vs dn p.1 p.2
def headsF (md : Region.Mode) (ops : Array Oper) (k : Nat) (ds xs : List Nat) : Bool :=
 (List.range k).all fun i => match ops[i]? with
  | some o => plainO o && (o.after.all fun e => !(Region.binds md e) || decide (e.on < k)) && (ds.all fun d => !(o.looksAt ops).contains d && o.dst != some d) &&
    (xs.all fun x => o.dst != some x || (List.range k).all fun i' => decide (i' = i) || ((ops[i']?).bind (·.dst)) != some x)
  | none => true
def objV : List (Nat × TypeId × Value) → List Value → (Nat → Nat) → Nat → List Ob
 | (_, t, _) :: r, v :: vs, b, j => obC (b j) v.cells.toList t :: objV r vs b (j + 1)
 | _, _, _, _ => []
def defB (md : Region.Mode) (ops : Array Oper) (k : Nat) (ds xs : List Nat) : Bool :=
 Region.noSelect ops && headsF md ops k ds xs && (xs.all fun x => !ds.contains x) &&
  ((List.range ops.size).all fun i => match ops[i]? with | some o => o.after.all fun e => !(Region.binds md e) || decide (e.on < i) | none => true) &&
  lexHeadF md ops k 0 ((List.range ops.size).map fun i => decide (k ≤ i ∧ i < ops.size)).toArray
def Fits : List (Nat × TypeId × Value) → List Value → Prop
 | [], [] => True
 | (_, _, z) :: r, v :: vs => v.cells.toList.length = z.cells.toList.length ∧ (∀ u ∈ v.cells.toList, u.oneCell' = true) ∧ Fits r vs
 | _, _ => False
end
end Go.Gw
