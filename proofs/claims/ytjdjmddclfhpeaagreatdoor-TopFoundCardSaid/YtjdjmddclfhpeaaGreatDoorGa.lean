import Derived.Test.YtjdjmddclfhpeaaGreatDoorGs
namespace Go.Gw
open Go Go.RowKit Go.Pu
variable {Dw : Prop}
set_option linter.unusedSimpArgs false
set_option linter.unusedVariables false
def plainO (o : Oper) : Bool := match o.op with
 | .load .. | .fieldAddr .. | .move _ | .assign _ | .binOp .. | .unOp .. | .extract .. | .field .. | .indexAddr .. | .index .. | .convert .. | .slice .. | .build .. | .nilCheck _ => true
 | .call ⟨.builtin .len, _, _⟩ | .call ⟨.builtin .min, _, _⟩ | .call ⟨.builtin .max, _, _⟩ => true
 | _ => false
theorem value_of_bind {P : Program} {w w' : World} {s : Sem Value} {nx : Next} (h : (do pure (Next.value (← s)) : Sem Next).run P w = .ok nx w') : ∃ v, nx = .value v := by
 simp only [Sem.run_bind] at h
 cases hs : s.run P w with
 | ok v w1 => rw [hs] at h; simp [Result.andThen] at h; exact ⟨v, h.1.symm⟩
 | halt x w1 => rw [hs] at h; simp [Result.andThen] at h
section
variable {P : Program} {ops : Array Oper} {md : Region.Mode} {W : World → Prop}
def lexHeadA (md : Region.Mode) (ops : Array Oper) (g n : Nat) : Nat → Nat → Array Bool → Bool
 | 0, _, listed => Region.seqB md ops g n listed
 | f + 1, k, listed => (Region.ready md ops listed).contains k && Region.free md ops listed k && lexHeadA md ops g n f (k + 1) (listed.setIfInBounds k true)
def AllocsAt (P : Program) (ops : Array Oper) : Nat → List (Nat × TypeId × Value) → Prop
 | _, [] => True
 | k, (d, t, z) :: r => (∃ ty pos af, ops[k]? = some ⟨some d, .alloc t, ty, pos, af, none⟩ ∧ (∀ e ∈ af, Region.binds md e = false)) ∧ (∀ w, (zeroValue t).run P w = .ok z w) ∧ AllocsAt P ops (k + 1) r
def headsB (md : Region.Mode) (ops : Array Oper) (k n : Nat) (ds : List Nat) : Bool :=
 (List.range k).all fun i => match ops[i]? with
  | some o => plainO o && (o.after.all fun e => !(Region.binds md e) || decide (e.on < k)) && (ds.all fun d => !(o.looksAt ops).contains d && o.dst != some d)
  | none => true
structure Fl (k n : Nat) (listed lq : Array Bool) : Prop where
 size : lq.size = listed.size
 le : n ≤ listed.size
 get : ∀ i d, lq.getD i d = if k ≤ i ∧ i < n then true else listed.getD i d
def putA (als : List (Nat × TypeId × Value)) : List (Nat × Nat) → Act → Act
 | [], a => a
 | (j, b) :: ex, a => (putA als ex a).put ((als[j]?).map (·.1)) (.pointer (some ⟨b, 0, none⟩))
def obAt (als : List (Nat × TypeId × Value)) (j b : Nat) : List Ob := match als[j]? with | some (_, t, z) => [obC b z.cells.toList t] | none => []
def objA (als : List (Nat × TypeId × Value)) : List (Nat × Nat) → List Ob
 | [] => []
 | (j, b) :: ex => obAt als j b ++ objA als ex
def objB : List (Nat × TypeId × Value) → (Nat → Nat) → Nat → List Ob
 | [], _, _ => []
 | (_, t, z) :: r, b, j => obC (b j) z.cells.toList t :: objB r b (j + 1)
def envB : List (Nat × TypeId × Value) → (Nat → Nat) → Nat → Env
 | [], _, _ => []
 | (d, _, _) :: r, b, j => (d, .pointer (some ⟨b j, 0, none⟩)) :: envB r b (j + 1)
def allB (md : Region.Mode) (ops : Array Oper) (k n : Nat) (ds : List Nat) : Bool :=
 Region.noSelect ops && decide (n < ops.size) && Region.sinkB md ops n && Region.chainB md ops n && headsB md ops k n ds && decide (k ≤ n) &&
  lexHeadA md ops (ops.size - n) n k 0 ((List.range ops.size).map fun i => decide (k ≤ i ∧ i < n)).toArray
end
end Go.Gw
