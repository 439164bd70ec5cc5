/-
  A map of the call's own that may be nil: what a function hands back.
-/
import Derived.Test.YtfdhiclmjfkflaaDoorHa
namespace Go.Gw
open Go Go.RowKit Go.Pu
variable {Dw : Prop}
set_option linter.unusedSimpArgs false
set_option linter.unusedVariables false

def obSMo {κ α : Type} [Mk κ] [Cel α] (m : Option Nat) (l : List (κ × α)) : Ob where
  P f A w := match m with
    | some mb => (obSM mb l).P f A w
    | none => f = [] ∧ l = []
  keep h he hb := by
    cases m with
    | some mb => exact (obSM mb l).keep h he hb
    | none => exact h
  lt h b' hb' := by
    cases m with
    | some mb => exact (obSM mb l).lt h b' hb'
    | none => rw [h.1] at hb'; cases hb'
theorem obSMo_some {κ α : Type} [Mk κ] [Cel α] (mb : Nat) (l : List (κ × α)) : obSMo (some mb) l = obSM mb l := rfl
theorem Hp.addNM {κ α : Type} [Mk κ] [Cel α] {B : Nat} {A : Nat → Prop} {w : World} {L : List Ob} (h : Hp B A w L) : Hp B A w (obSMo (κ := κ) (α := α) none [] :: L) := h.free ⟨rfl, rfl⟩

section steps
variable {P : Program} {n : Fr} {ops : Array Oper} {Q : Exit → Act → World → Prop} {E : Env} {w : World} {rest : List Oper} {u : Value} {d : Nat}
variable {ty t kt et : TypeId} {pos : String} {af : Array Edge} {x y z : Operand} {A : Nat → Prop} {κ α : Type} [DecidableEq κ] [Mk κ] [Cel α] {B : Nat} {L : List Ob} {i : Nat} {m : Option Nat} {l : List (κ × α)} {k : κ}

theorem Y_lookupSM {z : α} {zv : Value} (hH : Hp B A w L) (hi : L[i]? = some (obSMo m l)) (ht : P.underlying t = some (.map kt et)) (hk : P.underlying kt = some (Mk.dsc κ)) (hz : ∀ w, (zeroValue et).run P w = .ok zv w) (hzv : zv = Cel.enc z)
    (hx : ev E x = some (.map m)) (hy : ev E y = some (Mk.enc k)) : Y P n E ⟨some d, .lookup t x y false, ty, pos, af, none⟩ w (Cel.enc ((mapGet l k).getD z)) w := by
  cases m with
  | some mb => exact Y_lookupS hH hi ht hk hz hzv hx hy
  | none =>
    obtain ⟨f, ⟨rfl, rfl⟩, _, _⟩ := hH.at hi
    have hkk : MapKept.IsKey (Mk.dsc κ) (Mk.enc k) := Mk.isK _
    obtain ⟨r1, r2⟩ | ⟨j, e, r1, r2, r3⟩ := MapKept.findNow_spec hkk ([] : List MapEntry) 0 (by simp)
    rotate_left
    · simp at r2
    intro a hA'
    have hg : mapGet ([] : List (κ × α)) k = none := rfl
    rw [hg, Option.getD_none, ← hzv]
    simp only [execOp, hA'.eval hx, hA'.eval hy, Instr.lookup]
    simp [run_underlying ht, MapKept.run_checkKey hk hkk, MapKept.run_findKey hk r1, Result.andThen, hz]

theorem V_lookupSMO {z : α} {zv : Value} (hH : Hp B A w L) (hi : L[i]? = some (obSMo m l)) (ht : P.underlying t = some (.map kt et)) (hk : P.underlying kt = some (Mk.dsc κ)) (hz : ∀ w, (zeroValue et).run P w = .ok zv w) (hzv : zv = Cel.enc z)
    (hx : ev E x = some (.map m)) (hy : ev E y = some (Mk.enc k)) (hn : Nat.blt d n.sz = true)
    (h : V P n ops Q rest ((d, .tuple #[Cel.enc ((mapGet l k).getD z), .bool (mapGet l k).isSome]) :: E) w) :
    V P n ops Q (⟨some d, .lookup t x y true, ty, pos, af, none⟩ :: rest) E w := by
  cases m with
  | some mb => exact V_lookupSO hH hi ht hk hz hzv hx hy hn h
  | none =>
    obtain ⟨f, ⟨rfl, rfl⟩, _, _⟩ := hH.at hi
    have hkk : MapKept.IsKey (Mk.dsc κ) (Mk.enc k) := Mk.isK _
    obtain ⟨r1, r2⟩ | ⟨j, e, r1, r2, r3⟩ := MapKept.findNow_spec hkk ([] : List MapEntry) 0 (by simp)
    rotate_left
    · simp at r2
    have hg : mapGet ([] : List (κ × α)) k = none := rfl
    rw [hg, Option.getD_none, Option.isSome_none, ← hzv] at h
    refine V_y (w' := w) (v := .tuple #[zv, .bool false]) (fun a hA' => ?_) rfl rfl hn h
    simp only [execOp, hA'.eval hx, hA'.eval hy, Instr.lookup]
    simp [run_underlying ht, MapKept.run_checkKey hk hkk, MapKept.run_findKey hk r1, Result.andThen, hz]
end steps
end Go.Gw
