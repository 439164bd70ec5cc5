import Derived.Test.YtldkdabcdbgpbaaGreatDoorGe
import Derived.Test.YtldkdabcdbgpbaaGreatDoorPj
namespace Go.Gw
open Go Go.RowKit Go.Pu
variable {Dw : Prop}
set_option linter.unusedSimpArgs false
set_option linter.unusedVariables false
class Cel (α : Type) where
 enc : α → Value
instance : Cel Bool := ⟨Value.bool⟩
instance : Cel Int := ⟨Value.int .i64⟩
instance : Cel ByteArray := ⟨Value.string⟩
class Mk (κ : Type) where
 dsc : TypeDesc
 enc : κ → Value
 isK : ∀ k, MapKept.IsKey dsc (enc k)
 inj : ∀ a b, enc a = enc b → a = b
instance : Mk ByteArray := ⟨.string, Value.string, fun _ => trivial, fun _ _ h => Value.string.inj h⟩
instance : Mk Int := ⟨.int .i64, Value.int .i64, fun _ => rfl, fun _ _ h => (Value.int.inj h).2⟩
def encE {κ α : Type} [Mk κ] [Cel α] (p : κ × α) : Value × Value := (Mk.enc p.1, Cel.enc p.2)
def obSM {κ α : Type} [Mk κ] [Cel α] (mb : Nat) (l : List (κ × α)) : Ob where
 P f A w := f = [mb] ∧ ∃ es clk, w.heap[mb]? = some (.map es clk) ∧ es.toList.map (fun e => (e.key, e.val)) = l.map encE ∧ (l.map (·.1)).Nodup
 keep h he hb := by
  obtain ⟨rfl, es, clk, h1, h2⟩ := h
  exact ⟨rfl, es, clk, by rw [hb mb (by simp)]; exact h1, h2⟩
 lt h b' hb' := by
  obtain ⟨rfl, es, clk, h1, _⟩ := h
  simp at hb'
  subst hb'
  exact (Array.getElem?_eq_some_iff.1 h1).1
section
variable {κ α : Type} [DecidableEq κ] [Mk κ] [Cel α] {es : Array MapEntry} {l : List (κ × α)} {k : κ}
omit [DecidableEq κ] in
theorem sm_keys (h : es.toList.map (fun e => (e.key, e.val)) = l.map encE) : ∀ e ∈ es.toList, ∃ p ∈ l, e.key = Mk.enc p.1 ∧ e.val = Cel.enc p.2 := by
 intro e he
 have : (e.key, e.val) ∈ l.map encE := by rw [← h]; exact List.mem_map_of_mem he
 obtain ⟨p, hp, hq⟩ := List.mem_map.1 this
 simp only [encE, Prod.mk.injEq] at hq
 exact ⟨p, hp, hq.1.symm, hq.2.symm⟩
omit [DecidableEq κ] in
theorem sm_at (h : es.toList.map (fun e => (e.key, e.val)) = l.map encE) {j : Nat} {e : MapEntry} (he : es.toList[j]? = some e) : ∃ p, l[j]? = some p ∧ e.key = Mk.enc p.1 ∧ e.val = Cel.enc p.2 := by
 have h1 : (es.toList.map (fun e => (e.key, e.val)))[j]? = some (e.key, e.val) := by rw [List.getElem?_map, he]; rfl
 rw [h, List.getElem?_map] at h1
 obtain ⟨p, hp, hq⟩ := Option.map_eq_some_iff.1 h1
 simp only [encE, Prod.mk.injEq] at hq
 exact ⟨p, hp, hq.1.symm, hq.2.symm⟩
omit [Mk κ] [Cel α] in
theorem mapGet_none : ∀ {l : List (κ × α)}, (∀ p ∈ l, p.1 ≠ k) → mapGet l k = none
 | [], _ => rfl
 | p :: l, h => by
  rw [mapGet, if_neg (h p (List.mem_cons_self ..)), mapGet_none fun q hq => h q (List.mem_cons_of_mem _ hq)]
omit [Mk κ] [Cel α] in
theorem mapGet_some : ∀ {l : List (κ × α)} {p : κ × α}, (l.map (·.1)).Nodup → p ∈ l → mapGet l p.1 = some p.2
 | q :: l, p, hn, hp => by
  rw [List.map_cons, List.nodup_cons] at hn
  rcases List.mem_cons.1 hp with rfl | hp
  ·rw [mapGet, if_pos rfl]
  ·rw [mapGet, if_neg fun e => hn.1 (by rw [e]; exact List.mem_map_of_mem hp), mapGet_some hn.2 hp]
omit [Mk κ] [Cel α] in
theorem mapPut_new : (∀ p ∈ l, p.1 ≠ k) → ∀ v : α, mapPut l k v = l ++ [(k, v)] := by
 intro h v
 unfold mapPut
 rw [if_neg]
 rintro ⟨p, hp, hk⟩
 exact h p hp hk
end
section steps
variable {P : Program} {n : Fr} {ops : Array Oper} {Q : Exit → Act → World → Prop} {E : Env} {w : World} {rest : List Oper} {u : Value} {d : Nat}
variable {ty t kt et : TypeId} {pos : String} {af : Array Edge} {x y z : Operand} {A : Nat → Prop} {κ α : Type} [DecidableEq κ] [Mk κ] [Cel α] {B : Nat} {L : List Ob} {i mb : Nat} {l : List (κ × α)} {k : κ}
end steps
end Go.Gw
