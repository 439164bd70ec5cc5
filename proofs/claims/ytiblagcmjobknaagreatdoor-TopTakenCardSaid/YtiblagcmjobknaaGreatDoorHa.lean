import Derived.Test.YtiblagcmjobknaaGreatDoorGe
import Derived.Test.YtiblagcmjobknaaGreatDoorPj
namespace Go.Gw
open Go Go.RowKit Go.Pu
variable {Dw : Prop}
set_option linter.unusedSimpArgs false
set_option linter.unusedVariables false
class Cel (α : Type) where
 enc : α → Value
instance : Cel Bool := ⟨Value.bool⟩
instance : Cel Int := ⟨Value.int .i64⟩
instance : Cel ByteArray := ⟨Value.string⟩
class Mk (κ : Type) where
 dsc : TypeDesc
 enc : κ → Value
 isK : ∀ k, MapKept.IsKey dsc (enc k)
 inj : ∀ a b, enc a = enc b → a = b
instance : Mk ByteArray := ⟨.string, Value.string, fun _ => trivial, fun _ _ h => Value.string.inj h⟩
instance : Mk Int := ⟨.int .i64, Value.int .i64, fun _ => rfl, fun _ _ h => (Value.int.inj h).2⟩
def encE {κ α : Type} [Mk κ] [Cel α] (p : κ × α) : Value × Value := (Mk.enc p.1, Cel.enc p.2)
def obSM {κ α : Type} [Mk κ] [Cel α] (mb : Nat) (l : List (κ × α)) : Ob where
 P f A w := f = [mb] ∧ ∃ es clk, w.heap[mb]? = some (.map es clk) ∧ es.toList.map (fun e => (e.key, e.val)) = l.map encE ∧ (l.map (·.1)).Nodup
 keep h he hb := by
  obtain ⟨rfl, es, clk, h1, h2⟩ := h
  exact ⟨rfl, es, clk, by rw [hb mb (by simp)]; exact h1, h2⟩
 lt h b' hb' := by
  obtain ⟨rfl, es, clk, h1, _⟩ := h
  simp at hb'
  subst hb'
  exact (Array.getElem?_eq_some_iff.1 h1).1
section
variable {κ α : Type} [DecidableEq κ] [Mk κ] [Cel α] {es : Array MapEntry} {l : List (κ × α)} {k : κ}
omit [DecidableEq κ] in
theorem zfZ (h : es.toList.map (fun e => (e.key, e.val)) = l.map encE) : ∀ e ∈ es.toList, ∃ p ∈ l, e.key = Mk.enc p.1 ∧ e.val = Cel.enc p.2 := by
 intro e he
 have : (e.key, e.val) ∈ l.map encE := by rw [← h]; exact List.mem_map_of_mem he
 obtain ⟨p, hp, hq⟩ := List.mem_map.1 this
 simp only [encE, Prod.mk.injEq] at hq
 exact ⟨p, hp, hq.1.symm, hq.2.symm⟩
omit [DecidableEq κ] in
theorem zjC (h : es.toList.map (fun e => (e.key, e.val)) = l.map encE) {j : Nat} {e : MapEntry} (he : es.toList[j]? = some e) : ∃ p, l[j]? = some p ∧ e.key = Mk.enc p.1 ∧ e.val = Cel.enc p.2 := by
 have h1 : (es.toList.map (fun e => (e.key, e.val)))[j]? = some (e.key, e.val) := by rw [List.getElem?_map, he]; rfl
 rw [h, List.getElem?_map] at h1
 obtain ⟨p, hp, hq⟩ := Option.map_eq_some_iff.1 h1
 simp only [encE, Prod.mk.injEq] at hq
 exact ⟨p, hp, hq.1.symm, hq.2.symm⟩
omit [Mk κ] [Cel α] in
theorem zbm : ∀ {l : List (κ × α)}, (∀ p ∈ l, p.1 ≠ k) → zw l k = none
 | [], _ => rfl
 | p :: l, h => by
  rw [zw, if_neg (h p (List.mem_cons_self ..)), zbm fun q hq => h q (List.mem_cons_of_mem _ hq)]
omit [Mk κ] [Cel α] in
theorem zbh : ∀ {l : List (κ × α)} {p : κ × α}, (l.map (·.1)).Nodup → p ∈ l → zw l p.1 = some p.2
 | q :: l, p, hn, hp => by
  rw [List.map_cons, List.nodup_cons] at hn
  rcases List.mem_cons.1 hp with rfl | hp
  ·rw [zw, if_pos rfl]
  ·rw [zw, if_neg fun e => hn.1 (by rw [e]; exact List.mem_map_of_mem hp), zbh hn.2 hp]
omit [Mk κ] [Cel α] in
theorem zfo : (∀ p ∈ l, p.1 ≠ k) → ∀ v : α, QO l k v = l ++ [(k, v)] := by
 intro h v
 unfold QO
 rw [if_neg]
 rintro ⟨p, hp, hk⟩
 exact h p hp hk
end
section steps
variable {P : Program} {n : Fr} {ops : Array Oper} {Q : Exit → Act → World → Prop} {E : Env} {w : World} {rest : List Oper} {u : Value} {d : Nat}
variable {ty t kt et : TypeId} {pos : String} {af : Array Edge} {x y z : Operand} {A : Nat → Prop} {κ α : Type} [DecidableEq κ] [Mk κ] [Cel α] {B : Nat} {L : List Ob} {i mb : Nat} {l : List (κ × α)} {k : κ}
theorem zjj (κ α : Type) [Mk κ] [Cel α] (hH : Hp B A w L) (hB : B ≤ w.heap.size) (hA : ∀ b, w.heap.size ≤ b → A b) (hn : Nat.blt d n.sz = true)
  (h : ∀ mb w1 A1, Hp B A1 w1 (obSM (κ := κ) (α := α) mb [] :: L) → Tr Dw B A w A1 w1 → V P n ops Q rest ((d, .map (some mb)) :: E) w1) :
  V P n ops Q (⟨some d, .makeMap t none, ty, pos, af, none⟩ :: rest) E w :=
 V_y (w' := w.alloc (.map #[] 0)) (v := .map (some w.heap.size)) (fun a hA => by simp only [execOp]; rfl) rfl rfl hn
  (h _ _ _ (hH.new (jN (Dw := Dw) B _ hA) hB ⟨rfl, #[], 0, heap_alloc_new w _, rfl, List.nodup_nil⟩ fun b hb => by simp at hb; subst hb; exact ⟨Nat.le_refl _, fun h => h.2 rfl⟩) ((jN B _ hA).tr hB))
theorem zgF {z : α} {zv : Value} (hH : Hp B A w L) (hi : L[i]? = some (obSM mb l)) (ht : P.underlying t = some (.map kt et)) (hk : P.underlying kt = some (Mk.dsc κ)) (hz : ∀ w, (zeroValue et).run P w = .ok zv w) (hzv : zv = Cel.enc z)
  (hx : ev E x = some (.map (some mb))) (hy : ev E y = some (Mk.enc k)) : Y P n E ⟨some d, .lookup t x y false, ty, pos, af, none⟩ w (Cel.enc ((zw l k).getD z)) w := by
 obtain ⟨f, ⟨rfl, es, clk, q1, q2, q3⟩, _, _⟩ := hH.at hi
 have hks : ∀ e ∈ es.toList, MapKept.IsKey (Mk.dsc κ) e.key := fun e he => by
  obtain ⟨p, _, hp, _⟩ := zfZ q2 e he
  rw [hp]
  exact Mk.isK _
 have hkk : MapKept.IsKey (Mk.dsc κ) (Mk.enc k) := Mk.isK _
 intro a hA'
 rcases MapKept.findNow_spec hkk es.toList 0 hks with ⟨r1, r2⟩ | ⟨j, e, r1, r2, r3⟩
 ·have hg : zw l k = none := zbm fun p hp hpk => by
   have : encE p ∈ es.toList.map (fun e => (e.key, e.val)) := by rw [q2]; exact List.mem_map_of_mem hp
   obtain ⟨e, he, hq⟩ := List.mem_map.1 this
   simp only [encE, Prod.mk.injEq] at hq
   exact r2 e he (by rw [hq.1, hpk])
  rw [hg, Option.getD_none, ← hzv]
  simp only [execOp, hA'.eval hx, hA'.eval hy, Instr.lookup]
  simp [run_underlying ht, MapKept.run_getObj_map q1, MapKept.run_checkKey hk hkk, MapKept.run_findKey hk r1, Result.andThen, hz]
 ·obtain ⟨p, hp, p1, p2⟩ := zjC q2 r2
  rw [p1] at r3
  obtain rfl := Mk.inj _ _ r3
  rw [zbh q3 (List.mem_of_getElem? hp), Option.getD_some, ← p2]
  simp only [execOp, hA'.eval hx, hA'.eval hy, Instr.lookup]
  simp [run_underlying ht, MapKept.run_getObj_map q1, MapKept.run_checkKey hk hkk, MapKept.run_findKey hk r1, Result.andThen]
theorem zhp {c : α} (hH : Hp B A w L) (hi : L[i]? = some (obSM mb l)) (ht : P.underlying t = some (.map kt et)) (hk : P.underlying kt = some (Mk.dsc κ))
  (hx : ev E x = some (.map (some mb))) (hy : ev E y = some (Mk.enc k)) (hz : ev E z = some (Cel.enc c)) (hB : B ≤ w.heap.size) (hA : ∀ b, w.heap.size ≤ b → A b)
  (h : ∀ w1, Hp B A w1 (L.set i (obSM mb (QO l k c))) → Tr Dw B A w A w1 → V P n ops Q rest E w1) :
  V P n ops Q (⟨none, .mapUpdate t x y z, ty, pos, af, none⟩ :: rest) E w := by
 obtain ⟨f, ⟨rfl, es, clk, q1, q2, q3⟩, hb, hset⟩ := hH.at hi
 have hks : ∀ e ∈ es.toList, MapKept.IsKey (Mk.dsc κ) e.key := fun e he => by
  obtain ⟨p, _, hp, _⟩ := zfZ q2 e he
  rw [hp]
  exact Mk.isK _
 have hkk : MapKept.IsKey (Mk.dsc κ) (Mk.enc k) := Mk.isK _
 have hlt : mb < w.heap.size := (Array.getElem?_eq_some_iff.1 q1).1
 have hmv : ∀ o, Mv Dw B A w A { w with heap := w.heap.setIfInBounds mb o } (some mb) := fun o =>
  ⟨rfl, rfl, rfl, by simp, fun _ => Nat.le_refl _, fun k hk hne => by
   show (w.heap.setIfInBounds mb o)[k]? = w.heap[k]?
   exact (MapKept.heap_set q1).2 k fun e => hne (by rw [e]), fun k hk => by cases hk; exact ⟨(hb mb (by simp)).1, (hb mb (by simp)).2.2⟩, fun _ h => h, fun _ _ h => h, fun b' hb' => hA b' (by simpa using hb')⟩
 have fin : ∀ es' clk' l', es'.toList.map (fun e => (e.key, e.val)) = List.map (encE (κ := κ) (α := α)) l' → (l'.map (·.1)).Nodup → Hp B A { w with heap := w.heap.setIfInBounds mb (.map es' clk') } (L.set i (obSM mb l')) := fun es' clk' l' h1 h2 =>
  hset A _ (some mb) (obSM mb l') [mb] (hmv _) (fun k hk => by cases hk; simp) ⟨rfl, es', clk', (MapKept.heap_set q1).1, h1, h2⟩ fun b' hb' => ⟨.inl hb', (hb b' hb').1, (hb b' hb').2.2⟩
 rcases MapKept.findNow_spec hkk es.toList 0 hks with ⟨r1, r2⟩ | ⟨j, e, r1, r2, r3⟩
 ·have hnew : ∀ p ∈ l, p.1 ≠ k := fun p hp hpk => by
   have : encE p ∈ es.toList.map (fun e => (e.key, e.val)) := by rw [q2]; exact List.mem_map_of_mem hp
   obtain ⟨e, he, hq⟩ := List.mem_map.1 this
   simp only [encE, Prod.mk.injEq] at hq
   exact r2 e he (by rw [hq.1, hpk])
  rw [zfo hnew] at h
  refine V_s (w' := { w with heap := w.heap.setIfInBounds mb (.map (es.push { key := Mk.enc k, val := Cel.enc c, born := clk }) (clk + 1)) }) (fun a hA' => ?_) rfl rfl (h _ (fin _ _ _ ?_ ?_) ((hmv _).tr hB))
  ·simp only [execOp, hA'.eval hx, hA'.eval hy, hA'.eval hz, Instr.mapUpdate]
   simp [run_underlying ht, MapKept.run_getObj_map q1, MapKept.run_checkKey hk hkk, MapKept.run_findKey hk r1, MapKept.run_setObj_map _ q1, Result.andThen]
  ·rw [Array.toList_push, List.map_append, List.map_append, q2]
   rfl
  ·rw [List.map_append, List.nodup_append]
   refine ⟨q3, by simp, ?_⟩
   intro a ha b hb2
   obtain ⟨p, hp, rfl⟩ := List.mem_map.1 ha
   simp at hb2
   subst hb2
   exact hnew p hp
 ·obtain ⟨p, hp, p1, p2⟩ := zjC q2 r2
  rw [p1] at r3
  obtain rfl := Mk.inj _ _ r3
  have hj : es[j]? = some e := by rw [← Array.getElem?_toList]; exact r2
  have hput : QO l p.1 c = l.map (fun q => if q.1 = p.1 then (p.1, c) else q) := by
   unfold QO
   rw [if_pos ⟨p, List.mem_of_getElem? hp, rfl⟩]
  rw [hput] at h
  refine V_s (w' := { w with heap := w.heap.setIfInBounds mb (.map (es.modify j fun e => { e with key := Mk.enc p.1, val := Cel.enc c }) clk) }) (fun a hA' => ?_) rfl rfl (h _ (fin _ _ _ ?_ ?_) ((hmv _).tr hB))
  ·simp only [execOp, hA'.eval hx, hA'.eval hy, hA'.eval hz, Instr.mapUpdate]
   simp [run_underlying ht, MapKept.run_getObj_map q1, MapKept.run_checkKey hk hkk, MapKept.run_findKey hk r1, MapKept.run_setObj_map _ q1, MapKept.run_keyThatStays hkk, hj, p1, Result.andThen]
  ·apply List.ext_getElem?
   intro m
   rw [List.getElem?_map, List.getElem?_map, List.getElem?_map, Array.getElem?_toList, Array.getElem?_modify]
   have hm : (es.toList.map (fun e => (e.key, e.val)))[m]? = (l.map encE)[m]? := by rw [q2]
   rw [List.getElem?_map, List.getElem?_map, Array.getElem?_toList] at hm
   by_cases hjm : j = m
   ·subst hjm
    rw [if_pos rfl, hj, hp]
    simp [encE]
   ·rw [if_neg hjm, hm]
    cases hlm : l[m]? with
    | none => rfl
    | some q =>
     have hne : q.1 ≠ p.1 := fun e1 => by
      have n1 : (l.map (·.1))[m]? = some p.1 := by rw [List.getElem?_map, hlm]; simp [e1]
      have n2 : (l.map (·.1))[j]? = some p.1 := by rw [List.getElem?_map, hp]; rfl
      have l1 := (List.getElem?_eq_some_iff.1 n1).1
      have l2 := (List.getElem?_eq_some_iff.1 n2).1
      exact hjm ((List.getElem?_inj l2 q3).1 (n2.trans n1.symm))
     simp [hne]
  ·have : (l.map (fun q => if q.1 = p.1 then (p.1, c) else q)).map (·.1) = l.map (·.1) := by
    rw [List.map_map]
    apply List.map_congr_left
    intro q _
    by_cases hq : q.1 = p.1
    ·simp [hq]
    ·simp [hq]
   rw [this]
   exact q3
end steps
end Go.Gw
