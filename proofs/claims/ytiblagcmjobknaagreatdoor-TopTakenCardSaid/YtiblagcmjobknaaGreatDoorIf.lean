import Derived.Test.YtiblagcmjobknaaGreatDoorHa
import Derived.Test.YtiblagcmjobknaaGreatDoorPm
namespace Go.Gw
open Go Go.RowKit Go.Pu
variable {Dw : Prop}
set_option linter.unusedSimpArgs false
set_option linter.unusedVariables false
theorem zhn {cs : Array Value} {l : List Value} (h : cs.toList = l) : cs = l.toArray := by rw [← h]
def obVv {α : Type} [GoT α] (b : Nat) (t : TypeId) (x : α) : Ob := obE (fun cs : List Value => [obC b cs t, obF (fun A w => GoT.rep A w cs x) (fun h e => GoT.keep h e)])
section
variable {α : Type} [GoT α] {B b : Nat} {A : Nat → Prop} {w : World} {L : List Ob} {t : TypeId} {x : α} {cs : List Value}
theorem Hp.toV (h : Hp B A w (obC b cs t :: L)) (hr : GoT.rep A w cs x) : Hp B A w (obVv b t x :: L) := by
 obtain ⟨U, ⟨f, g, rfl, hd, hp, hs⟩, hu⟩ := h
 exact Hp.pack (F := fun cs : List Value => [obC b cs t, obF (fun A w => GoT.rep A w cs x) (fun h e => GoT.keep h e)]) cs ⟨_, ⟨f, g, rfl, hd, hp, [], g, rfl, by simp, ⟨rfl, hr⟩, hs⟩, hu⟩
theorem Hp.ofV (h : Hp B A w (obVv b t x :: L)) : ∃ cs, GoT.rep A w cs x ∧ Hp B A w (obC b cs t :: L) := by
 obtain ⟨cs, U, ⟨f, g, rfl, hd, hp, f2, g2, hg, hd2, ⟨rfl, hr⟩, hs⟩, hu⟩ := Hp.open h
 rw [List.nil_append] at hg
 subst hg
 exact ⟨cs, hr, _, ⟨f, _, rfl, hd, hp, hs⟩, hu⟩
end
def ReE {κ α : Type} [Mk κ] [GoT α] (A : Nat → Prop) (w : World) (e : MapEntry) (p : κ × α) : Prop := e.key = Mk.enc p.1 ∧ ∃ cs : Array Value, e.val = .agg cs ∧ GoT.rep A w cs.toList p.2
theorem ReE.keep {κ α : Type} [Mk κ] [GoT α] {A A' : Nat → Prop} {w w' : World} {e : MapEntry} {p : κ × α} (h : ReE A w e p) (he : Ex A w A' w') : ReE A' w' e p := by
 obtain ⟨h1, cs, h2, h3⟩ := h
 exact ⟨h1, cs, h2, GoT.keep h3 he⟩
def obRM {κ α : Type} [Mk κ] [GoT α] (mb : Nat) (l : List (κ × α)) : Ob where
 P f A w := f = [mb] ∧ ∃ es clk, w.heap[mb]? = some (.map es clk) ∧ es.size = l.length ∧ (∀ (j : Nat) (e : MapEntry) (p : κ × α), es[j]? = some e → l[j]? = some p → ReE A w e p) ∧ (l.map (·.1)).Nodup
 keep h he hb := by
  obtain ⟨rfl, es, clk, h1, h2, h3, h4⟩ := h
  exact ⟨rfl, es, clk, by rw [hb mb (by simp)]; exact h1, h2, fun j e p h5 h6 => (h3 j e p h5 h6).keep he, h4⟩
 lt h b' hb' := by
  obtain ⟨rfl, es, clk, h1, _⟩ := h
  simp at hb'
  subst hb'
  exact (Array.getElem?_eq_some_iff.1 h1).1
section
variable {κ α : Type} [DecidableEq κ] [Mk κ] [GoT α] {es : Array MapEntry} {l : List (κ × α)} {k : κ} {A : Nat → Prop} {w : World}
omit [DecidableEq κ] in
theorem zhg (hs : es.size = l.length) (h : ∀ (j : Nat) (e : MapEntry) (p : κ × α), es[j]? = some e → l[j]? = some p → ReE A w e p) {j : Nat} {e : MapEntry} (he : es[j]? = some e) : ∃ p, l[j]? = some p ∧ ReE A w e p := by
 have hj : j < l.length := by have := (Array.getElem?_eq_some_iff.1 he).1; omega
 exact ⟨l[j], List.getElem?_eq_getElem hj, h j e _ he (List.getElem?_eq_getElem hj)⟩
omit [DecidableEq κ] in
theorem zfW (hs : es.size = l.length) (h : ∀ (j : Nat) (e : MapEntry) (p : κ × α), es[j]? = some e → l[j]? = some p → ReE A w e p) : ∀ e ∈ es.toList, MapKept.IsKey (Mk.dsc κ) e.key := by
 intro e he
 obtain ⟨j, hj⟩ := List.mem_iff_getElem?.1 he
 rw [Array.getElem?_toList] at hj
 obtain ⟨p, _, hp, _⟩ := zhg hs h hj
 rw [hp]
 exact Mk.isK _
omit [DecidableEq κ] in
theorem zjA (hs : es.size = l.length) (h : ∀ (j : Nat) (e : MapEntry) (p : κ × α), es[j]? = some e → l[j]? = some p → ReE A w e p) (hno : ∀ e ∈ es.toList, e.key ≠ Mk.enc k) : ∀ p ∈ l, p.1 ≠ k := by
 rintro p hp rfl
 obtain ⟨j, hj⟩ := List.mem_iff_getElem?.1 hp
 have hjl : j < es.size := by have := (List.getElem?_eq_some_iff.1 hj).1; omega
 have he : es[j]? = some es[j] := Array.getElem?_eq_getElem hjl
 exact hno es[j] (by simp) (h j _ p he hj).1
end
section steps
variable {P : Program} {n : Fr} {ops : Array Oper} {Q : Exit → Act → World → Prop} {E : Env} {w : World} {rest : List Oper} {u : Value} {d : Nat}
variable {ty t kt et : TypeId} {pos : String} {af : Array Edge} {x y z : Operand} {A : Nat → Prop} {κ α : Type} [DecidableEq κ] [Mk κ] [GoT α] {B : Nat} {L : List Ob} {i mb : Nat} {l : List (κ × α)} {k : κ}
omit [DecidableEq κ] in
theorem zfv (κ α : Type) [Mk κ] [GoT α] (hH : Hp B A w L) (hB : B ≤ w.heap.size) (hA : ∀ b, w.heap.size ≤ b → A b) (hn : Nat.blt d n.sz = true)
  (h : ∀ mb w1 A1, Hp B A1 w1 (obRM (κ := κ) (α := α) mb [] :: L) → Tr Dw B A w A1 w1 → V P n ops Q rest ((d, .map (some mb)) :: E) w1) :
  V P n ops Q (⟨some d, .makeMap t none, ty, pos, af, none⟩ :: rest) E w :=
 V_y (w' := w.alloc (.map #[] 0)) (v := .map (some w.heap.size)) (fun a hA => by simp only [execOp]; rfl) rfl rfl hn
  (h _ _ _ (hH.new (jN (Dw := Dw) B _ hA) hB ⟨rfl, #[], 0, heap_alloc_new w _, rfl, fun j e p h1 h2 => by simp at h2, List.nodup_nil⟩ fun b hb => by simp at hb; subst hb; exact ⟨Nat.le_refl _, fun h => h.2 rfl⟩) ((jN B _ hA).tr hB))
theorem zgj {z : α} {zc : Array Value} (hH : Hp B A w L) (hi : L[i]? = some (obRM mb l)) (ht : P.underlying t = some (.map kt et)) (hk : P.underlying kt = some (Mk.dsc κ)) (hz : ∀ w, (zeroValue et).run P w = .ok (.agg zc) w) (hzv : GoT.rep A w zc.toList z)
  (hx : ev E x = some (.map (some mb))) (hy : ev E y = some (Mk.enc k)) (hn : Nat.blt d n.sz = true)
  (h : ∀ cs : Array Value, GoT.rep A w cs.toList ((zw l k).getD z) → V P n ops Q rest ((d, .agg cs) :: E) w) :
  V P n ops Q (⟨some d, .lookup t x y false, ty, pos, af, none⟩ :: rest) E w := by
 obtain ⟨f, ⟨rfl, es, clk, q1, q2, q3, q4⟩, _, _⟩ := hH.at hi
 have hks := zfW q2 q3
 have hkk : MapKept.IsKey (Mk.dsc κ) (Mk.enc k) := Mk.isK _
 rcases MapKept.findNow_spec hkk es.toList 0 hks with ⟨r1, r2⟩ | ⟨j, e, r1, r2, r3⟩
 ·have hg : zw l k = none := zbm (zjA q2 q3 r2)
  rw [hg, Option.getD_none] at h
  refine V_y (w' := w) (v := .agg zc) (fun a hA' => ?_) rfl rfl hn (h zc hzv)
  simp only [execOp, hA'.eval hx, hA'.eval hy, Instr.lookup]
  simp [run_underlying ht, MapKept.run_getObj_map q1, MapKept.run_checkKey hk hkk, MapKept.run_findKey hk r1, Result.andThen, hz]
 ·rw [Array.getElem?_toList] at r2
  obtain ⟨p, hp, p1, cs, p2, p3⟩ := zhg q2 q3 r2
  rw [p1] at r3
  obtain rfl := Mk.inj _ _ r3
  rw [zbh q4 (List.mem_of_getElem? hp), Option.getD_some] at h
  refine V_y (w' := w) (v := .agg cs) (fun a hA' => ?_) rfl rfl hn (h cs p3)
  have r2' : es.toList[j]? = some e := by rw [Array.getElem?_toList]; exact r2
  simp only [execOp, hA'.eval hx, hA'.eval hy, Instr.lookup]
  simp [run_underlying ht, MapKept.run_getObj_map q1, MapKept.run_checkKey hk hkk, MapKept.run_findKey hk r1, Result.andThen, p2]
theorem zlP {z : α} {zc : Array Value} (hH : Hp B A w L) (hi : L[i]? = some (obRM mb l)) (k : κ) (ht : P.underlying t = some (.map kt et)) (hk : P.underlying kt = some (Mk.dsc κ)) (hz : ∀ w, (zeroValue et).run P w = .ok (.agg zc) w) (hzv : GoT.rep A w zc.toList z) :
  ∃ cs : Array Value, GoT.rep A w cs.toList ((zw l k).getD z) ∧ ∀ {E : Env} {x y : Operand} {ρd : Option Nat} {gd : Option (Nat × Bool)} {w' : World}, Kp Dw w w' → ev E x = some (.map (some mb)) → ev E y = some (Mk.enc k) →
   Y P n E ⟨ρd, .lookup t x y false, ty, pos, af, gd⟩ w' (.agg cs) w' := by
 obtain ⟨f, ⟨rfl, es, clk, q1, q2, q3, q4⟩, _, _⟩ := hH.at hi
 have hks := zfW q2 q3
 have hkk : MapKept.IsKey (Mk.dsc κ) (Mk.enc k) := Mk.isK _
 have hlt : mb < w.heap.size := (Array.getElem?_eq_some_iff.1 q1).1
 rcases MapKept.findNow_spec hkk es.toList 0 hks with ⟨r1, r2⟩ | ⟨j, e, r1, r2, r3⟩
 ·have hg : zw l k = none := zbm (zjA q2 q3 r2)
  rw [hg, Option.getD_none]
  refine ⟨zc, hzv, fun hw hx hy a hA' => ?_⟩
  have q1' := (hw.block mb hlt).trans q1
  simp only [execOp, hA'.eval hx, hA'.eval hy, Instr.lookup]
  simp [run_underlying ht, MapKept.run_getObj_map q1', MapKept.run_checkKey hk hkk, MapKept.run_findKey hk r1, Result.andThen, hz]
 ·rw [Array.getElem?_toList] at r2
  obtain ⟨p, hp, p1, cs, p2, p3⟩ := zhg q2 q3 r2
  rw [p1] at r3
  obtain rfl := Mk.inj _ _ r3
  rw [zbh q4 (List.mem_of_getElem? hp), Option.getD_some]
  refine ⟨cs, p3, fun hw hx hy a hA' => ?_⟩
  have q1' := (hw.block mb hlt).trans q1
  have r2' : es.toList[j]? = some e := by rw [Array.getElem?_toList]; exact r2
  simp only [execOp, hA'.eval hx, hA'.eval hy, Instr.lookup]
  simp [run_underlying ht, MapKept.run_getObj_map q1', MapKept.run_checkKey hk hkk, MapKept.run_findKey hk r1, Result.andThen, p2]
omit [Mk κ] [GoT α] in
theorem zlz {l : List (κ × α)} {p : κ × α} {c : α} (hp : p ∈ l) : QO l p.1 c = l.map (fun q => if q.1 = p.1 then (p.1, c) else q) := by
 unfold QO
 rw [if_pos ⟨p, hp, rfl⟩]
theorem zlY {c : α} {cs : Array Value} (hH : Hp B A w L) (hi : L[i]? = some (obRM mb l)) (ht : P.underlying t = some (.map kt et)) (hk : P.underlying kt = some (Mk.dsc κ)) (hc : GoT.rep A w cs.toList c) (hB : B ≤ w.heap.size) (hA : ∀ b, w.heap.size ≤ b → A b) :
  ∃ w1, (Instr.mapUpdate t (.map (some mb)) (Mk.enc k) (.agg cs)).run P w = .ok () w1 ∧ Hp B A w1 (L.set i (obRM mb (QO l k c))) ∧ Tr Dw B A w A w1 := by
 obtain ⟨f, ⟨rfl, es, clk, q1, q2, q3, q4⟩, hb, hset⟩ := hH.at hi
 have hks := zfW q2 q3
 have hkk : MapKept.IsKey (Mk.dsc κ) (Mk.enc k) := Mk.isK _
 have hmv : ∀ o, Mv Dw B A w A { w with heap := w.heap.setIfInBounds mb o } (some mb) := fun o =>
  ⟨rfl, rfl, rfl, by simp, fun _ => Nat.le_refl _, fun k hk hne => by
   show (w.heap.setIfInBounds mb o)[k]? = w.heap[k]?
   exact (MapKept.heap_set q1).2 k fun e => hne (by rw [e]), fun k hk => by cases hk; exact ⟨(hb mb (by simp)).1, (hb mb (by simp)).2.2⟩, fun _ h => h, fun _ _ h => h, fun b' hb' => hA b' (by simpa using hb')⟩
 have hex : ∀ o, Ex A w A { w with heap := w.heap.setIfInBounds mb o } := fun o => ((hmv o).tr hB).ex
 have fin : ∀ es' clk' l', es'.size = l'.length → (∀ (j : Nat) (e : MapEntry) (p : κ × α), es'[j]? = some e → l'[j]? = some p → ReE A w e p) → (l'.map (·.1)).Nodup → Hp B A { w with heap := w.heap.setIfInBounds mb (.map es' clk') } (L.set i (obRM mb l')) := fun es' clk' l' h1 h2 h3 =>
  hset A _ (some mb) (obRM mb l') [mb] (hmv _) (fun k hk => by cases hk; simp) ⟨rfl, es', clk', (MapKept.heap_set q1).1, h1, fun j e p h4 h5 => (h2 j e p h4 h5).keep (hex _), h3⟩ fun b' hb' => ⟨.inl hb', (hb b' hb').1, (hb b' hb').2.2⟩
 rcases MapKept.findNow_spec hkk es.toList 0 hks with ⟨r1, r2⟩ | ⟨j, e, r1, r2, r3⟩
 ·have hnew := zjA q2 q3 r2
  rw [zfo hnew]
  refine ⟨{ w with heap := w.heap.setIfInBounds mb (.map (es.push { key := Mk.enc k, val := .agg cs, born := clk }) (clk + 1)) }, ?_, fin _ _ _ ?_ ?_ ?_, (hmv _).tr hB⟩
  ·simp only [Instr.mapUpdate]
   simp [run_underlying ht, MapKept.run_getObj_map q1, MapKept.run_checkKey hk hkk, MapKept.run_findKey hk r1, MapKept.run_setObj_map _ q1, Result.andThen]
  ·simp [q2]
  ·intro m e p he hp
   rcases Nat.lt_or_ge m es.size with hm | hm
   ·rw [Array.getElem?_push_lt hm] at he
    rw [List.getElem?_append_left (by omega)] at hp
    exact q3 m e p (by rw [Array.getElem?_eq_getElem hm]; exact he) hp
   ·have hm2 : m = es.size := by
     have := (List.getElem?_eq_some_iff.1 hp).1
     rw [List.length_append, List.length_singleton] at this
     omega
    subst hm2
    rw [Array.getElem?_push_size] at he
    rw [q2, List.getElem?_append_right (Nat.le_refl _), Nat.sub_self] at hp
    cases he
    cases hp
    exact ⟨rfl, cs, rfl, hc⟩
  ·rw [List.map_append, List.nodup_append]
   refine ⟨q4, by simp, ?_⟩
   intro a ha b hb2
   obtain ⟨p, hp, rfl⟩ := List.mem_map.1 ha
   simp at hb2
   subst hb2
   exact hnew p hp
 ·have r2' := r2
  rw [Array.getElem?_toList] at r2'
  obtain ⟨p, hp, p1, _⟩ := zhg q2 q3 r2'
  rw [p1] at r3
  obtain rfl := Mk.inj _ _ r3
  rw [zlz (List.mem_of_getElem? hp)]
  refine ⟨{ w with heap := w.heap.setIfInBounds mb (.map (es.modify j fun e => { e with key := Mk.enc p.1, val := .agg cs }) clk) }, ?_, fin _ _ _ ?_ ?_ ?_, (hmv _).tr hB⟩
  ·simp only [Instr.mapUpdate]
   simp [run_underlying ht, MapKept.run_getObj_map q1, MapKept.run_checkKey hk hkk, MapKept.run_findKey hk r1, MapKept.run_setObj_map _ q1, MapKept.run_keyThatStays hkk, r2', p1, Result.andThen]
  ·simp [q2]
  ·intro m e' p' he hp'
   rw [Array.getElem?_modify] at he
   rw [List.getElem?_map] at hp'
   by_cases hjm : j = m
   ·subst hjm
    rw [if_pos rfl, r2'] at he
    rw [hp] at hp'
    cases he
    simp at hp'
    subst hp'
    exact ⟨rfl, cs, rfl, hc⟩
   ·rw [if_neg hjm] at he
    obtain ⟨q, hq, hq2⟩ := Option.map_eq_some_iff.1 hp'
    have hne : q.1 ≠ p.1 := fun e1 => by
     have n1 : (l.map (·.1))[m]? = some p.1 := by rw [List.getElem?_map, hq]; simp [e1]
     have n2 : (l.map (·.1))[j]? = some p.1 := by rw [List.getElem?_map, hp]; rfl
     have l2 := (List.getElem?_eq_some_iff.1 n2).1
     exact hjm ((List.getElem?_inj l2 q4).1 (n2.trans n1.symm))
    rw [if_neg hne] at hq2
    subst hq2
    exact q3 m e' q he hq
  ·have : (l.map (fun q => if q.1 = p.1 then (p.1, c) else q)).map (·.1) = l.map (·.1) := by
    rw [List.map_map]
    apply List.map_congr_left
    intro q _
    by_cases hq : q.1 = p.1
    ·simp [hq]
    ·simp [hq]
   rw [this]
   exact q4
theorem zee {c : α} {cs : Array Value} (hH : Hp B A w L) (hi : L[i]? = some (obRM mb l)) (ht : P.underlying t = some (.map kt et)) (hk : P.underlying kt = some (Mk.dsc κ))
  (hx : ev E x = some (.map (some mb))) (hy : ev E y = some (Mk.enc k)) (hz : ev E z = some (.agg cs)) (hc : GoT.rep A w cs.toList c) (hB : B ≤ w.heap.size) (hA : ∀ b, w.heap.size ≤ b → A b)
  (h : ∀ w1, Hp B A w1 (L.set i (obRM mb (QO l k c))) → Tr Dw B A w A w1 → V P n ops Q rest E w1) :
  V P n ops Q (⟨none, .mapUpdate t x y z, ty, pos, af, none⟩ :: rest) E w := by
 obtain ⟨w1, h1, h2, h3⟩ := zlY (Dw := Dw) (k := k) hH hi ht hk hc hB hA
 refine V_s (w' := w1) (fun a hA' => ?_) rfl rfl (h w1 h2 h3)
 simp only [execOp, hA'.eval hx, hA'.eval hy, hA'.eval hz]
 simp [h1, Result.andThen]
omit [Mk κ] [GoT α] in
theorem zhZ {l : List (κ × α)} (h : ∀ p ∈ l, p.1 ≠ k) : zaf l k = l := by
 unfold zaf
 rw [List.filter_eq_self]
 intro p hp
 simpa using h p hp
omit [Mk κ] [GoT α] in
theorem zhv : ∀ {l : List (κ × α)} {j : Nat} {p : κ × α}, (l.map (·.1)).Nodup → l[j]? = some p → zaf l p.1 = l.eraseIdx j
 | [], _, _, _, h => by simp at h
 | q :: l, 0, p, hn, h => by
  rw [List.map_cons, List.nodup_cons] at hn
  cases h
  unfold zaf
  rw [List.filter_cons, if_neg (by simp), List.eraseIdx_zero, List.tail_cons]
  refine zhZ fun r hr e => hn.1 ?_
  rw [← e]
  exact List.mem_map_of_mem hr
 | q :: l, j + 1, p, hn, h => by
  rw [List.map_cons, List.nodup_cons] at hn
  have h' : l[j]? = some p := by simpa using h
  have hne : q.1 ≠ p.1 := fun e => hn.1 (by rw [e]; exact List.mem_map_of_mem (List.mem_of_getElem? h'))
  have := zhv hn.2 h'
  unfold zaf at this ⊢
  rw [List.filter_cons, if_pos (by simpa using hne), List.eraseIdx_cons_succ, this]
omit [Mk κ] [GoT α] in
theorem zkm {l : List (κ × α)} (h : (l.map (·.1)).Nodup) : ((zaf l k).map (·.1)).Nodup := h.sublist (List.filter_sublist.map _)
theorem zjg {es : Array MapEntry} {j : Nat} (h : j < es.size) : (es.eraseIdxIfInBounds j).toList = es.toList.eraseIdx j := by
 unfold Array.eraseIdxIfInBounds
 rw [dif_pos h]
 simp
omit [DecidableEq κ] [Mk κ] [GoT α] in
theorem V_yd {o : Oper} {v : Value} {w' : World} (hy : Y P n E o w v w') (hg : o.guard = none) (hd : o.dst = none) (h : V P n ops Q rest E w') : V P n ops Q (o :: rest) E w := by
 intro a ha
 refine wpListIn_plain hg fun K hK => ⟨fun _ _ => trivial, ?_⟩
 rw [Qe (hy a ha) (fun d h => by cases h), Oper.uponIn_value, hd]
 exact hK _ _ (h _ ha)
theorem zei {β γ : Type} (f : β → γ) : ∀ (l : List β) (j : Nat), (l.eraseIdx j).map f = (l.map f).eraseIdx j
 | [], _ => rfl
 | x :: l, 0 => rfl
 | x :: l, j + 1 => by rw [List.eraseIdx_cons_succ, List.map_cons, List.map_cons, List.eraseIdx_cons_succ, zei f l j]
theorem zjR {α : Type} [Cel α] {l : List (κ × α)} {at1 at2 : TypeId} (hH : Hp B A w L) (hi : L[i]? = some (obSM mb l)) (ht : P.underlying at1 = some (.map kt et)) (hk : P.underlying kt = some (Mk.dsc κ))
  (hx : ev E x = some (.map (some mb))) (hy : ev E y = some (Mk.enc k)) (hB : B ≤ w.heap.size) (hA : ∀ b, w.heap.size ≤ b → A b)
  (h : ∀ w1, Hp B A w1 (L.set i (obSM mb (zaf l k))) → Tr Dw B A w A w1 → V P n ops Q rest E w1) :
  V P n ops Q (⟨none, .call ⟨.builtin .delete, #[x, y], #[at1, at2]⟩, ty, pos, af, none⟩ :: rest) E w := by
 obtain ⟨f, ⟨rfl, es, clk, q1, q2, q3⟩, hb, hset⟩ := hH.at hi
 have hks : ∀ e ∈ es.toList, MapKept.IsKey (Mk.dsc κ) e.key := fun e he => by
  obtain ⟨p, _, hp, _⟩ := zfZ q2 e he
  rw [hp]
  exact Mk.isK _
 have hkk : MapKept.IsKey (Mk.dsc κ) (Mk.enc k) := Mk.isK _
 have hmv : ∀ o, Mv Dw B A w A { w with heap := w.heap.setIfInBounds mb o } (some mb) := fun o =>
  ⟨rfl, rfl, rfl, by simp, fun _ => Nat.le_refl _, fun k hk hne => by
   show (w.heap.setIfInBounds mb o)[k]? = w.heap[k]?
   exact (MapKept.heap_set q1).2 k fun e => hne (by rw [e]), fun k hk => by cases hk; exact ⟨(hb mb (by simp)).1, (hb mb (by simp)).2.2⟩, fun _ h => h, fun _ _ h => h, fun b' hb' => hA b' (by simpa using hb')⟩
 have fin : ∀ es' clk' l', es'.toList.map (fun e => (e.key, e.val)) = List.map (encE (κ := κ) (α := α)) l' → (l'.map (·.1)).Nodup → Hp B A { w with heap := w.heap.setIfInBounds mb (.map es' clk') } (L.set i (obSM mb l')) := fun es' clk' l' h1 h2 =>
  hset A _ (some mb) (obSM mb l') [mb] (hmv _) (fun k hk => by cases hk; simp) ⟨rfl, es', clk', (MapKept.heap_set q1).1, h1, h2⟩ fun b' hb' => ⟨.inl hb', (hb b' hb').1, (hb b' hb').2.2⟩
 rcases MapKept.findNow_spec hkk es.toList 0 hks with ⟨r1, r2⟩ | ⟨j, e, r1, r2, r3⟩
 ·have hnew : ∀ p ∈ l, p.1 ≠ k := fun p hp hpk => by
   have : encE p ∈ es.toList.map (fun e => (e.key, e.val)) := by rw [q2]; exact List.mem_map_of_mem hp
   obtain ⟨e, he, hq⟩ := List.mem_map.1 this
   simp only [encE, Prod.mk.injEq] at hq
   exact r2 e he (by rw [hq.1, hpk])
  rw [zhZ hnew] at h
  refine V_yd (w' := { w with heap := w.heap.setIfInBounds mb (.map es clk) }) (v := .tuple #[]) (fun a hA' => ?_) rfl rfl (h _ (fin _ _ _ q2 q3) ((hmv _).tr hB))
  simp only [execOp]
  simp [resolve, invoke, builtin, hA'.eval hx, hA'.eval hy, Builtin.delete_, run_underlying ht, MapKept.run_getObj_map q1, MapKept.run_checkKey hk hkk, MapKept.run_findKey hk r1, MapKept.run_setObj_map _ q1, Result.andThen]
 ·obtain ⟨p, hp, p1, p2⟩ := zjC q2 r2
  rw [p1] at r3
  obtain rfl := Mk.inj _ _ r3
  rw [zhv q3 hp] at h
  have r2' := r2
  rw [Array.getElem?_toList] at r2'
  have hj : j < es.size := (Array.getElem?_eq_some_iff.1 r2').1
  refine V_yd (w' := { w with heap := w.heap.setIfInBounds mb (.map (es.eraseIdxIfInBounds j) clk) }) (v := .tuple #[]) (fun a hA' => ?_) rfl rfl (h _ (fin _ _ _ ?_ ?_) ((hmv _).tr hB))
  ·simp only [execOp]
   simp [resolve, invoke, builtin, hA'.eval hx, hA'.eval hy, Builtin.delete_, run_underlying ht, MapKept.run_getObj_map q1, MapKept.run_checkKey hk hkk, MapKept.run_findKey hk r1, MapKept.run_setObj_map _ q1, Result.andThen]
  ·rw [zjg hj, zei, zei, q2]
  ·rw [← zhv q3 hp]
   exact zkm q3
end steps
end Go.Gw
