import Derived.Test.YtjdjmddclfhpeaaGreatDoorHo
import Derived.Test.YtjdjmddclfhpeaaGreatDoorGt
import Derived.Test.YtjdjmddclfhpeaaGreatDoorPr
namespace Go.Gw
open Go Go.RowKit Go.Pu Go.ChangeMaps
variable {Dw : Prop}
set_option linter.unusedSimpArgs false
set_option linter.unusedVariables false
set_option linter.unusedSectionVars false
structure MRf where
 b : Nat
class Ref (R : Type) where
 b : R → Nat
 enc : Option R → Value
instance : Ref Ptr := ⟨Ptr.b, fun | none => .pointer none | some p => .pointer (some ⟨p.b, 0, none⟩)⟩
instance : Ref MRf := ⟨MRf.b, fun | none => .map none | some m => .map (some m.b)⟩
instance {R : Type} [Ref R] : Cel (Option R) := ⟨Ref.enc⟩
def obMb {κ α : Type} [Mk κ] [Cel α] (mb : Nat) (l : List (κ × α)) : Ob where
 P f A w := f = [mb] ∧ ∃ es clk, w.heap[mb]? = some (.map es clk) ∧ es.toList.map (fun e => (e.key, e.val)) = l.map encE ∧ (l.map (·.1)).Nodup ∧ (∀ e ∈ es.toList, e.born < clk) ∧ (es.toList.map (·.born)).Nodup
 keep h he hb := by
  obtain ⟨rfl, es, clk, h1, h2⟩ := h
  exact ⟨rfl, es, clk, by rw [hb mb (by simp)]; exact h1, h2⟩
 lt h b' hb' := by
  obtain ⟨rfl, es, clk, h1, _⟩ := h
  simp at hb'
  subst hb'
  exact (Array.getElem?_eq_some_iff.1 h1).1
section steps
variable {P : Program} {n : Fr} {ops : Array Oper} {Q : Exit → Act → World → Prop} {E : Env} {w : World} {rest : List Oper} {u : Value} {d : Nat}
variable {ty t kt et : TypeId} {pos : String} {af : Array Edge} {x y z : Operand} {A : Nat → Prop} {κ α : Type} [DecidableEq κ] [Mk κ] [Cel α] {B : Nat} {L : List Ob} {i mb : Nat} {l : List (κ × α)} {k : κ}
theorem V_makeMapB (κ α : Type) [Mk κ] [Cel α] (hH : Hp B A w L) (hB : B ≤ w.heap.size) (hA : ∀ b, w.heap.size ≤ b → A b) (hn : Nat.blt d n.sz = true)
  (h : ∀ mb w1 A1, Hp B A1 w1 (obMb (κ := κ) (α := α) mb [] :: L) → Tr Dw B A w A1 w1 → V P n ops Q rest ((d, .map (some mb)) :: E) w1) :
  V P n ops Q (⟨some d, .makeMap t none, ty, pos, af, none⟩ :: rest) E w :=
 V_y (w' := w.alloc (.map #[] 0)) (v := .map (some w.heap.size)) (fun a hA => by simp only [execOp]; rfl) rfl rfl hn
  (h _ _ _ (hH.new (mv_alloc (Dw := Dw) B _ hA) hB ⟨rfl, #[], 0, heap_alloc_new w _, rfl, List.nodup_nil, (fun e he => by cases he), List.nodup_nil⟩ fun b hb => by simp at hb; subst hb; exact ⟨Nat.le_refl _, fun h => h.2 rfl⟩) ((mv_alloc B _ hA).tr hB))
theorem Y_lookupB {z : α} {zv : Value} (hH : Hp B A w L) (hi : L[i]? = some (obMb mb l)) (ht : P.underlying t = some (.map kt et)) (hk : P.underlying kt = some (Mk.dsc κ)) (hz : ∀ w, (zeroValue et).run P w = .ok zv w) (hzv : zv = Cel.enc z)
  (hx : ev E x = some (.map (some mb))) (hy : ev E y = some (Mk.enc k)) : Y P n E ⟨some d, .lookup t x y false, ty, pos, af, none⟩ w (Cel.enc ((mapGet l k).getD z)) w := by
 obtain ⟨f, ⟨rfl, es, clk, q1, q2, q3, _⟩, _, _⟩ := hH.at hi
 have hks : ∀ e ∈ es.toList, MapKept.IsKey (Mk.dsc κ) e.key := fun e he => by
  obtain ⟨p, _, hp, _⟩ := sm_keys q2 e he
  rw [hp]
  exact Mk.isK _
 have hkk : MapKept.IsKey (Mk.dsc κ) (Mk.enc k) := Mk.isK _
 intro a hA'
 rcases MapKept.findNow_spec hkk es.toList 0 hks with ⟨r1, r2⟩ | ⟨j, e, r1, r2, r3⟩
 ·have hg : mapGet l k = none := mapGet_none fun p hp hpk => by
   have : encE p ∈ es.toList.map (fun e => (e.key, e.val)) := by rw [q2]; exact List.mem_map_of_mem hp
   obtain ⟨e, he, hq⟩ := List.mem_map.1 this
   simp only [encE, Prod.mk.injEq] at hq
   exact r2 e he (by rw [hq.1, hpk])
  rw [hg, Option.getD_none, ← hzv]
  simp only [execOp, hA'.eval hx, hA'.eval hy, Instr.lookup]
  simp [run_underlying ht, MapKept.run_getObj_map q1, MapKept.run_checkKey hk hkk, MapKept.run_findKey hk r1, Result.andThen, hz]
 ·obtain ⟨p, hp, p1, p2⟩ := sm_at q2 r2
  rw [p1] at r3
  obtain rfl := Mk.inj _ _ r3
  rw [mapGet_some q3 (List.mem_of_getElem? hp), Option.getD_some, ← p2]
  simp only [execOp, hA'.eval hx, hA'.eval hy, Instr.lookup]
  simp [run_underlying ht, MapKept.run_getObj_map q1, MapKept.run_checkKey hk hkk, MapKept.run_findKey hk r1, Result.andThen]
theorem V_mapNewB {c : α} (hH : Hp B A w L) (hi : L[i]? = some (obMb mb l)) (hnew : mapGet l k = none) (ht : P.underlying t = some (.map kt et)) (hk : P.underlying kt = some (Mk.dsc κ))
  (hx : ev E x = some (.map (some mb))) (hy : ev E y = some (Mk.enc k)) (hz : ev E z = some (Cel.enc c)) (hB : B ≤ w.heap.size) (hA : ∀ b, w.heap.size ≤ b → A b)
  (h : ∀ w1, Hp B A w1 (L.set i (obMb mb (l ++ [(k, c)]))) → Tr Dw B A w A w1 → V P n ops Q rest E w1) :
  V P n ops Q (⟨none, .mapUpdate t x y z, ty, pos, af, none⟩ :: rest) E w := by
 obtain ⟨f, ⟨rfl, es, clk, q1, q2, q3, q4, q5⟩, hb, hset⟩ := hH.at hi
 have hks : ∀ e ∈ es.toList, MapKept.IsKey (Mk.dsc κ) e.key := fun e he => by
  obtain ⟨p, _, hp, _⟩ := sm_keys q2 e he
  rw [hp]
  exact Mk.isK _
 have hkk : MapKept.IsKey (Mk.dsc κ) (Mk.enc k) := Mk.isK _
 have hlt : mb < w.heap.size := (Array.getElem?_eq_some_iff.1 q1).1
 have hmv : ∀ o, Mv Dw B A w A (setBlock w mb o) (some mb) := fun o => mv_set o hlt (hb mb (by simp)).1 (hb mb (by simp)).2.2 hA
 have hne : ∀ p ∈ l, p.1 ≠ k := fun p hp e => by
  rw [← e, mapGet_some q3 hp] at hnew
  cases hnew
 rcases MapKept.findNow_spec hkk es.toList 0 hks with ⟨r1, r2⟩ | ⟨j, e, r1, r2, r3⟩
 ·refine V_s (w' := setBlock w mb (.map (es.push { key := Mk.enc k, val := Cel.enc c, born := clk }) (clk + 1))) (fun a hA' => ?_) rfl rfl (h _ (hset A _ (some mb) _ [mb] (hmv _) (fun k hk => by cases hk; simp) ⟨rfl, _, _, (MapKept.heap_set q1).1, ?_, ?_, ?_, ?_⟩ fun b' hb' => ⟨.inl hb', (hb b' hb').1, (hb b' hb').2.2⟩) ((hmv _).tr hB))
  ·simp only [execOp, hA'.eval hx, hA'.eval hy, hA'.eval hz, Instr.mapUpdate]
   simp [run_underlying ht, MapKept.run_getObj_map q1, MapKept.run_checkKey hk hkk, MapKept.run_findKey hk r1, MapKept.run_setObj_map _ q1, Result.andThen, setBlock]
  ·rw [Array.toList_push, List.map_append, List.map_append, q2]
   rfl
  ·rw [List.map_append, List.nodup_append]
   refine ⟨q3, by simp, ?_⟩
   intro a ha b hb2
   obtain ⟨p, hp, rfl⟩ := List.mem_map.1 ha
   simp at hb2
   subst hb2
   exact hne p hp
  ·intro e he
   rw [Array.toList_push, List.mem_append] at he
   rcases he with he | he
   ·exact Nat.lt_succ_of_lt (q4 e he)
   ·rw [List.mem_singleton] at he
    subst he
    exact Nat.lt_succ_self _
  ·rw [Array.toList_push, List.map_append, List.nodup_append]
   refine ⟨q5, by simp, ?_⟩
   intro a ha b hb2
   obtain ⟨e, he, rfl⟩ := List.mem_map.1 ha
   simp at hb2
   subst hb2
   have := q4 e he
   omega
 ·obtain ⟨p, hp, p1, p2⟩ := sm_at q2 r2
  rw [p1] at r3
  exact absurd (Mk.inj _ _ r3) (hne p (List.mem_of_getElem? hp))
end steps
section
variable {R γ κ : Type} [Ref R] [Mk κ] (f : Nat → γ → Ob)
def moZ (rs : List R) (cs : List γ) : List Ob := List.zipWith (fun r c => f (Ref.b r) c) rs cs
def moE (l : List (κ × γ)) (rs : List R) : List (κ × Option R) := (l.map (·.1)).zip (rs.map some)
def moL (mb : Nat) (l : List (κ × γ)) (rs : List R) : List Ob := obQ (rs.length = l.length) :: obMb mb (moE l rs) :: moZ f rs (l.map (·.2))
def obMO (R : Type) [Ref R] {κ γ : Type} [Mk κ] (f : Nat → γ → Ob) (mb : Nat) (l : List (κ × γ)) : Ob := obE (fun rs : List R => moL f mb l rs)
def obMX (R : Type) [Ref R] {κ γ : Type} [Mk κ] (f : Nat → γ → Ob) (mb : Nat) (l : List (κ × γ)) (j : Nat) (r : R) : Ob := obE (fun rs : List R => obQ (rs.length = l.length ∧ rs[j]? = some r) :: obMb mb (moE l rs) :: (moZ f rs (l.map (·.2))).eraseIdx j)
end
section
variable {R γ κ : Type} [Ref R] [Mk κ] [DecidableEq κ] {l : List (κ × γ)} {rs : List R} {k : κ} {c : γ}
omit [Ref R] [Mk κ] in
theorem moE_none (hl : rs.length = l.length) (h : mapGet l k = none) : mapGet (moE l rs) k = none := by
 unfold moE
 induction l generalizing rs with
 | nil => rfl
 | cons p l ih =>
  cases rs with
  | nil => simp at hl
  | cons r rs =>
   rw [mapGet] at h
   split at h
   ·cases h
   ·rename_i hp
    show mapGet ((p.1, some r) :: (l.map (·.1)).zip (rs.map some)) k = none
    rw [mapGet, if_neg hp]
    exact ih (by simpa using hl) h
omit [Ref R] [Mk κ] in
theorem moE_some (hl : rs.length = l.length) (h : mapGet l k = some c) : ∃ (j : Nat) (r : R), l[j]? = some (k, c) ∧ rs[j]? = some r ∧ mapGet (moE l rs) k = some (some r) ∧ ∀ i, i < j → ∀ p, l[i]? = some p → p.1 ≠ k := by
 unfold moE
 induction l generalizing rs with
 | nil => cases h
 | cons p l ih =>
  cases rs with
  | nil => simp at hl
  | cons r rs =>
   rw [mapGet] at h
   show ∃ (j : Nat) (r1 : R), (p :: l)[j]? = some (k, c) ∧ (r :: rs)[j]? = some r1 ∧ mapGet ((p.1, some r) :: (l.map (·.1)).zip (rs.map some)) k = some (some r1) ∧ _
   rw [mapGet]
   split at h
   ·rename_i hp
    cases h
    refine ⟨0, r, ?_, rfl, if_pos hp, fun i hi => absurd hi (Nat.not_lt_zero i)⟩
    rw [← hp]
    rfl
   ·rename_i hp
    obtain ⟨j, r1, h1, h2, h3, h4⟩ := ih (by simpa using hl) h
    refine ⟨j + 1, r1, by simpa using h1, by simpa using h2, by rw [if_neg hp]; exact h3, fun i hi q hq => ?_⟩
    cases i with
    | zero => simp at hq; subst hq; exact hp
    | succ i => exact h4 i (by omega) q (by simpa using hq)
omit [Ref R] [Mk κ] in
theorem mapPut_at {j : Nat} {c' : γ} (hn : (l.map (·.1)).Nodup) (hj : l[j]? = some (k, c)) : mapPut l k c' = l.set j (k, c') := by
 unfold mapPut
 rw [if_pos ⟨(k, c), List.mem_of_getElem? hj, rfl⟩]
 apply List.ext_getElem?
 intro m
 rw [List.getElem?_map, List.getElem?_set]
 by_cases hjm : j = m
 ·subst hjm
  rw [if_pos rfl, if_pos (List.getElem?_eq_some_iff.1 hj).1, hj]
  simp
 ·rw [if_neg hjm]
  cases hm : l[m]? with
  | none => rfl
  | some q =>
   have hne : q.1 ≠ k := fun e => by
    have n1 : (l.map (·.1))[m]? = some k := by rw [List.getElem?_map, hm]; simp [e]
    have n2 : (l.map (·.1))[j]? = some k := by rw [List.getElem?_map, hj]; rfl
    exact hjm ((List.getElem?_inj (List.getElem?_eq_some_iff.1 n2).1 hn).1 (n2.trans n1.symm))
   simp [hne]
end
section
variable {B : Nat} {A A1 : Nat → Prop} {w w1 : World} {L M : List Ob} {O : Ob} {i j mb : Nat} {R γ κ : Type} [Ref R] [Mk κ] [DecidableEq κ] {f : Nat → γ → Ob} {l : List (κ × γ)} {k : κ} {c : γ}
theorem Hp.moOpen (h : Hp B A w L) (hi : L[i]? = some (obMO R f mb l)) : ∃ rs : List R, rs.length = l.length ∧ Hp B A w (obMb mb (moE l rs) :: moZ f rs (l.map (·.2)) ++ L.eraseIdx i) := by
 obtain ⟨rs, h2⟩ := Hp.open (h.front hi)
 have hl : rs.length = l.length := by
  obtain ⟨_, ⟨_, hr⟩, _⟩ := h2.at (i := 0) rfl
  exact hr
 exact ⟨rs, hl, h2.drop (i := 0) rfl⟩
theorem Hp.moClose {rs : List R} (hl : rs.length = l.length) (h : Hp B A w (obMb mb (moE l rs) :: moZ f rs (l.map (·.2)) ++ L)) : Hp B A w (obMO R f mb l :: L) :=
 Hp.pack (F := fun rs : List R => moL f mb l rs) rs (h.free (O' := obQ (rs.length = l.length)) ⟨rfl, hl⟩)
theorem moE_keys {rs : List R} (hl : rs.length = l.length) : (moE l rs).map (·.1) = l.map (·.1) := by
 unfold moE
 exact List.map_fst_zip (by simp [hl])
theorem Hp.moNodup (h : Hp B A w L) (hi : L[i]? = some (obMO R f mb l)) : (l.map (·.1)).Nodup := by
 obtain ⟨rs, hl, h2⟩ := h.moOpen hi
 obtain ⟨_, ⟨_, es, clk, _, _, q3, _⟩, _⟩ := h2.at (i := 0) rfl
 rwa [moE_keys hl] at q3
theorem moZ_at {rs : List R} {cs : List γ} (hl : rs.length = cs.length) {k : Nat} {c : γ} (hk : cs[k]? = some c) : ∃ r, rs[k]? = some r ∧ (moZ f rs cs)[k]? = some (f (Ref.b r) c) := by
 have hlt := (List.getElem?_eq_some_iff.1 hk).1
 have hp : rs[k]? = some rs[k] := List.getElem?_eq_getElem (by omega)
 refine ⟨rs[k], hp, ?_⟩
 unfold moZ
 rw [List.getElem?_zipWith, hp, hk]
theorem Hp.moBack {r : R} {c' : γ} (h : Hp B A w (f (Ref.b r) c' :: L)) (hi : L[i]? = some (obMX R f mb l j r)) (hj : l[j]? = some (k, c)) : Hp B A w (L.set i (obMO R f mb (l.set j (k, c')))) := by
 obtain ⟨rs, h2⟩ := Hp.open (h.front (i := i + 1) (O := obMX R f mb l j r) (by simpa using hi))
 have hl : rs.length = l.length ∧ rs[j]? = some r := by
  obtain ⟨_, ⟨_, hr⟩, _⟩ := h2.at (i := 0) rfl
  exact hr
 have hlt := (List.getElem?_eq_some_iff.1 hj).1
 have e1 : (l.set j (k, c')).map (·.2) = (l.map (·.2)).set j c' := by rw [List.map_set]
 have e0 : (l.set j (k, c')).map (·.1) = l.map (·.1) := by
  rw [List.map_set]
  apply List.ext_getElem?
  intro m
  rw [List.getElem?_set]
  by_cases hm : j = m
  ·subst hm
   rw [if_pos rfl, if_pos (by simpa using hlt), List.getElem?_map, hj]
   rfl
  ·rw [if_neg hm]
 have hz : (moZ f rs ((l.map (·.2)).set j c'))[j]? = some (f (Ref.b r) c') := by
  unfold moZ
  rw [List.getElem?_zipWith, hl.2, List.getElem?_set_self (by simpa using hlt)]
 have he : (moZ f rs ((l.map (·.2)).set j c')).eraseIdx j = (moZ f rs (l.map (·.2))).eraseIdx j := by
  unfold moZ
  apply List.ext_getElem?
  intro m
  simp only [List.getElem?_eraseIdx, List.getElem?_zipWith]
  split
  ·rw [List.getElem?_set_ne (by omega)]
  ·rw [List.getElem?_set_ne (by omega)]
 have h3 := h2.drop (i := 0) rfl
 have hE : moE (l.set j (k, c')) rs = moE l rs := by unfold moE; rw [e0]
 have h4 : Hp B A w (obMb mb (moE (l.set j (k, c')) rs) :: moZ f rs ((l.set j (k, c')).map (·.2)) ++ L.eraseIdx i) := by
  refine h3.perm ?_
  rw [hE, e1]
  simp only [List.cons_append]
  show (obMb mb (moE l rs) :: ((moZ f rs (l.map (·.2))).eraseIdx j ++ f (Ref.b r) c' :: L.eraseIdx i)).Perm _
  refine List.Perm.cons _ ?_
  rw [← he]
  refine List.perm_middle.trans ?_
  exact List.Perm.append_right _ (perm_take hz).symm
 exact (Hp.moClose (by rw [List.length_set]; exact hl.1) h4).perm (perm_set hi)
theorem Hp.moNew (R : Type) [Ref R] {γ : Type} (f : Nat → γ → Ob) (h : Hp B A w L) (hi : L[i]? = some (obMb (κ := κ) (α := Option R) mb [])) : Hp B A w (L.set i (obMO (κ := κ) R f mb [])) :=
 (Hp.moClose (f := f) (l := ([] : List (κ × γ))) (rs := ([] : List R)) rfl (h.front hi)).perm (perm_set hi)
end
section steps
variable {P : Program} {n : Fr} {ops : Array Oper} {Q : Exit → Act → World → Prop} {E : Env} {w : World} {rest : List Oper} {u v : Value} {d : Nat}
variable {ty t kt et : TypeId} {pos : String} {af : Array Edge} {x y z : Operand} {A : Nat → Prop} {B : Nat} {L : List Ob} {i mb : Nat} {R γ κ : Type} [Ref R] [Mk κ] [DecidableEq κ] {f : Nat → γ → Ob} {l : List (κ × γ)} {k : κ} {c : γ}
theorem V_lookupMO1 {zv : Value} (hH : Hp B A w L) (hi : L[i]? = some (obMO R f mb l)) (ht : P.underlying t = some (.map kt et)) (hk : P.underlying kt = some (Mk.dsc κ)) (hz : ∀ w, (zeroValue et).run P w = .ok zv w) (hzv : zv = Cel.enc (none : Option R))
  (hx : ev E x = some (.map (some mb))) (hy : ev E y = some (Mk.enc k)) (hn : Nat.blt d n.sz = true)
  (h : ∀ o : Option R, o.isSome = (mapGet l k).isSome → V P n ops Q rest ((d, Cel.enc o) :: E) w) :
  V P n ops Q (⟨some d, .lookup t x y false, ty, pos, af, none⟩ :: rest) E w := by
 obtain ⟨rs, hl, h2⟩ := hH.moOpen hi
 refine V_y (Y_lookupB (z := (none : Option R)) h2 (i := 0) rfl ht hk hz hzv hx hy) rfl rfl hn (h _ ?_)
 cases hg : mapGet l k with
 | none => rw [moE_none hl hg]; rfl
 | some c =>
  obtain ⟨j, r, _, _, e, _⟩ := moE_some hl hg
  rw [e]
  rfl
theorem V_lookupMO {zv : Value} (hH : Hp B A w L) (hi : L[i]? = some (obMO R f mb l)) (hg : mapGet l k = some c) (ht : P.underlying t = some (.map kt et)) (hk : P.underlying kt = some (Mk.dsc κ)) (hz : ∀ w, (zeroValue et).run P w = .ok zv w) (hzv : zv = Cel.enc (none : Option R))
  (hx : ev E x = some (.map (some mb))) (hy : ev E y = some (Mk.enc k)) (hn : Nat.blt d n.sz = true)
  (h : ∀ (j : Nat) (r : R), l[j]? = some (k, c) → Hp B A w (f (Ref.b r) c :: L.set i (obMX R f mb l j r)) → V P n ops Q rest ((d, Cel.enc (some r)) :: E) w) :
  V P n ops Q (⟨some d, .lookup t x y false, ty, pos, af, none⟩ :: rest) E w := by
 have hn2 := hH.moNodup hi
 obtain ⟨rs, hl, h2⟩ := hH.moOpen hi
 obtain ⟨j, r, hj, hr, e, _⟩ := moE_some hl hg
 have hj2 : (l.map (·.2))[j]? = some c := by rw [List.getElem?_map, hj]; rfl
 obtain ⟨r2, hr2, hz2⟩ := moZ_at (f := f) (rs := rs) (cs := l.map (·.2)) (by simpa using hl) hj2
 obtain rfl : r = r2 := Option.some.inj (hr.symm.trans hr2)
 refine V_y (Y_lookupB (z := (none : Option R)) h2 (i := 0) rfl ht hk hz hzv hx hy) rfl rfl hn ?_
 rw [e]
 refine h j r hj ?_
 have h3 : Hp B A w ((obMb mb (moE l rs) :: (moZ f rs (l.map (·.2))).eraseIdx j) ++ f (Ref.b r) c :: L.eraseIdx i) := by
  refine h2.perm ?_
  simp only [List.cons_append]
  refine List.Perm.cons _ ?_
  exact (List.Perm.append_right _ (perm_take hz2)).trans List.perm_middle.symm
 have h4 := Hp.pack (F := fun rs : List R => obQ (rs.length = l.length ∧ rs[j]? = some r) :: obMb mb (moE l rs) :: (moZ f rs (l.map (·.2))).eraseIdx j) rs (h3.free (O' := obQ (rs.length = l.length ∧ rs[j]? = some r)) ⟨rfl, hl, hr⟩)
 refine h4.perm ?_
 exact (List.Perm.swap _ _ _).trans ((perm_set hi).cons _)
theorem V_mapNewMO {r : R} (hH : Hp B A w (f (Ref.b r) c :: L)) (hi : L[i]? = some (obMO R f mb l)) (hnew : mapGet l k = none) (ht : P.underlying t = some (.map kt et)) (hk : P.underlying kt = some (Mk.dsc κ))
  (hx : ev E x = some (.map (some mb))) (hy : ev E y = some (Mk.enc k)) (hz : ev E z = some (Cel.enc (some r))) (hB : B ≤ w.heap.size) (hA : ∀ b, w.heap.size ≤ b → A b)
  (h : ∀ w1, Hp B A w1 (L.set i (obMO R f mb (l ++ [(k, c)]))) → Tr Dw B A w A w1 → V P n ops Q rest E w1) :
  V P n ops Q (⟨none, .mapUpdate t x y z, ty, pos, af, none⟩ :: rest) E w := by
 obtain ⟨rs, hl, h2⟩ := hH.moOpen (i := i + 1) (by simpa using hi)
 refine V_mapNewB (Dw := Dw) (c := some r) h2 (i := 0) rfl (moE_none hl hnew) ht hk hx hy hz hB hA ?_
 intro w1 h3 t1
 refine h w1 ?_ t1
 have e1 : moE (l ++ [(k, c)]) (rs ++ [r]) = moE l rs ++ [(k, some r)] := by
  unfold moE
  rw [List.map_append, List.map_append, List.zip_append (by simp [hl])]
  rfl
 have e2 : moZ f (rs ++ [r]) ((l ++ [(k, c)]).map (·.2)) = moZ f rs (l.map (·.2)) ++ [f (Ref.b r) c] := by
  unfold moZ
  rw [List.map_append, List.zipWith_append (by simp [hl])]
  rfl
 have h4 : Hp B A w1 (obMb mb (moE (l ++ [(k, c)]) (rs ++ [r])) :: moZ f (rs ++ [r]) ((l ++ [(k, c)]).map (·.2)) ++ L.eraseIdx i) := by
  rw [e1, e2]
  refine h3.perm ?_
  simp only [List.cons_append, List.set_cons_zero]
  refine List.Perm.cons _ ?_
  show (moZ f rs (l.map (·.2)) ++ f (Ref.b r) c :: L.eraseIdx i).Perm _
  rw [List.append_assoc]
  exact .refl _
 exact (Hp.moClose (by simp [hl]) h4).perm (perm_set hi)
theorem Y_eqlPN {o : Option Ptr} {ρd : Option Nat} {g : Option (Nat × Bool)} {t2 e : TypeId} (ht : P.underlying t2 = some (.pointer e)) (hx : ev E x = some (Cel.enc o)) (hy : ev E y = some (.pointer none)) : Y P n E ⟨ρd, .binOp .eql t2 x y t, ty, pos, af, g⟩ w (.bool (!o.isSome)) w := by
 intro a ha
 obtain ⟨dp, hd⟩ : ∃ dp, Op.maxDepth = dp + 1 := ⟨_, rfl⟩
 cases o with
 | none =>
  have hx' : ev E x = some (.pointer none) := hx
  simp only [execOp, ha.eval hx', ha.eval hy]
  simp [eqGuard, binOp, Op.equal, hd, Op.equalIn, underlying, ht]
 | some p =>
  have hx' : ev E x = some (.pointer (some ⟨p.b, 0, none⟩)) := hx
  simp only [execOp, ha.eval hx', ha.eval hy]
  simp [eqGuard, binOp, Op.equal, hd, Op.equalIn, underlying, ht]
end steps
def FMb {κ α : Type} [Mk κ] [Cel α] (A : Nat → Prop) (w : World) (mb : Nat) (l : List (κ × α)) : Prop :=
 A mb ∧ mb < w.heap.size ∧ (l.map (·.1)).Nodup ∧ ∃ es clk, w.heap[mb]? = some (.map es clk) ∧ es.toList.map (fun e => (e.key, e.val)) = l.map encE ∧ (∀ e ∈ es.toList, e.born < clk) ∧ (es.toList.map (·.born)).Nodup
section
variable {B : Nat} {A A1 : Nat → Prop} {w w1 : World} {L : List Ob} {i mb : Nat} {R γ κ α : Type} [Ref R] [Mk κ] [Cel α] [DecidableEq κ] {f : Nat → γ → Ob} {l : List (κ × γ)}
theorem FMb.tr {l : List (κ × α)} (h : FMb A w mb l) (ht : Tr Dw B A w A1 w1) : FMb A1 w1 mb l := by
 obtain ⟨h1, h2, h3, es, clk, h4, h5⟩ := h
 obtain ⟨e1, e2⟩ := ht.ex.2 mb h2 h1
 exact ⟨e1, Nat.lt_of_lt_of_le h2 ht.ex.1, h3, es, clk, by rw [e2]; exact h4, h5⟩
theorem moPersist {f0 : List Nat} (h : (obMO R f mb l).P f0 A w) (hf : ∀ b ∈ f0, A1 b ∧ b < w.heap.size) : ∃ rs : List R, rs.length = l.length ∧ FMb A1 w mb (moE l rs) ∧ ∀ (j : Nat) (r : R) (p : κ × γ), rs[j]? = some r → l[j]? = some p → ∃ fb, (f (Ref.b r) p.2).P fb A w ∧ ∀ b ∈ fb, A1 b ∧ b < w.heap.size := by
 obtain ⟨rs, hs⟩ := h
 obtain ⟨f1, hq, _⟩ := hs.at (i := 0) rfl
 have hl : rs.length = l.length := hq.2
 obtain ⟨f2, ⟨rfl, es, clk, q1, q2, q3, q4, q5⟩, hsub, _⟩ := hs.at (i := 1) rfl
 have hmb := hf mb (hsub mb (by simp))
 refine ⟨rs, hl, ⟨hmb.1, hmb.2, q3, es, clk, q1, q2, q4, q5⟩, fun j r p hr hp => ?_⟩
 have hz : (moL f mb l rs)[j + 2]? = some (f (Ref.b r) p.2) := by
  show (moZ f rs (l.map (·.2)))[j]? = _
  unfold moZ
  rw [List.getElem?_zipWith, hr, List.getElem?_map, hp]
  rfl
 obtain ⟨f3, hp3, hsub3, _⟩ := hs.at hz
 exact ⟨f3, hp3, fun b hb => hf b (hsub3 b hb)⟩
end
section steps
variable {P : Program} {n : Fr} {ops : Array Oper} {Q : Exit → Act → World → Prop} {E : Env} {w : World} {rest : List Oper} {u v : Value} {d : Nat}
variable {ty t kt et : TypeId} {pos : String} {af : Array Edge} {x y z : Operand} {A : Nat → Prop} {B : Nat} {L : List Ob} {i j mb rb c0 since : Nat} {κ α : Type} [Mk κ] [DecidableEq κ] [Cel α] {l : List (κ × α)} {k : κ} {es : Array MapEntry} {clk : Nat} {seen : Array Nat}
theorem Y_lookupF {zz : α} {zv : Value} (hf : FMb A w mb l) (ht : P.underlying t = some (.map kt et)) (hk : P.underlying kt = some (Mk.dsc κ)) (hz : ∀ w, (zeroValue et).run P w = .ok zv w) (hzv : zv = Cel.enc zz)
  (hx : ev E x = some (.map (some mb))) (hy : ev E y = some (Mk.enc k)) : Y P n E ⟨some d, .lookup t x y false, ty, pos, af, none⟩ w (Cel.enc ((mapGet l k).getD zz)) w := by
 obtain ⟨_, _, q3, es, clk, q1, q2, _⟩ := hf
 have hks : ∀ e ∈ es.toList, MapKept.IsKey (Mk.dsc κ) e.key := fun e he => by
  obtain ⟨p, _, hp, _⟩ := sm_keys q2 e he
  rw [hp]
  exact Mk.isK _
 have hkk : MapKept.IsKey (Mk.dsc κ) (Mk.enc k) := Mk.isK _
 intro a hA'
 rcases MapKept.findNow_spec hkk es.toList 0 hks with ⟨r1, r2⟩ | ⟨j, e, r1, r2, r3⟩
 ·have hg : mapGet l k = none := mapGet_none fun p hp hpk => by
   have : encE p ∈ es.toList.map (fun e => (e.key, e.val)) := by rw [q2]; exact List.mem_map_of_mem hp
   obtain ⟨e, he, hq⟩ := List.mem_map.1 this
   simp only [encE, Prod.mk.injEq] at hq
   exact r2 e he (by rw [hq.1, hpk])
  rw [hg, Option.getD_none, ← hzv]
  simp only [execOp, hA'.eval hx, hA'.eval hy, Instr.lookup]
  simp [run_underlying ht, MapKept.run_getObj_map q1, MapKept.run_checkKey hk hkk, MapKept.run_findKey hk r1, Result.andThen, hz]
 ·obtain ⟨p, hp, p1, p2⟩ := sm_at q2 r2
  rw [p1] at r3
  obtain rfl := Mk.inj _ _ r3
  rw [mapGet_some q3 (List.mem_of_getElem? hp), Option.getD_some, ← p2]
  simp only [execOp, hA'.eval hx, hA'.eval hy, Instr.lookup]
  simp [run_underlying ht, MapKept.run_getObj_map q1, MapKept.run_checkKey hk hkk, MapKept.run_findKey hk r1, Result.andThen]
end steps
def mapHave {κ γ : Type} [DecidableEq κ] (l : List (κ × γ)) (k : κ) (d : γ) : List (κ × γ) := if (mapGet l k).isSome = true then l else l ++ [(k, d)]
theorem mapHave_get {κ γ : Type} [DecidableEq κ] (l : List (κ × γ)) (k : κ) (d : γ) : mapGet (mapHave l k d) k = some ((mapGet l k).getD d) := by
 unfold mapHave
 cases h : mapGet l k with
 | some p => simp [h]
 | none =>
  rw [if_neg (by simp)]
  have key : ∀ l : List (κ × γ), mapGet l k = none → mapGet (l ++ [(k, d)]) k = some d := by
   intro l
   induction l with
   | nil => intro _; exact if_pos rfl
   | cons q l ih =>
    intro hq
    rw [mapGet] at hq
    split at hq
    ·cases hq
    ·rename_i hne
     rw [List.cons_append, mapGet, if_neg hne]
     exact ih hq
  exact key l h
theorem mapHave_put {κ γ : Type} [DecidableEq κ] {l : List (κ × γ)} {k : κ} {d c c1 : γ} {j : Nat} (hn : ((mapHave l k d).map (·.1)).Nodup) (hj : (mapHave l k d)[j]? = some (k, c)) : (mapHave l k d).set j (k, c1) = mapPut l k c1 := by
 rw [← mapPut_at hn hj]
 unfold mapHave at hn hj ⊢
 by_cases h : (mapGet l k).isSome = true
 ·rw [if_pos h]
 ·rw [if_neg h] at hn ⊢
  have hne : ∀ q ∈ l, q.1 ≠ k := by
   rw [List.map_append, List.nodup_append] at hn
   intro q hq e
   exact hn.2.2 q.1 (List.mem_map_of_mem hq) k (by simp) e
  rw [mapPut_new hne]
  unfold mapPut
  rw [if_pos ⟨_, List.mem_append_right _ (List.mem_singleton.2 rfl), rfl⟩, List.map_append]
  congr 1
  ·conv => rhs; rw [← List.map_id l]
   refine List.map_congr_left fun q hq => ?_
   rw [if_neg (hne q hq)]
   rfl
  ·simp
theorem mapHave_none {κ γ : Type} [DecidableEq κ] {l : List (κ × γ)} {k : κ} {d : γ} (h : mapGet l k = none) : mapHave l k d = l ++ [(k, d)] := by unfold mapHave; rw [h]; exact if_neg (by simp)
theorem cells_of_one {v : Value} (h : v.oneCell' = true) : v.cells.size = 1 := by rw [← Array.length_toList, Value.cells_one h]; rfl
theorem cells_all_one {v : Value} (h : v.oneCell' = true) : ∀ u ∈ v.cells.toList, u.oneCell' = true := by
 intro u hu
 rw [Value.cells_one h] at hu
 simp at hu
 subst hu
 exact h
theorem OwP.slI {e : TypeId} {A A1 : Nat → Prop} {w : World} {v : Value} {l : List Int} {f : List Nat} (h : OwP e A w v l f) (hf : ∀ b ∈ f, A1 b) : Sl A1 w v l := by
 have h2 : OwP e (fun _ => False) w v l f := OwP.flat h
 have e1 := OwP.fp h2
 have hlt := (obS e v l).lt (A := fun _ => False) h2
 refine (OwP.ow (B := 0) h2 fun b hb => ⟨Nat.zero_le b, hlt b hb, id⟩).sl (fun _ h => h.elim) fun g hg => hf g ?_
 rw [e1, hg]
 simp
section steps
variable {P : Program} {n : Fr} {ops : Array Oper} {Q : Exit → Act → World → Prop} {E : Env} {w : World} {rest : List Oper} {u v : Value} {d : Nat}
variable {ty t kt et : TypeId} {pos : String} {af : Array Edge} {x y z : Operand} {A : Nat → Prop} {B : Nat} {L : List Ob} {i mb : Nat} {R γ κ : Type} [Ref R] [Mk κ] [DecidableEq κ] {f : Nat → γ → Ob} {l : List (κ × γ)} {k : κ} {c : γ}
end steps
end Go.Gw
