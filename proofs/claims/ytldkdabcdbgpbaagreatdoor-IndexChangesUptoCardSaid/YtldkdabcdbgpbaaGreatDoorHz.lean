import Derived.Test.YtldkdabcdbgpbaaGreatDoorHo
import Derived.Test.YtldkdabcdbgpbaaGreatDoorGt
import Derived.Test.YtldkdabcdbgpbaaGreatDoorPr
namespace Go.Gw
open Go Go.RowKit Go.Pu Go.ChangeMaps
variable {Dw : Prop}
set_option linter.unusedSimpArgs false
set_option linter.unusedVariables false
set_option linter.unusedSectionVars false
structure MRf where
 b : Nat
class Ref (R : Type) where
 b : R → Nat
 enc : Option R → Value
instance : Ref Ptr := ⟨Ptr.b, fun | none => .pointer none | some p => .pointer (some ⟨p.b, 0, none⟩)⟩
instance : Ref MRf := ⟨MRf.b, fun | none => .map none | some m => .map (some m.b)⟩
instance {R : Type} [Ref R] : Cel (Option R) := ⟨Ref.enc⟩
def obMb {κ α : Type} [Mk κ] [Cel α] (mb : Nat) (l : List (κ × α)) : Ob where
 P f A w := f = [mb] ∧ ∃ es clk, w.heap[mb]? = some (.map es clk) ∧ es.toList.map (fun e => (e.key, e.val)) = l.map encE ∧ (l.map (·.1)).Nodup ∧ (∀ e ∈ es.toList, e.born < clk) ∧ (es.toList.map (·.born)).Nodup
 keep h he hb := by
  obtain ⟨rfl, es, clk, h1, h2⟩ := h
  exact ⟨rfl, es, clk, by rw [hb mb (by simp)]; exact h1, h2⟩
 lt h b' hb' := by
  obtain ⟨rfl, es, clk, h1, _⟩ := h
  simp at hb'
  subst hb'
  exact (Array.getElem?_eq_some_iff.1 h1).1
section steps
variable {P : Program} {n : Fr} {ops : Array Oper} {Q : Exit → Act → World → Prop} {E : Env} {w : World} {rest : List Oper} {u : Value} {d : Nat}
variable {ty t kt et : TypeId} {pos : String} {af : Array Edge} {x y z : Operand} {A : Nat → Prop} {κ α : Type} [DecidableEq κ] [Mk κ] [Cel α] {B : Nat} {L : List Ob} {i mb : Nat} {l : List (κ × α)} {k : κ}
theorem V_makeMapB (κ α : Type) [Mk κ] [Cel α] (hH : Hp B A w L) (hB : B ≤ w.heap.size) (hA : ∀ b, w.heap.size ≤ b → A b) (hn : Nat.blt d n.sz = true)
  (h : ∀ mb w1 A1, Hp B A1 w1 (obMb (κ := κ) (α := α) mb [] :: L) → Tr Dw B A w A1 w1 → V P n ops Q rest ((d, .map (some mb)) :: E) w1) :
  V P n ops Q (⟨some d, .makeMap t none, ty, pos, af, none⟩ :: rest) E w :=
 V_y (w' := w.alloc (.map #[] 0)) (v := .map (some w.heap.size)) (fun a hA => by simp only [execOp]; rfl) rfl rfl hn
  (h _ _ _ (hH.new (mv_alloc (Dw := Dw) B _ hA) hB ⟨rfl, #[], 0, heap_alloc_new w _, rfl, List.nodup_nil, (fun e he => by cases he), List.nodup_nil⟩ fun b hb => by simp at hb; subst hb; exact ⟨Nat.le_refl _, fun h => h.2 rfl⟩) ((mv_alloc B _ hA).tr hB))
theorem Y_lookupB {z : α} {zv : Value} (hH : Hp B A w L) (hi : L[i]? = some (obMb mb l)) (ht : P.underlying t = some (.map kt et)) (hk : P.underlying kt = some (Mk.dsc κ)) (hz : ∀ w, (zeroValue et).run P w = .ok zv w) (hzv : zv = Cel.enc z)
  (hx : ev E x = some (.map (some mb))) (hy : ev E y = some (Mk.enc k)) : Y P n E ⟨some d, .lookup t x y false, ty, pos, af, none⟩ w (Cel.enc ((mapGet l k).getD z)) w := by
 obtain ⟨f, ⟨rfl, es, clk, q1, q2, q3, _⟩, _, _⟩ := hH.at hi
 have hks : ∀ e ∈ es.toList, MapKept.IsKey (Mk.dsc κ) e.key := fun e he => by
  obtain ⟨p, _, hp, _⟩ := sm_keys q2 e he
  rw [hp]
  exact Mk.isK _
 have hkk : MapKept.IsKey (Mk.dsc κ) (Mk.enc k) := Mk.isK _
 intro a hA'
 rcases MapKept.findNow_spec hkk es.toList 0 hks with ⟨r1, r2⟩ | ⟨j, e, r1, r2, r3⟩
 ·have hg : mapGet l k = none := mapGet_none fun p hp hpk => by
   have : encE p ∈ es.toList.map (fun e => (e.key, e.val)) := by rw [q2]; exact List.mem_map_of_mem hp
   obtain ⟨e, he, hq⟩ := List.mem_map.1 this
   simp only [encE, Prod.mk.injEq] at hq
   exact r2 e he (by rw [hq.1, hpk])
  rw [hg, Option.getD_none, ← hzv]
  simp only [execOp, hA'.eval hx, hA'.eval hy, Instr.lookup]
  simp [run_underlying ht, MapKept.run_getObj_map q1, MapKept.run_checkKey hk hkk, MapKept.run_findKey hk r1, Result.andThen, hz]
 ·obtain ⟨p, hp, p1, p2⟩ := sm_at q2 r2
  rw [p1] at r3
  obtain rfl := Mk.inj _ _ r3
  rw [mapGet_some q3 (List.mem_of_getElem? hp), Option.getD_some, ← p2]
  simp only [execOp, hA'.eval hx, hA'.eval hy, Instr.lookup]
  simp [run_underlying ht, MapKept.run_getObj_map q1, MapKept.run_checkKey hk hkk, MapKept.run_findKey hk r1, Result.andThen]
theorem V_mapNewB {c : α} (hH : Hp B A w L) (hi : L[i]? = some (obMb mb l)) (hnew : mapGet l k = none) (ht : P.underlying t = some (.map kt et)) (hk : P.underlying kt = some (Mk.dsc κ))
  (hx : ev E x = some (.map (some mb))) (hy : ev E y = some (Mk.enc k)) (hz : ev E z = some (Cel.enc c)) (hB : B ≤ w.heap.size) (hA : ∀ b, w.heap.size ≤ b → A b)
  (h : ∀ w1, Hp B A w1 (L.set i (obMb mb (l ++ [(k, c)]))) → Tr Dw B A w A w1 → V P n ops Q rest E w1) :
  V P n ops Q (⟨none, .mapUpdate t x y z, ty, pos, af, none⟩ :: rest) E w := by
 obtain ⟨f, ⟨rfl, es, clk, q1, q2, q3, q4, q5⟩, hb, hset⟩ := hH.at hi
 have hks : ∀ e ∈ es.toList, MapKept.IsKey (Mk.dsc κ) e.key := fun e he => by
  obtain ⟨p, _, hp, _⟩ := sm_keys q2 e he
  rw [hp]
  exact Mk.isK _
 have hkk : MapKept.IsKey (Mk.dsc κ) (Mk.enc k) := Mk.isK _
 have hlt : mb < w.heap.size := (Array.getElem?_eq_some_iff.1 q1).1
 have hmv : ∀ o, Mv Dw B A w A (setBlock w mb o) (some mb) := fun o => mv_set o hlt (hb mb (by simp)).1 (hb mb (by simp)).2.2 hA
 have hne : ∀ p ∈ l, p.1 ≠ k := fun p hp e => by
  rw [← e, mapGet_some q3 hp] at hnew
  cases hnew
 rcases MapKept.findNow_spec hkk es.toList 0 hks with ⟨r1, r2⟩ | ⟨j, e, r1, r2, r3⟩
 ·refine V_s (w' := setBlock w mb (.map (es.push { key := Mk.enc k, val := Cel.enc c, born := clk }) (clk + 1))) (fun a hA' => ?_) rfl rfl (h _ (hset A _ (some mb) _ [mb] (hmv _) (fun k hk => by cases hk; simp) ⟨rfl, _, _, (MapKept.heap_set q1).1, ?_, ?_, ?_, ?_⟩ fun b' hb' => ⟨.inl hb', (hb b' hb').1, (hb b' hb').2.2⟩) ((hmv _).tr hB))
  ·simp only [execOp, hA'.eval hx, hA'.eval hy, hA'.eval hz, Instr.mapUpdate]
   simp [run_underlying ht, MapKept.run_getObj_map q1, MapKept.run_checkKey hk hkk, MapKept.run_findKey hk r1, MapKept.run_setObj_map _ q1, Result.andThen, setBlock]
  ·rw [Array.toList_push, List.map_append, List.map_append, q2]
   rfl
  ·rw [List.map_append, List.nodup_append]
   refine ⟨q3, by simp, ?_⟩
   intro a ha b hb2
   obtain ⟨p, hp, rfl⟩ := List.mem_map.1 ha
   simp at hb2
   subst hb2
   exact hne p hp
  ·intro e he
   rw [Array.toList_push, List.mem_append] at he
   rcases he with he | he
   ·exact Nat.lt_succ_of_lt (q4 e he)
   ·rw [List.mem_singleton] at he
    subst he
    exact Nat.lt_succ_self _
  ·rw [Array.toList_push, List.map_append, List.nodup_append]
   refine ⟨q5, by simp, ?_⟩
   intro a ha b hb2
   obtain ⟨e, he, rfl⟩ := List.mem_map.1 ha
   simp at hb2
   subst hb2
   have := q4 e he
   omega
 ·obtain ⟨p, hp, p1, p2⟩ := sm_at q2 r2
  rw [p1] at r3
  exact absurd (Mk.inj _ _ r3) (hne p (List.mem_of_getElem? hp))
end steps
section
variable {R γ κ : Type} [Ref R] [Mk κ] (f : Nat → γ → Ob)
def moZ (rs : List R) (cs : List γ) : List Ob := List.zipWith (fun r c => f (Ref.b r) c) rs cs
def moE (l : List (κ × γ)) (rs : List R) : List (κ × Option R) := (l.map (·.1)).zip (rs.map some)
def moL (mb : Nat) (l : List (κ × γ)) (rs : List R) : List Ob := obQ (rs.length = l.length) :: obMb mb (moE l rs) :: moZ f rs (l.map (·.2))
def obMO (R : Type) [Ref R] {κ γ : Type} [Mk κ] (f : Nat → γ → Ob) (mb : Nat) (l : List (κ × γ)) : Ob := obE (fun rs : List R => moL f mb l rs)
def obMX (R : Type) [Ref R] {κ γ : Type} [Mk κ] (f : Nat → γ → Ob) (mb : Nat) (l : List (κ × γ)) (j : Nat) (r : R) : Ob := obE (fun rs : List R => obQ (rs.length = l.length ∧ rs[j]? = some r) :: obMb mb (moE l rs) :: (moZ f rs (l.map (·.2))).eraseIdx j)
end
section
variable {R γ κ : Type} [Ref R] [Mk κ] [DecidableEq κ] {l : List (κ × γ)} {rs : List R} {k : κ} {c : γ}
omit [Ref R] [Mk κ] in
theorem moE_none (hl : rs.length = l.length) (h : mapGet l k = none) : mapGet (moE l rs) k = none := by
 unfold moE
 induction l generalizing rs with
 | nil => rfl
 | cons p l ih =>
  cases rs with
  | nil => simp at hl
  | cons r rs =>
   rw [mapGet] at h
   split at h
   ·cases h
   ·rename_i hp
    show mapGet ((p.1, some r) :: (l.map (·.1)).zip (rs.map some)) k = none
    rw [mapGet, if_neg hp]
    exact ih (by simpa using hl) h
omit [Ref R] [Mk κ] in
theorem moE_some (hl : rs.length = l.length) (h : mapGet l k = some c) : ∃ (j : Nat) (r : R), l[j]? = some (k, c) ∧ rs[j]? = some r ∧ mapGet (moE l rs) k = some (some r) ∧ ∀ i, i < j → ∀ p, l[i]? = some p → p.1 ≠ k := by
 unfold moE
 induction l generalizing rs with
 | nil => cases h
 | cons p l ih =>
  cases rs with
  | nil => simp at hl
  | cons r rs =>
   rw [mapGet] at h
   show ∃ (j : Nat) (r1 : R), (p :: l)[j]? = some (k, c) ∧ (r :: rs)[j]? = some r1 ∧ mapGet ((p.1, some r) :: (l.map (·.1)).zip (rs.map some)) k = some (some r1) ∧ _
   rw [mapGet]
   split at h
   ·rename_i hp
    cases h
    refine ⟨0, r, ?_, rfl, if_pos hp, fun i hi => absurd hi (Nat.not_lt_zero i)⟩
    rw [← hp]
    rfl
   ·rename_i hp
    obtain ⟨j, r1, h1, h2, h3, h4⟩ := ih (by simpa using hl) h
    refine ⟨j + 1, r1, by simpa using h1, by simpa using h2, by rw [if_neg hp]; exact h3, fun i hi q hq => ?_⟩
    cases i with
    | zero => simp at hq; subst hq; exact hp
    | succ i => exact h4 i (by omega) q (by simpa using hq)
omit [Ref R] [Mk κ] in
theorem mapPut_at {j : Nat} {c' : γ} (hn : (l.map (·.1)).Nodup) (hj : l[j]? = some (k, c)) : mapPut l k c' = l.set j (k, c') := by
 unfold mapPut
 rw [if_pos ⟨(k, c), List.mem_of_getElem? hj, rfl⟩]
 apply List.ext_getElem?
 intro m
 rw [List.getElem?_map, List.getElem?_set]
 by_cases hjm : j = m
 ·subst hjm
  rw [if_pos rfl, if_pos (List.getElem?_eq_some_iff.1 hj).1, hj]
  simp
 ·rw [if_neg hjm]
  cases hm : l[m]? with
  | none => rfl
  | some q =>
   have hne : q.1 ≠ k := fun e => by
    have n1 : (l.map (·.1))[m]? = some k := by rw [List.getElem?_map, hm]; simp [e]
    have n2 : (l.map (·.1))[j]? = some k := by rw [List.getElem?_map, hj]; rfl
    exact hjm ((List.getElem?_inj (List.getElem?_eq_some_iff.1 n2).1 hn).1 (n2.trans n1.symm))
   simp [hne]
end
section
variable {B : Nat} {A A1 : Nat → Prop} {w w1 : World} {L M : List Ob} {O : Ob} {i j mb : Nat} {R γ κ : Type} [Ref R] [Mk κ] [DecidableEq κ] {f : Nat → γ → Ob} {l : List (κ × γ)} {k : κ} {c : γ}
theorem Hp.moOpen (h : Hp B A w L) (hi : L[i]? = some (obMO R f mb l)) : ∃ rs : List R, rs.length = l.length ∧ Hp B A w (obMb mb (moE l rs) :: moZ f rs (l.map (·.2)) ++ L.eraseIdx i) := by
 obtain ⟨rs, h2⟩ := Hp.open (h.front hi)
 have hl : rs.length = l.length := by
  obtain ⟨_, ⟨_, hr⟩, _⟩ := h2.at (i := 0) rfl
  exact hr
 exact ⟨rs, hl, h2.drop (i := 0) rfl⟩
theorem Hp.moClose {rs : List R} (hl : rs.length = l.length) (h : Hp B A w (obMb mb (moE l rs) :: moZ f rs (l.map (·.2)) ++ L)) : Hp B A w (obMO R f mb l :: L) :=
 Hp.pack (F := fun rs : List R => moL f mb l rs) rs (h.free (O' := obQ (rs.length = l.length)) ⟨rfl, hl⟩)
theorem moE_keys {rs : List R} (hl : rs.length = l.length) : (moE l rs).map (·.1) = l.map (·.1) := by
 unfold moE
 exact List.map_fst_zip (by simp [hl])
theorem Hp.moNodup (h : Hp B A w L) (hi : L[i]? = some (obMO R f mb l)) : (l.map (·.1)).Nodup := by
 obtain ⟨rs, hl, h2⟩ := h.moOpen hi
 obtain ⟨_, ⟨_, es, clk, _, _, q3, _⟩, _⟩ := h2.at (i := 0) rfl
 rwa [moE_keys hl] at q3
theorem moZ_at {rs : List R} {cs : List γ} (hl : rs.length = cs.length) {k : Nat} {c : γ} (hk : cs[k]? = some c) : ∃ r, rs[k]? = some r ∧ (moZ f rs cs)[k]? = some (f (Ref.b r) c) := by
 have hlt := (List.getElem?_eq_some_iff.1 hk).1
 have hp : rs[k]? = some rs[k] := List.getElem?_eq_getElem (by omega)
 refine ⟨rs[k], hp, ?_⟩
 unfold moZ
 rw [List.getElem?_zipWith, hp, hk]
theorem Hp.moBack {r : R} {c' : γ} (h : Hp B A w (f (Ref.b r) c' :: L)) (hi : L[i]? = some (obMX R f mb l j r)) (hj : l[j]? = some (k, c)) : Hp B A w (L.set i (obMO R f mb (l.set j (k, c')))) := by
 obtain ⟨rs, h2⟩ := Hp.open (h.front (i := i + 1) (O := obMX R f mb l j r) (by simpa using hi))
 have hl : rs.length = l.length ∧ rs[j]? = some r := by
  obtain ⟨_, ⟨_, hr⟩, _⟩ := h2.at (i := 0) rfl
  exact hr
 have hlt := (List.getElem?_eq_some_iff.1 hj).1
 have e1 : (l.set j (k, c')).map (·.2) = (l.map (·.2)).set j c' := by rw [List.map_set]
 have e0 : (l.set j (k, c')).map (·.1) = l.map (·.1) := by
  rw [List.map_set]
  apply List.ext_getElem?
  intro m
  rw [List.getElem?_set]
  by_cases hm : j = m
  ·subst hm
   rw [if_pos rfl, if_pos (by simpa using hlt), List.getElem?_map, hj]
   rfl
  ·rw [if_neg hm]
 have hz : (moZ f rs ((l.map (·.2)).set j c'))[j]? = some (f (Ref.b r) c') := by
  unfold moZ
  rw [List.getElem?_zipWith, hl.2, List.getElem?_set_self (by simpa using hlt)]
 have he : (moZ f rs ((l.map (·.2)).set j c')).eraseIdx j = (moZ f rs (l.map (·.2))).eraseIdx j := by
  unfold moZ
  apply List.ext_getElem?
  intro m
  simp only [List.getElem?_eraseIdx, List.getElem?_zipWith]
  split
  ·rw [List.getElem?_set_ne (by omega)]
  ·rw [List.getElem?_set_ne (by omega)]
 have h3 := h2.drop (i := 0) rfl
 have hE : moE (l.set j (k, c')) rs = moE l rs := by unfold moE; rw [e0]
 have h4 : Hp B A w (obMb mb (moE (l.set j (k, c')) rs) :: moZ f rs ((l.set j (k, c')).map (·.2)) ++ L.eraseIdx i) := by
  refine h3.perm ?_
  rw [hE, e1]
  simp only [List.cons_append]
  show (obMb mb (moE l rs) :: ((moZ f rs (l.map (·.2))).eraseIdx j ++ f (Ref.b r) c' :: L.eraseIdx i)).Perm _
  refine List.Perm.cons _ ?_
  rw [← he]
  refine List.perm_middle.trans ?_
  exact List.Perm.append_right _ (perm_take hz).symm
 exact (Hp.moClose (by rw [List.length_set]; exact hl.1) h4).perm (perm_set hi)
theorem Hp.moNew (R : Type) [Ref R] {γ : Type} (f : Nat → γ → Ob) (h : Hp B A w L) (hi : L[i]? = some (obMb (κ := κ) (α := Option R) mb [])) : Hp B A w (L.set i (obMO (κ := κ) R f mb [])) :=
 (Hp.moClose (f := f) (l := ([] : List (κ × γ))) (rs := ([] : List R)) rfl (h.front hi)).perm (perm_set hi)
end
section steps
variable {P : Program} {n : Fr} {ops : Array Oper} {Q : Exit → Act → World → Prop} {E : Env} {w : World} {rest : List Oper} {u v : Value} {d : Nat}
variable {ty t kt et : TypeId} {pos : String} {af : Array Edge} {x y z : Operand} {A : Nat → Prop} {B : Nat} {L : List Ob} {i mb : Nat} {R γ κ : Type} [Ref R] [Mk κ] [DecidableEq κ] {f : Nat → γ → Ob} {l : List (κ × γ)} {k : κ} {c : γ}
theorem V_lookupMO1 {zv : Value} (hH : Hp B A w L) (hi : L[i]? = some (obMO R f mb l)) (ht : P.underlying t = some (.map kt et)) (hk : P.underlying kt = some (Mk.dsc κ)) (hz : ∀ w, (zeroValue et).run P w = .ok zv w) (hzv : zv = Cel.enc (none : Option R))
  (hx : ev E x = some (.map (some mb))) (hy : ev E y = some (Mk.enc k)) (hn : Nat.blt d n.sz = true)
  (h : ∀ o : Option R, o.isSome = (mapGet l k).isSome → V P n ops Q rest ((d, Cel.enc o) :: E) w) :
  V P n ops Q (⟨some d, .lookup t x y false, ty, pos, af, none⟩ :: rest) E w := by
 obtain ⟨rs, hl, h2⟩ := hH.moOpen hi
 refine V_y (Y_lookupB (z := (none : Option R)) h2 (i := 0) rfl ht hk hz hzv hx hy) rfl rfl hn (h _ ?_)
 cases hg : mapGet l k with
 | none => rw [moE_none hl hg]; rfl
 | some c =>
  obtain ⟨j, r, _, _, e, _⟩ := moE_some hl hg
  rw [e]
  rfl
theorem V_lookupMO {zv : Value} (hH : Hp B A w L) (hi : L[i]? = some (obMO R f mb l)) (hg : mapGet l k = some c) (ht : P.underlying t = some (.map kt et)) (hk : P.underlying kt = some (Mk.dsc κ)) (hz : ∀ w, (zeroValue et).run P w = .ok zv w) (hzv : zv = Cel.enc (none : Option R))
  (hx : ev E x = some (.map (some mb))) (hy : ev E y = some (Mk.enc k)) (hn : Nat.blt d n.sz = true)
  (h : ∀ (j : Nat) (r : R), l[j]? = some (k, c) → Hp B A w (f (Ref.b r) c :: L.set i (obMX R f mb l j r)) → V P n ops Q rest ((d, Cel.enc (some r)) :: E) w) :
  V P n ops Q (⟨some d, .lookup t x y false, ty, pos, af, none⟩ :: rest) E w := by
 have hn2 := hH.moNodup hi
 obtain ⟨rs, hl, h2⟩ := hH.moOpen hi
 obtain ⟨j, r, hj, hr, e, _⟩ := moE_some hl hg
 have hj2 : (l.map (·.2))[j]? = some c := by rw [List.getElem?_map, hj]; rfl
 obtain ⟨r2, hr2, hz2⟩ := moZ_at (f := f) (rs := rs) (cs := l.map (·.2)) (by simpa using hl) hj2
 obtain rfl : r = r2 := Option.some.inj (hr.symm.trans hr2)
 refine V_y (Y_lookupB (z := (none : Option R)) h2 (i := 0) rfl ht hk hz hzv hx hy) rfl rfl hn ?_
 rw [e]
 refine h j r hj ?_
 have h3 : Hp B A w ((obMb mb (moE l rs) :: (moZ f rs (l.map (·.2))).eraseIdx j) ++ f (Ref.b r) c :: L.eraseIdx i) := by
  refine h2.perm ?_
  simp only [List.cons_append]
  refine List.Perm.cons _ ?_
  exact (List.Perm.append_right _ (perm_take hz2)).trans List.perm_middle.symm
 have h4 := Hp.pack (F := fun rs : List R => obQ (rs.length = l.length ∧ rs[j]? = some r) :: obMb mb (moE l rs) :: (moZ f rs (l.map (·.2))).eraseIdx j) rs (h3.free (O' := obQ (rs.length = l.length ∧ rs[j]? = some r)) ⟨rfl, hl, hr⟩)
 refine h4.perm ?_
 exact (List.Perm.swap _ _ _).trans ((perm_set hi).cons _)
theorem V_mapNewMO {r : R} (hH : Hp B A w (f (Ref.b r) c :: L)) (hi : L[i]? = some (obMO R f mb l)) (hnew : mapGet l k = none) (ht : P.underlying t = some (.map kt et)) (hk : P.underlying kt = some (Mk.dsc κ))
  (hx : ev E x = some (.map (some mb))) (hy : ev E y = some (Mk.enc k)) (hz : ev E z = some (Cel.enc (some r))) (hB : B ≤ w.heap.size) (hA : ∀ b, w.heap.size ≤ b → A b)
  (h : ∀ w1, Hp B A w1 (L.set i (obMO R f mb (l ++ [(k, c)]))) → Tr Dw B A w A w1 → V P n ops Q rest E w1) :
  V P n ops Q (⟨none, .mapUpdate t x y z, ty, pos, af, none⟩ :: rest) E w := by
 obtain ⟨rs, hl, h2⟩ := hH.moOpen (i := i + 1) (by simpa using hi)
 refine V_mapNewB (Dw := Dw) (c := some r) h2 (i := 0) rfl (moE_none hl hnew) ht hk hx hy hz hB hA ?_
 intro w1 h3 t1
 refine h w1 ?_ t1
 have e1 : moE (l ++ [(k, c)]) (rs ++ [r]) = moE l rs ++ [(k, some r)] := by
  unfold moE
  rw [List.map_append, List.map_append, List.zip_append (by simp [hl])]
  rfl
 have e2 : moZ f (rs ++ [r]) ((l ++ [(k, c)]).map (·.2)) = moZ f rs (l.map (·.2)) ++ [f (Ref.b r) c] := by
  unfold moZ
  rw [List.map_append, List.zipWith_append (by simp [hl])]
  rfl
 have h4 : Hp B A w1 (obMb mb (moE (l ++ [(k, c)]) (rs ++ [r])) :: moZ f (rs ++ [r]) ((l ++ [(k, c)]).map (·.2)) ++ L.eraseIdx i) := by
  rw [e1, e2]
  refine h3.perm ?_
  simp only [List.cons_append, List.set_cons_zero]
  refine List.Perm.cons _ ?_
  show (moZ f rs (l.map (·.2)) ++ f (Ref.b r) c :: L.eraseIdx i).Perm _
  rw [List.append_assoc]
  exact .refl _
 exact (Hp.moClose (by simp [hl]) h4).perm (perm_set hi)
theorem Y_eqlPN {o : Option Ptr} {ρd : Option Nat} {g : Option (Nat × Bool)} {t2 e : TypeId} (ht : P.underlying t2 = some (.pointer e)) (hx : ev E x = some (Cel.enc o)) (hy : ev E y = some (.pointer none)) : Y P n E ⟨ρd, .binOp .eql t2 x y t, ty, pos, af, g⟩ w (.bool (!o.isSome)) w := by
 intro a ha
 obtain ⟨dp, hd⟩ : ∃ dp, Op.maxDepth = dp + 1 := ⟨_, rfl⟩
 cases o with
 | none =>
  have hx' : ev E x = some (.pointer none) := hx
  simp only [execOp, ha.eval hx', ha.eval hy]
  simp [eqGuard, binOp, Op.equal, hd, Op.equalIn, underlying, ht]
 | some p =>
  have hx' : ev E x = some (.pointer (some ⟨p.b, 0, none⟩)) := hx
  simp only [execOp, ha.eval hx', ha.eval hy]
  simp [eqGuard, binOp, Op.equal, hd, Op.equalIn, underlying, ht]
theorem Y_eqlMN {o : Option MRf} {ρd : Option Nat} {g : Option (Nat × Bool)} {t2 kt et : TypeId} (ht : P.underlying t2 = some (.map kt et)) (hx : ev E x = some (Cel.enc o)) (hy : ev E y = some (.map none)) : Y P n E ⟨ρd, .binOp .eql t2 x y t, ty, pos, af, g⟩ w (.bool (!o.isSome)) w := by
 intro a ha
 obtain ⟨dp, hd⟩ : ∃ dp, Op.maxDepth = dp + 1 := ⟨_, rfl⟩
 cases o with
 | none =>
  have hx' : ev E x = some (.map none) := hx
  simp only [execOp, ha.eval hx', ha.eval hy]
  simp [eqGuard, binOp, Op.equal, hd, Op.equalIn, underlying, ht]
 | some p =>
  have hx' : ev E x = some (.map (some p.b)) := hx
  simp only [execOp, ha.eval hx', ha.eval hy]
  simp [eqGuard, binOp, Op.equal, hd, Op.equalIn, underlying, ht]
end steps
def FMb {κ α : Type} [Mk κ] [Cel α] (A : Nat → Prop) (w : World) (mb : Nat) (l : List (κ × α)) : Prop :=
 A mb ∧ mb < w.heap.size ∧ (l.map (·.1)).Nodup ∧ ∃ es clk, w.heap[mb]? = some (.map es clk) ∧ es.toList.map (fun e => (e.key, e.val)) = l.map encE ∧ (∀ e ∈ es.toList, e.born < clk) ∧ (es.toList.map (·.born)).Nodup
section
variable {B : Nat} {A A1 : Nat → Prop} {w w1 : World} {L : List Ob} {i mb : Nat} {R γ κ α : Type} [Ref R] [Mk κ] [Cel α] [DecidableEq κ] {f : Nat → γ → Ob} {l : List (κ × γ)}
theorem FMb.tr {l : List (κ × α)} (h : FMb A w mb l) (ht : Tr Dw B A w A1 w1) : FMb A1 w1 mb l := by
 obtain ⟨h1, h2, h3, es, clk, h4, h5⟩ := h
 obtain ⟨e1, e2⟩ := ht.ex.2 mb h2 h1
 exact ⟨e1, Nat.lt_of_lt_of_le h2 ht.ex.1, h3, es, clk, by rw [e2]; exact h4, h5⟩
theorem moPersist {f0 : List Nat} (h : (obMO R f mb l).P f0 A w) (hf : ∀ b ∈ f0, A1 b ∧ b < w.heap.size) : ∃ rs : List R, rs.length = l.length ∧ FMb A1 w mb (moE l rs) ∧ ∀ (j : Nat) (r : R) (p : κ × γ), rs[j]? = some r → l[j]? = some p → ∃ fb, (f (Ref.b r) p.2).P fb A w ∧ ∀ b ∈ fb, A1 b ∧ b < w.heap.size := by
 obtain ⟨rs, hs⟩ := h
 obtain ⟨f1, hq, _⟩ := hs.at (i := 0) rfl
 have hl : rs.length = l.length := hq.2
 obtain ⟨f2, ⟨rfl, es, clk, q1, q2, q3, q4, q5⟩, hsub, _⟩ := hs.at (i := 1) rfl
 have hmb := hf mb (hsub mb (by simp))
 refine ⟨rs, hl, ⟨hmb.1, hmb.2, q3, es, clk, q1, q2, q4, q5⟩, fun j r p hr hp => ?_⟩
 have hz : (moL f mb l rs)[j + 2]? = some (f (Ref.b r) p.2) := by
  show (moZ f rs (l.map (·.2)))[j]? = _
  unfold moZ
  rw [List.getElem?_zipWith, hr, List.getElem?_map, hp]
  rfl
 obtain ⟨f3, hp3, hsub3, _⟩ := hs.at hz
 exact ⟨f3, hp3, fun b hb => hf b (hsub3 b hb)⟩
end
section steps
variable {P : Program} {n : Fr} {ops : Array Oper} {Q : Exit → Act → World → Prop} {E : Env} {w : World} {rest : List Oper} {u v : Value} {d : Nat}
variable {ty t kt et : TypeId} {pos : String} {af : Array Edge} {x y z : Operand} {A : Nat → Prop} {B : Nat} {L : List Ob} {i j mb rb c0 since : Nat} {κ α : Type} [Mk κ] [DecidableEq κ] [Cel α] {l : List (κ × α)} {k : κ} {es : Array MapEntry} {clk : Nat} {seen : Array Nat}
theorem Y_lookupF {zz : α} {zv : Value} (hf : FMb A w mb l) (ht : P.underlying t = some (.map kt et)) (hk : P.underlying kt = some (Mk.dsc κ)) (hz : ∀ w, (zeroValue et).run P w = .ok zv w) (hzv : zv = Cel.enc zz)
  (hx : ev E x = some (.map (some mb))) (hy : ev E y = some (Mk.enc k)) : Y P n E ⟨some d, .lookup t x y false, ty, pos, af, none⟩ w (Cel.enc ((mapGet l k).getD zz)) w := by
 obtain ⟨_, _, q3, es, clk, q1, q2, _⟩ := hf
 have hks : ∀ e ∈ es.toList, MapKept.IsKey (Mk.dsc κ) e.key := fun e he => by
  obtain ⟨p, _, hp, _⟩ := sm_keys q2 e he
  rw [hp]
  exact Mk.isK _
 have hkk : MapKept.IsKey (Mk.dsc κ) (Mk.enc k) := Mk.isK _
 intro a hA'
 rcases MapKept.findNow_spec hkk es.toList 0 hks with ⟨r1, r2⟩ | ⟨j, e, r1, r2, r3⟩
 ·have hg : mapGet l k = none := mapGet_none fun p hp hpk => by
   have : encE p ∈ es.toList.map (fun e => (e.key, e.val)) := by rw [q2]; exact List.mem_map_of_mem hp
   obtain ⟨e, he, hq⟩ := List.mem_map.1 this
   simp only [encE, Prod.mk.injEq] at hq
   exact r2 e he (by rw [hq.1, hpk])
  rw [hg, Option.getD_none, ← hzv]
  simp only [execOp, hA'.eval hx, hA'.eval hy, Instr.lookup]
  simp [run_underlying ht, MapKept.run_getObj_map q1, MapKept.run_checkKey hk hkk, MapKept.run_findKey hk r1, Result.andThen, hz]
 ·obtain ⟨p, hp, p1, p2⟩ := sm_at q2 r2
  rw [p1] at r3
  obtain rfl := Mk.inj _ _ r3
  rw [mapGet_some q3 (List.mem_of_getElem? hp), Option.getD_some, ← p2]
  simp only [execOp, hA'.eval hx, hA'.eval hy, Instr.lookup]
  simp [run_underlying ht, MapKept.run_getObj_map q1, MapKept.run_checkKey hk hkk, MapKept.run_findKey hk r1, Result.andThen]
theorem V_rangeF (hH : Hp B A w L) (hm : w.heap[mb]? = some (.map es clk)) (hx : ev E x = some (.map (some mb))) (hB : B ≤ w.heap.size) (hA : ∀ b, w.heap.size ≤ b → A b) (hn : Nat.blt d n.sz = true) (ht : P.underlying t = some (.map kt et))
  (h : ∀ rb w1 A1, Hp B A1 w1 (obO rb (.mapIter (some mb) clk #[] clk) :: L) → Tr Dw B A w A1 w1 → V P n ops Q rest ((d, .pointer (some ⟨rb, 0, none⟩)) :: E) w1) :
  V P n ops Q (⟨some d, .range t x, ty, pos, af, none⟩ :: rest) E w :=
 V_y (w' := w.alloc (.mapIter (some mb) clk #[] clk)) (v := .pointer (some ⟨w.heap.size, 0, none⟩)) (fun a hA' => by simp only [execOp, hA'.eval hx]; simp [run_range_map w t kt et mb es clk ht hm]) rfl rfl hn
  (h _ _ _ (hH.alloc _ hB hA) ((mv_alloc B _ hA).tr hB))
theorem V_nextF (hH : Hp B A w L) (q1 : w.heap[mb]? = some (.map es clk)) (hj : L[j]? = some (obO rb (.mapIter (some mb) since seen c0))) (hx : ev E x = some (.pointer (some ⟨rb, 0, none⟩)))
  (hold : ∀ e ∈ es.toList, e.born < since) (hsc : since ≤ c0) (hB : B ≤ w.heap.size) (hA : ∀ b, w.heap.size ≤ b → A b) (hn : Nat.blt d n.sz = true)
  (h0 : (leftOf es seen).size = 0 → V P n ops Q rest ((d, .tuple #[.bool false]) :: E) w)
  (h1 : ∀ e w1, e ∈ (leftOf es seen).toList → Hp B A w1 (L.set j (obO rb (.mapIter (some mb) since (seen.push e.born) clk))) → Tr Dw B A w A w1 → V P n ops Q rest ((d, .tuple #[.bool true, e.key, e.val]) :: E) w1) :
  V P n ops Q (⟨some d, .next x false, ty, pos, af, none⟩ :: rest) E w := by
 obtain ⟨f, ⟨rfl, q2⟩, hb, hset⟩ := hH.at hj
 rcases run_next_at (P := P) w ty rb mb since c0 seen es clk q2 q1 hold hsc with ⟨r1, r2⟩ | ⟨e, he, w1, hw, r2⟩
 ·exact V_y (w' := w) (v := .tuple #[.bool false]) (fun a hA' => by simp only [execOp, hA'.eval hx]; simp [r2]) rfl rfl hn (h0 r1)
 ·have hlt : rb < w.heap.size := (Array.getElem?_eq_some_iff.1 q2).1
  have hw0 : Mv Dw B A w A (setBlock w1 rb (.mapIter (some mb) since (seen.push e.born) clk)) (some rb) := by
   rcases hw with rfl | rfl
   ·exact mv_set _ hlt (hb rb (by simp)).1 (hb rb (by simp)).2.2 hA
   ·exact ⟨rfl, rfl, rfl, by show w.heap.size ≤ (w.heap.setIfInBounds rb _).size; simp, fun _ => Nat.le_succ _, fun k hk hne => by
     show (w.heap.setIfInBounds rb _)[k]? = w.heap[k]?
     rw [Array.getElem?_setIfInBounds_ne (fun e => hne (by rw [e]))], fun k hk => by cases hk; exact ⟨(hb rb (by simp)).1, (hb rb (by simp)).2.2⟩, fun _ h => h, fun _ _ h => h, fun b' hb' => hA b' (by have h2 : (w.heap.setIfInBounds rb (.mapIter (some mb) since (seen.push e.born) clk)).size ≤ b' := hb'; simpa using h2)⟩
  have hq : (setBlock w1 rb (.mapIter (some mb) since (seen.push e.born) clk)).heap[rb]? = some (.mapIter (some mb) since (seen.push e.born) clk) := by
   rcases hw with rfl | rfl
   ·show (w1.heap.setIfInBounds rb _)[rb]? = _
    simp [hlt]
   ·show (w.heap.setIfInBounds rb _)[rb]? = _
    simp [hlt]
  exact V_y (w' := setBlock w1 rb (.mapIter (some mb) since (seen.push e.born) clk)) (v := .tuple #[.bool true, e.key, e.val]) (fun a hA' => by simp only [execOp, hA'.eval hx]; simp [r2]) rfl rfl hn
   (h1 e _ he (hset A _ (some rb) _ [rb] hw0 (fun k hk => by cases hk; simp) ⟨rfl, hq⟩ fun b' hb' => ⟨.inl hb', (hb b' hb').1, (hb b' hb').2.2⟩) (hw0.tr hB))
theorem Y_entryF {e : MapEntry} (hH : Hp B A w L) (q1 : w.heap[mb]? = some (.map es clk)) (hj : L[j]? = some (obO rb (.mapIter (some mb) since (seen.push e.born) clk))) (hx : ev E x = some (.pointer (some ⟨rb, 0, none⟩)))
  (he : e ∈ es.toList) (hnd : (es.toList.map (·.born)).Nodup) : Y P n E ⟨some d, .entry x, ty, pos, af, none⟩ w (.tuple #[e.key, e.val]) w := by
 obtain ⟨f, ⟨rfl, q2⟩, hb, hset⟩ := hH.at hj
 intro a hA'
 simp only [execOp, hA'.eval hx]
 simp [run_entry_at w rb mb since seen es clk e q2 q1 he hnd]
end steps
theorem perm_mem {α : Type} [DecidableEq α] : ∀ {l m : List α}, l.Nodup → m.Nodup → (∀ x, x ∈ l ↔ x ∈ m) → l.Perm m
 | [], m, _, _, h => by
  cases m with
  | nil => exact .refl _
  | cons x m => exact absurd ((h x).2 List.mem_cons_self) (by simp)
 | x :: l, m, hl, hm, h => by
  have hx : x ∈ m := (h x).1 List.mem_cons_self
  rw [List.nodup_cons] at hl
  refine List.Perm.trans (List.Perm.cons x (perm_mem hl.2 (hm.erase x) fun y => ?_)) (List.perm_cons_erase hx).symm
  rw [List.Nodup.mem_erase_iff hm]
  constructor
  ·intro hy
   exact ⟨fun e => hl.1 (e ▸ hy), (h y).1 (List.mem_cons_of_mem _ hy)⟩
  ·rintro ⟨h1, h2⟩
   rcases List.mem_cons.1 ((h y).2 h2) with h3 | h3
   ·exact absurd h3 h1
   ·exact h3
theorem left_done {es : Array MapEntry} {seen : Array Nat} {vis : List MapEntry} (hs : seen.toList = vis.map (·.born)) (hv : ∀ e ∈ vis, e ∈ es.toList) (hn : (vis.map (·.born)).Nodup) (hb : (es.toList.map (·.born)).Nodup) (h0 : (leftOf es seen).size = 0) : (vis.map (·.born)).Perm (es.toList.map (·.born)) := by
 refine perm_mem hn hb fun x => ⟨fun hx => ?_, fun hx => ?_⟩
 ·obtain ⟨e, he, rfl⟩ := List.mem_map.1 hx
  exact List.mem_map_of_mem (hv e he)
 ·obtain ⟨e, he, rfl⟩ := List.mem_map.1 hx
  rw [← hs]
  unfold leftOf at h0
  have h1 := Array.eq_empty_of_size_eq_zero h0
  rw [Array.filter_eq_empty_iff] at h1
  have h2 := h1 e (by simpa using he)
  simpa using h2
def mapHave {κ γ : Type} [DecidableEq κ] (l : List (κ × γ)) (k : κ) (d : γ) : List (κ × γ) := if (mapGet l k).isSome = true then l else l ++ [(k, d)]
theorem mapHave_get {κ γ : Type} [DecidableEq κ] (l : List (κ × γ)) (k : κ) (d : γ) : mapGet (mapHave l k d) k = some ((mapGet l k).getD d) := by
 unfold mapHave
 cases h : mapGet l k with
 | some p => simp [h]
 | none =>
  rw [if_neg (by simp)]
  have key : ∀ l : List (κ × γ), mapGet l k = none → mapGet (l ++ [(k, d)]) k = some d := by
   intro l
   induction l with
   | nil => intro _; exact if_pos rfl
   | cons q l ih =>
    intro hq
    rw [mapGet] at hq
    split at hq
    ·cases hq
    ·rename_i hne
     rw [List.cons_append, mapGet, if_neg hne]
     exact ih hq
  exact key l h
theorem mapHave_put {κ γ : Type} [DecidableEq κ] {l : List (κ × γ)} {k : κ} {d c c1 : γ} {j : Nat} (hn : ((mapHave l k d).map (·.1)).Nodup) (hj : (mapHave l k d)[j]? = some (k, c)) : (mapHave l k d).set j (k, c1) = mapPut l k c1 := by
 rw [← mapPut_at hn hj]
 unfold mapHave at hn hj ⊢
 by_cases h : (mapGet l k).isSome = true
 ·rw [if_pos h]
 ·rw [if_neg h] at hn ⊢
  have hne : ∀ q ∈ l, q.1 ≠ k := by
   rw [List.map_append, List.nodup_append] at hn
   intro q hq e
   exact hn.2.2 q.1 (List.mem_map_of_mem hq) k (by simp) e
  rw [mapPut_new hne]
  unfold mapPut
  rw [if_pos ⟨_, List.mem_append_right _ (List.mem_singleton.2 rfl), rfl⟩, List.map_append]
  congr 1
  ·conv => rhs; rw [← List.map_id l]
   refine List.map_congr_left fun q hq => ?_
   rw [if_neg (hne q hq)]
   rfl
  ·simp
theorem mapHave_none {κ γ : Type} [DecidableEq κ] {l : List (κ × γ)} {k : κ} {d : γ} (h : mapGet l k = none) : mapHave l k d = l ++ [(k, d)] := by unfold mapHave; rw [h]; exact if_neg (by simp)
theorem mapHave_some {κ γ : Type} [DecidableEq κ] {l : List (κ × γ)} {k : κ} {d c : γ} (h : mapGet l k = some c) : mapHave l k d = l := by unfold mapHave; rw [h]; exact if_pos rfl
theorem cells_of_one {v : Value} (h : v.oneCell' = true) : v.cells.size = 1 := by rw [← Array.length_toList, Value.cells_one h]; rfl
theorem cells_all_one {v : Value} (h : v.oneCell' = true) : ∀ u ∈ v.cells.toList, u.oneCell' = true := by
 intro u hu
 rw [Value.cells_one h] at hu
 simp at hu
 subst hu
 exact h
theorem OwP.slI {e : TypeId} {A A1 : Nat → Prop} {w : World} {v : Value} {l : List Int} {f : List Nat} (h : OwP e A w v l f) (hf : ∀ b ∈ f, A1 b) : Sl A1 w v l := by
 have h2 : OwP e (fun _ => False) w v l f := OwP.flat h
 have e1 := OwP.fp h2
 have hlt := (obS e v l).lt (A := fun _ => False) h2
 refine (OwP.ow (B := 0) h2 fun b hb => ⟨Nat.zero_le b, hlt b hb, id⟩).sl (fun _ h => h.elim) fun g hg => hf g ?_
 rw [e1, hg]
 simp
section steps
variable {P : Program} {n : Fr} {ops : Array Oper} {Q : Exit → Act → World → Prop} {E : Env} {w : World} {rest : List Oper} {u v : Value} {d : Nat}
variable {ty t kt et : TypeId} {pos : String} {af : Array Edge} {x y z : Operand} {A : Nat → Prop} {B : Nat} {L : List Ob} {i mb : Nat} {R γ κ : Type} [Ref R] [Mk κ] [DecidableEq κ] {f : Nat → γ → Ob} {l : List (κ × γ)} {k : κ} {c : γ}
theorem V_mapNewMX {r : R} (hH : Hp B A w (f (Ref.b r) c :: L)) (hi : L[i]? = some (obMO R f mb l)) (hnew : mapGet l k = none) (ht : P.underlying t = some (.map kt et)) (hk : P.underlying kt = some (Mk.dsc κ))
  (hx : ev E x = some (.map (some mb))) (hy : ev E y = some (Mk.enc k)) (hz : ev E z = some (Cel.enc (some r))) (hB : B ≤ w.heap.size) (hA : ∀ b, w.heap.size ≤ b → A b)
  (h : ∀ w1, (l ++ [(k, c)])[l.length]? = some (k, c) → Hp B A w1 (f (Ref.b r) c :: L.set i (obMX R f mb (l ++ [(k, c)]) l.length r)) → Tr Dw B A w A w1 → V P n ops Q rest E w1) :
  V P n ops Q (⟨none, .mapUpdate t x y z, ty, pos, af, none⟩ :: rest) E w := by
 obtain ⟨rs, hl, h2⟩ := hH.moOpen (i := i + 1) (by simpa using hi)
 refine V_mapNewB (Dw := Dw) (c := some r) h2 (i := 0) rfl (moE_none hl hnew) ht hk hx hy hz hB hA ?_
 intro w1 h3 t1
 refine h w1 (by simp) ?_ t1
 have e1 : moE (l ++ [(k, c)]) (rs ++ [r]) = moE l rs ++ [(k, some r)] := by
  unfold moE
  rw [List.map_append, List.map_append, List.zip_append (by simp [hl])]
  rfl
 have e2 : moZ f (rs ++ [r]) ((l ++ [(k, c)]).map (·.2)) = moZ f rs (l.map (·.2)) ++ [f (Ref.b r) c] := by
  unfold moZ
  rw [List.map_append, List.zipWith_append (by simp [hl])]
  rfl
 have e3 : (moZ f rs (l.map (·.2))).length = l.length := by
  unfold moZ
  rw [List.length_zipWith]
  simp [hl]
 have e4 : (moZ f (rs ++ [r]) ((l ++ [(k, c)]).map (·.2))).eraseIdx l.length = moZ f rs (l.map (·.2)) := by
  rw [e2, List.eraseIdx_append_of_length_le (by omega), e3, Nat.sub_self]
  simp
 have h4 : Hp B A w1 ((obMb mb (moE (l ++ [(k, c)]) (rs ++ [r])) :: (moZ f (rs ++ [r]) ((l ++ [(k, c)]).map (·.2))).eraseIdx l.length) ++ f (Ref.b r) c :: L.eraseIdx i) := by
  rw [e4, e1]
  exact h3
 have h5 := Hp.pack (F := fun rs : List R => obQ (rs.length = (l ++ [(k, c)]).length ∧ rs[l.length]? = some r) :: obMb mb (moE (l ++ [(k, c)]) rs) :: (moZ f rs ((l ++ [(k, c)]).map (·.2))).eraseIdx l.length) (rs ++ [r]) (h4.free (O' := obQ ((rs ++ [r]).length = (l ++ [(k, c)]).length ∧ (rs ++ [r])[l.length]? = some r)) ⟨rfl, by simp [hl], by rw [← hl]; simp⟩)
 refine h5.perm ?_
 exact (List.Perm.swap _ _ _).trans ((perm_set hi).cons _)
theorem Y_lookupMX {zv : Value} {j : Nat} {r : R} (hH : Hp B A w L) (hi : L[i]? = some (obMX R f mb l j r)) (hj : l[j]? = some (k, c)) (ht : P.underlying t = some (.map kt et)) (hk : P.underlying kt = some (Mk.dsc κ)) (hz : ∀ w, (zeroValue et).run P w = .ok zv w) (hzv : zv = Cel.enc (none : Option R))
  (hx : ev E x = some (.map (some mb))) (hy : ev E y = some (Mk.enc k)) : Y P n E ⟨some d, .lookup t x y false, ty, pos, af, none⟩ w (Cel.enc (some r)) w := by
 obtain ⟨rs, h2⟩ := Hp.open (hH.front (O := obMX R f mb l j r) hi)
 have hl : rs.length = l.length ∧ rs[j]? = some r := by
  obtain ⟨_, ⟨_, hr⟩, _⟩ := h2.at (i := 0) rfl
  exact hr
 obtain ⟨_, ⟨_, es, clk, _, _, q3, _⟩, _⟩ := h2.at (i := 1) rfl
 have hm : (moE l rs)[j]? = some (k, some r) := by
  unfold moE
  rw [List.getElem?_zip_eq_some]
  exact ⟨by rw [List.getElem?_map, hj]; rfl, by rw [List.getElem?_map, hl.2]; rfl⟩
 have hg : mapGet (moE l rs) k = some (some r) := mapGet_some (p := (k, some r)) q3 (List.mem_of_getElem? hm)
 have := Y_lookupB (P := P) (n := n) (E := E) (d := d) (ty := ty) (pos := pos) (af := af) (z := (none : Option R)) h2 (i := 1) rfl ht hk hz hzv hx hy
 rw [hg] at this
 exact this
end steps
theorem nodup_le {α : Type} [DecidableEq α] : ∀ {l m : List α}, l.Nodup → (∀ x ∈ l, x ∈ m) → l.length ≤ m.length
 | [], _, _, _ => Nat.zero_le _
 | x :: l, m, hl, h => by
  have hx : x ∈ m := h x List.mem_cons_self
  rw [List.nodup_cons] at hl
  have ih := nodup_le (m := m.erase x) hl.2 fun y hy => (List.mem_erase_of_ne (fun e : y = x => hl.1 (by rw [← e]; exact hy))).2 (h y (List.mem_cons_of_mem _ hy))
  rw [List.length_erase_of_mem hx] at ih
  have := List.length_pos_of_mem hx
  rw [List.length_cons]
  omega
theorem perm_by {α β : Type} (g : α → β) : ∀ {l m : List α}, (m.map g).Nodup → (∀ x ∈ l, x ∈ m) → (l.map g).Perm (m.map g) → l.Perm m
 | [], m, _, _, h => by
  have := h.length_eq
  rw [List.length_map, List.length_map] at this
  rw [List.eq_nil_of_length_eq_zero this.symm]
 | x :: l, m, hm, hs, h => by
  obtain ⟨a, b, rfl⟩ := List.append_of_mem (hs x List.mem_cons_self)
  have hn : ((x :: l).map g).Nodup := h.nodup_iff.2 hm
  rw [List.map_cons, List.nodup_cons] at hn
  have h1 : (l.map g).Perm ((a ++ b).map g) := by
   have h2 : ((a ++ x :: b).map g).Perm (g x :: (a ++ b).map g) := by
    rw [← List.map_cons]
    exact (List.perm_middle (a := x) (l₁ := a) (l₂ := b)).map g
   exact (h.trans h2).cons_inv
  have hm2 : ((a ++ b).map g).Nodup := h1.nodup_iff.1 hn.2
  refine (List.Perm.cons x (perm_by g hm2 (fun y hy => ?_) h1)).trans List.perm_middle.symm
  have hy2 := hs y (List.mem_cons_of_mem _ hy)
  rw [List.mem_append, List.mem_cons] at hy2
  rw [List.mem_append]
  rcases hy2 with h3 | rfl | h3
  ·exact .inl h3
  ·exact absurd (List.mem_map_of_mem hy) hn.1
  ·exact .inr h3
theorem perm_born {es vis : List MapEntry} (hd : (es.map (·.born)).Nodup) (hv : ∀ x ∈ vis, x ∈ es) (hp : (vis.map (·.born)).Perm (es.map (·.born))) : vis.Perm es := perm_by (·.born) hd hv hp
theorem perm_of_map {α β : Type} {f : α → β} (inj : ∀ a b, f a = f b → a = b) : ∀ {l m : List α}, (l.map f).Perm (m.map f) → l.Perm m
 | [], m, h => by
  have := h.length_eq
  rw [List.length_map, List.length_map] at this
  rw [List.eq_nil_of_length_eq_zero this.symm]
 | x :: l, m, h => by
  have hx : f x ∈ m.map f := h.mem_iff.1 (by simp)
  obtain ⟨y, hy, e⟩ := List.mem_map.1 hx
  obtain rfl := inj _ _ e
  obtain ⟨a, b, rfl⟩ := List.append_of_mem hy
  have h2 : ((a ++ y :: b).map f).Perm (f y :: (a ++ b).map f) := by
   rw [← List.map_cons]
   exact (List.perm_middle (a := y) (l₁ := a) (l₂ := b)).map f
  exact (List.Perm.cons y (perm_of_map inj (h.trans h2).cons_inv)).trans List.perm_middle.symm
theorem perm_strings {a b : List ByteArray} (h : (a.map Value.string).Perm (b.map Value.string)) : a.Perm b := perm_of_map (fun _ _ h => Value.string.inj h) h
theorem moE_at {R γ κ : Type} {l : List (κ × γ)} {rs : List R} (hl : rs.length = l.length) {i : Nat} {k : κ} {oo : Option R} (h : (moE l rs)[i]? = some (k, oo)) : ∃ (r : R) (c : γ), rs[i]? = some r ∧ l[i]? = some (k, c) ∧ oo = some r := by
 unfold moE at h
 rw [List.getElem?_zip_eq_some] at h
 obtain ⟨h1, h2⟩ := h
 rw [List.getElem?_map] at h1 h2
 obtain ⟨p, hp, e1⟩ := Option.map_eq_some_iff.1 h1
 obtain ⟨r, hr, e2⟩ := Option.map_eq_some_iff.1 h2
 obtain ⟨k', c⟩ := p
 dsimp only at e1
 subst e1
 exact ⟨r, c, hr, hp, e2.symm⟩
theorem perm_posts {κ γ X : Type} {enc : κ → Value} (inj : ∀ a b, enc a = enc b → a = b) {vis : List MapEntry} {pl : List γ} {m : List (κ × γ)} {E : List (κ × X)} (hl : pl.length = vis.length)
  (hpm : ∀ (i : Nat) (x : MapEntry) (p : γ), vis[i]? = some x → pl[i]? = some p → ∃ k : κ, x.key = enc k ∧ (k, p) ∈ m) (gn : (E.map (·.1)).Nodup) (ek : E.map (·.1) = m.map (·.1)) (hp : (vis.map (·.key)).Perm ((m.map (·.1)).map enc)) : pl.Perm (m.map (·.2)) := by
 have key : ∀ (vis : List MapEntry) (pl : List γ), pl.length = vis.length → (∀ (i : Nat) (x : MapEntry) (p : γ), vis[i]? = some x → pl[i]? = some p → ∃ k : κ, x.key = enc k ∧ (k, p) ∈ m) → ∃ z : List (κ × γ), z.map (·.2) = pl ∧ (z.map (·.1)).map enc = vis.map (·.key) ∧ ∀ q ∈ z, q ∈ m := by
  intro vis
  induction vis with
  | nil =>
   intro pl h1 _
   have : pl = [] := List.eq_nil_of_length_eq_zero h1
   subst this
   exact ⟨[], rfl, rfl, fun _ h => nomatch h⟩
  | cons x vis ih =>
   intro pl h1 h2
   cases pl with
   | nil => simp at h1
   | cons p pl =>
    obtain ⟨z, z1, z2, z3⟩ := ih pl (by simpa using h1) fun i y q hy hq => h2 (i + 1) y q (by simpa using hy) (by simpa using hq)
    obtain ⟨k, k1, k2⟩ := h2 0 x p rfl rfl
    refine ⟨(k, p) :: z, by simp [z1], by simp [z2, k1], fun q hq => ?_⟩
    rcases List.mem_cons.1 hq with rfl | hq
    ·exact k2
    ·exact z3 q hq
 obtain ⟨z, z1, z2, z3⟩ := key vis pl hl hpm
 rw [← z1]
 refine (perm_by (·.1) (by rw [← ek]; exact gn) z3 ?_).map _
 refine perm_of_map inj ?_
 rw [z2]
 exact hp
theorem sort_unique {α : Type} {cmp : α → α → Option Int} {l m : List α} (hl : SortOk cmp l) (h : l.Perm m) : (l.mergeSort fun x y => !(cmpLt cmp y x)) = m.mergeSort fun x y => !(cmpLt cmp y x) := by
 cases l with
 | nil =>
  have : m = [] := List.eq_nil_of_length_eq_zero (by rw [← h.length_eq]; rfl)
  rw [this]
 | cons x0 l0 =>
  have hx0 : x0 ∈ x0 :: l0 := List.mem_cons_self
  generalize x0 :: l0 = l at *
  classical
  let G : α → {x // x ∈ l} := fun x => if hx : x ∈ l then ⟨x, hx⟩ else ⟨x0, hx0⟩
  let le' : {x // x ∈ l} → {x // x ∈ l} → Bool := fun p q => !(cmpLt cmp q.1 p.1)
  have hG : ∀ x, x ∈ l → (G x).1 = x := fun x hx => by
   show (if hx : x ∈ l then (⟨x, hx⟩ : {x // x ∈ l}) else ⟨x0, hx0⟩).1 = x
   rw [dif_pos hx]
  have back : ∀ k : List α, (∀ x ∈ k, x ∈ l) → (k.map G).map (·.1) = k := fun k hk => by
   rw [List.map_map]
   conv => rhs; rw [← List.map_id k]
   exact List.map_congr_left fun x hx => hG x (hk x hx)
  have same : ∀ k : List α, (∀ x ∈ k, x ∈ l) → ((k.map G).mergeSort le').map (·.1) = k.mergeSort fun x y => !(cmpLt cmp y x) := fun k hk => by
   rw [List.map_mergeSort (s := fun x y => !(cmpLt cmp y x)) (fun a _ b _ => rfl), back k hk]
  have htr : ∀ a b c : {x // x ∈ l}, le' a b = true → le' b c = true → le' a c = true := fun a b c h1 h2 => by
   have h1' : cmpLt cmp b.1 a.1 = false := by simpa [le'] using h1
   have h2' : cmpLt cmp c.1 b.1 = false := by simpa [le'] using h2
   have := hl.ntrans c.1 c.2 b.1 b.2 a.1 a.2 h2' h1'
   simp [le', this]
  have hto : ∀ a b : {x // x ∈ l}, (le' a b || le' b a) = true := fun a b => by
   cases hab : cmpLt cmp b.1 a.1 with
   | false => simp [le', hab]
   | true =>
    have : cmpLt cmp a.1 b.1 = false := by
     cases hba : cmpLt cmp a.1 b.1 with
     | false => rfl
     | true =>
      have h1 := hl.trans a.1 a.2 b.1 b.2 a.1 a.2 hba hab
      rw [hl.irrefl a.1 a.2] at h1
      cases h1
    simp [le', this]
  rw [← same l fun _ h => h, ← same m fun x hx => h.mem_iff.2 hx]
  congr 1
  refine List.Perm.eq_of_pairwise (le := fun a b => le' a b = true) (fun a b _ _ h1 h2 => ?_) (List.pairwise_mergeSort htr hto _) (List.pairwise_mergeSort htr hto _) ((List.mergeSort_perm _ _).trans ((h.map G).trans (List.mergeSort_perm _ _).symm))
  have h1' : cmpLt cmp b.1 a.1 = false := by simpa [le'] using h1
  have h2' : cmpLt cmp a.1 b.1 = false := by simpa [le'] using h2
  exact Subtype.ext (hl.total a.1 a.2 b.1 b.2 h2' h1')
end Go.Gw
