/-
  make with a capacity; copy into a slice of the call's own.
-/
import Derived.Test.YtgmenjhmnjhgoaaDoorGt
import Derived.Laws.CopyRow
namespace Go.Gw
open Go Go.RowKit Go.Pu
variable {Dw : Prop}
set_option linter.unusedSimpArgs false
set_option linter.unusedVariables false

section
variable {α : Type} [GoT α] {A : Nat → Prop} {w : World}
theorem repL.cut {cs : List Value} : ∀ {l : List α} (k : Nat), repL A w cs l → ∃ c1 c2, cs = c1 ++ c2 ∧ repL A w c1 (l.take k) ∧ repL A w c2 (l.drop k)
  | l, 0, h => ⟨[], cs, rfl, rfl, h⟩
  | [], k + 1, h => ⟨[], cs, rfl, rfl, h⟩
  | x :: l, k + 1, h => by
    obtain ⟨c1, c2, rfl, h1, h2⟩ := h
    obtain ⟨d1, d2, rfl, h3, h4⟩ := repL.cut k h2
    exact ⟨c1 ++ d1, d2, by simp, ⟨c1, d1, rfl, h1, h3⟩, h4⟩
end

section steps
variable {P : Program} {n : Fr} {ops : Array Oper} {Q : Exit → Act → World → Prop} {E : Env} {w : World} {rest : List Oper} {v u : Value} {d : Nat}
variable {ty t t2 e : TypeId} {pos : String} {af : Array Edge} {x y : Operand} {A : Nat → Prop} {α : Type} [GoT α] {B : Nat} {L : List Ob} {i : Nat}

theorem V_makeCH {zz : α} {k c : Int} {kd kc : IntKind} {r : List α} {lim bytes : Nat} {ti : TypeInfo} {zv : Value} (hH : Hp B A w L) (hr : makeC lim k c zz = some r) (hzr : ∀ (A : Nat → Prop) (w : World), GoT.rep A w zv.cells.toList zz) (ht : P.underlying t = some (.slice e)) (hti : P.info? e = some ti) (hz : ti.zero = some zv)
    (hsize : ti.size = GoT.cells α) (hby : ti.bytes = bytes) (hlim : bytes * lim ≤ 281474976710656) (hlm : lim ≤ maxLen) (hB : B ≤ w.heap.size) (hA : ∀ b, w.heap.size ≤ b → A b)
    (hx : ev E x = some (.int kd k)) (hy : ev E y = some (.int kc c)) (hn : Nat.blt d n.sz = true)
    (h : ∀ v w1 A1, Hp B A1 w1 (obS e v r :: L) → Tr Dw B A w A1 w1 → V P n ops Q rest ((d, v) :: E) w1) :
    V P n ops Q (⟨some d, .makeSlice t x y, ty, pos, af, none⟩ :: rest) E w := by
  unfold makeC at hr
  by_cases hc : 0 ≤ k ∧ k ≤ c ∧ c.toNat ≤ lim
  rotate_left
  · rw [if_neg hc] at hr; cases hr
  rw [if_pos hc] at hr
  obtain rfl := Option.some.inj hr
  obtain ⟨h0, h1, h2⟩ := hc
  have hm : c.toNat ≤ maxLen := Nat.le_trans h2 hlm
  have hm' : maxLen ≤ 9223372036854775807 := by simp [maxLen]
  have hb2 : ti.bytes * c.toNat ≤ 281474976710656 := by rw [hby]; exact Nat.le_trans (Nat.mul_le_mul_left _ h2) hlim
  have hb3 : (ti.bytes : Int) * c ≤ 281474976710656 := by
    have e1 : ((ti.bytes * c.toNat : Nat) : Int) ≤ 281474976710656 := by omega
    rw [Int.natCast_mul, Int.toNat_of_nonneg (by omega)] at e1
    exact e1
  have hrun := run_make (P := P) w t e ti zv ht hti hz kd kc k c h0 h1 hb3 (by omega)
  have hzs : zv.cells.size = GoT.cells α := by have := GoT.len (hzr A w); simpa using this
  refine V_y (w' := w.alloc (.cells (madeCells zv.cells (c.toNat * ti.size)) e)) (v := .slice (some ⟨w.heap.size, 0, none⟩) k.toNat c.toNat) (fun a hA' => ?_) rfl rfl hn
    (h _ _ _ (hH.new (O' := obS e (.slice (some ⟨w.heap.size, 0, none⟩) k.toNat c.toNat) (List.replicate k.toNat zz)) (f' := [w.heap.size]) (mv_alloc (Dw := Dw) B _ hA) hB ?_ fun b hb => by simp at hb; subst hb; exact ⟨Nat.le_refl _, fun h => h.2 rfl⟩) ((mv_alloc (Dw := Dw) B _ hA).tr hB))
  · simp only [execOp, hA'.eval hx, hA'.eval hy]
    simp [hrun]
  · refine .inr ⟨w.heap.size, c.toNat, madeCells zv.cells (c.toNat * ti.size), (List.replicate k.toNat zv.cells.toList).flatten, by rw [List.length_replicate], rfl, heap_alloc_new w _, by rw [List.length_replicate]; omega, hm, by rw [size_madeCells, hsize], repL_replicate (hzr _ _) _, ?_⟩
    rw [hsize, ← hzs, madeCells_flat, List.length_replicate]
    rw [show c.toNat = k.toNat + (c.toNat - k.toNat) by omega, ← List.replicate_append_replicate, List.flatten_append, List.take_append_of_le_length (by simp), List.take_of_length_le (by simp)]

/-- copy: elements of one cell -/
theorem V_copyH {l m : List α} (hH : Hp B A w L) (hi : L[i]? = some (obS e v l)) (hm : Sl A w u m) (h1 : GoT.cells α = 1) (ht : P.underlying t = some (.slice e)) (hs : (P.info? e).map (·.size) = some 1) (hB : B ≤ w.heap.size) (hA : ∀ b, w.heap.size ≤ b → A b)
    (hx : ev E x = some v) (hy : ev E y = some u) (hn : Nat.blt d n.sz = true)
    (h : ∀ w1, Hp B A w1 (L.set i (obS e v (copyL l m))) → Tr Dw B A w A w1 → V P n ops Q rest ((d, .int .i64 ((min m.length l.length : Nat) : Int)) :: E) w1) :
    V P n ops Q (⟨some d, .call ⟨.builtin .copy, #[x, y], #[t, t2]⟩, ty, pos, af, none⟩ :: rest) E w := by
  obtain ⟨f, hp, hb, hset⟩ := hH.at hi
  -- what the source's first cells are
  obtain ⟨a, sLen, sCap, cs, hu, hcl, hcr, hcat, hl⟩ : ∃ (a : Option Addr) (sLen sCap : Nat) (cs : List Value), u = .slice a sLen sCap ∧ cs.length = min m.length l.length ∧ repL A w cs (m.take l.length) ∧ (∀ (a0 : Addr), a = some a0 → ∀ j v, cs[j]? = some v → w.cell? (a0.add j) = some v) ∧ sLen = m.length ∧ (a = none → sLen = 0 ∧ sCap = 0) := by
    rcases hm with ⟨a, cap, rfl, rfl, _, hc⟩ | ⟨b, off, cap, cs, rfl, hAb, hlt, hle, hcm, hrep, hat⟩
    · exact ⟨a, 0, cap, [], rfl, by simp, by simp [repL], fun _ _ j v hj => by simp at hj, rfl, fun h => ⟨rfl, hc h⟩⟩
    · obtain ⟨c1, c2, rfl, r1, r2⟩ := hrep.cut l.length
      have hl1 := r1.len
      rw [h1, Nat.mul_one, List.length_take] at hl1
      refine ⟨_, _, cap, c1, rfl, by rw [hl1, Nat.min_comm], r1, fun a0 ha0 j v hj => ?_, rfl, fun h => by cases h⟩
      cases ha0
      have := hat j v (by rw [List.getElem?_append_left (List.getElem?_eq_some_iff.1 hj).1]; exact hj)
      have hadd : (⟨b, off, none⟩ : Addr).add j = ⟨b, off + j, none⟩ := by unfold Addr.add; split <;> simp_all
      rw [hadd]
      exact this
  obtain ⟨rfl, hnil⟩ := hl
  subst hu
  have hnone : ∀ v ∈ cs, v.oneCell' = true := hcr.one
  rcases hp with ⟨rfl, rfl, rfl⟩ | ⟨g, cap, cur, ds, rfl, rfl, h4, h5, h6, h7, h8, h9⟩
  · -- into nil
    have hrun : (Builtin.copy_ #[t, t2] ty #[.slice none 0 0, .slice a m.length sCap]).run P w = .ok (goInt 0) w := by
      cases hq : P.info? e with
      | none => simp [hq] at hs
      | some ii => cases a <;> simp [Builtin.copy_, run_underlying ht, Builtin.lenOf, Builtin.firstCells, sizeOf, typeInfo, hq, loadCells, loadCellsFrom]
    refine V_y (w' := w) (v := .int .i64 ((min m.length 0 : Nat) : Int)) (fun ac hA' => ?_) rfl rfl hn (h w ?_ (Tr.refl hA))
    · simp only [execOp, resolve, invoke, builtin, List.map_toArray, List.map_cons, List.map_nil, hA'.eval hx, hA'.eval hy]
      simp [hrun, goInt]
    · have e1 : copyL ([] : List α) m = [] := by simp [copyL]
      have e2 : L.set i (obS e (.slice none 0 0) (copyL ([] : List α) m)) = L := by
        rw [e1]
        apply List.ext_getElem?
        intro j
        rw [List.getElem?_set]
        split
        · rename_i hij
          subst hij
          rw [hi]
          simp [(List.getElem?_eq_some_iff.1 hi).1]
        · rfl
      rw [e2]
      exact hH
  · have h9' : cur.toList.take l.length = ds := by rw [← h9, h1, Nat.mul_one]
    have hcur : l.length ≤ cur.size := by rw [h7, h1, Nat.mul_one]; exact h5
    have hrun : (Builtin.copy_ #[t, t2] ty #[.slice (some ⟨g, 0, none⟩) l.length cap, .slice a m.length sCap]).run P w = .ok (goInt (min m.length l.length : Nat)) (w.setRow g (cs ++ cur.toList.drop cs.length).toArray) := by
      cases a with
      | some a0 =>
        have := run_copy_row (P := P) w t t2 ty e g 0 l.length cap a0 m.length sCap cur e cs ht hs h4 hcl (hcat a0 rfl) (by omega) hnone
        simpa [hcl] using this
      | none =>
        obtain ⟨q1, q2⟩ := hnil rfl
        have hm0 : m.length = 0 := q1
        subst q2
        have hcs : cs = [] := List.eq_nil_of_length_eq_zero (by rw [hcl]; omega)
        subst hcs
        have := run_copy_nil (P := P) w t t2 ty e ⟨g, 0, none⟩ l.length cap ht (by cases hq : P.info? e with | none => simp [hq] at hs | some ii => rfl)
        rw [hm0]
        have hself := setRow_self w g cur e (0, 0) h4
        simp only [List.length_nil, List.nil_append, List.drop_zero, Array.toArray_toList, hself]
        simpa using this
    have hlen : (copyL l m).length = l.length := by simp [copyL]; omega
    have hmv : Mv Dw B A w A (w.setRow g (cs ++ cur.toList.drop cs.length).toArray) (some g) :=
      ⟨rfl, rfl, rfl, by simp, fun _ => Nat.le_refl _, fun k hk hne => setRow_other w g k _ (fun e => hne (by rw [e])), fun k hk => by cases hk; exact ⟨(hb g (by simp)).1, (hb g (by simp)).2.2⟩, fun _ h => h, fun _ _ h => h, fun b' hb' => hA b' (by simpa using hb')⟩
    refine V_y (w' := w.setRow g (cs ++ cur.toList.drop cs.length).toArray) (v := .int .i64 ((min m.length l.length : Nat) : Int)) (fun ac hA' => ?_) rfl rfl hn (h _ (hset A _ (some g) (obS e (.slice (some ⟨g, 0, none⟩) l.length cap) (copyL l m)) [g] hmv (fun k hk => by cases hk; simp) ?_ fun b' hb' => ⟨.inl hb', (hb b' hb').1, (hb b' hb').2.2⟩) (hmv.tr hB))
    · simp only [execOp, resolve, invoke, builtin, List.map_toArray, List.map_cons, List.map_nil, hA'.eval hx, hA'.eval hy]
      simp [hrun, goInt]
    · obtain ⟨c1, c2, hdc, r1, r2⟩ := h8.cut m.length
      have hl1 := r1.len
      rw [h1, Nat.mul_one, List.length_take] at hl1
      refine .inr ⟨g, cap, (cs ++ cur.toList.drop cs.length).toArray, cs ++ c2, by rw [hlen], rfl, setRow_heap w g cur _ e _ h4, by rw [hlen]; exact h5, h6, ?_, ?_, ?_⟩
      · have e1 : ((cs ++ cur.toList.drop cs.length).toArray).size = cs.length + (cur.size - cs.length) := by simp
        rw [e1, ← h7]
        omega
      · unfold copyL
        exact (hcr.append r2).keep hmv.ex
      · rw [hlen, h1, Nat.mul_one]
        rw [List.take_append, List.take_of_length_le (by omega)]
        congr 1
        have : (cur.toList.drop cs.length).take (l.length - cs.length) = ds.drop cs.length := by
          rw [← h9', List.drop_take]
        rw [this, hdc]
        rw [List.drop_append, List.drop_of_length_le (by omega), List.nil_append]
        by_cases hml : m.length ≤ l.length
        · rw [show cs.length - c1.length = 0 by omega, List.drop_zero]
        · have hc2 : c2.length = 0 := by
            have := r2.len
            rw [h1, Nat.mul_one, List.length_drop] at this
            omega
          rw [List.eq_nil_of_length_eq_zero hc2]
          simp

theorem Y_convU32 {k : IntKind} {p : Int} {ρd : Option Nat} {g : Option (Nat × Bool)} {ts : TypeId} {du : TypeDesc} (hs : P.underlying ts = some du) (hd : P.underlying t = some (.int .u32)) (hx : ev E x = some (.int k p)) : Y P n E ⟨ρd, .convert ts t x, ty, pos, af, g⟩ w (.int .u32 ((toU32 p).toNat : Int)) w := by
  rw [toU32_nat]
  exact Y_convI hs hd hx
theorem Y_convU8 {k : IntKind} {p : Int} {ρd : Option Nat} {g : Option (Nat × Bool)} {ts : TypeId} {du : TypeDesc} (hs : P.underlying ts = some du) (hd : P.underlying t = some (.int .u8)) (hx : ev E x = some (.int k p)) : Y P n E ⟨ρd, .convert ts t x, ty, pos, af, g⟩ w (.int .u8 ((toU8 p).toNat : Int)) w := by
  rw [toU8_nat]
  exact Y_convI hs hd hx
end steps
end Go.Gw
