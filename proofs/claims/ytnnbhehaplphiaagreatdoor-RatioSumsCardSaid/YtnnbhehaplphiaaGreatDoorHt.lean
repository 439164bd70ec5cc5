/-
  Windows: a part of an own row of integers, handed to a function that writes into it.
-/
import Derived.Test.YtnnbhehaplphiaaGreatDoorHc
import Derived.Test.YtnnbhehaplphiaaGreatDoorGv
namespace Go.Gw
open Go Go.RowKit Go.Pu
variable {Dw : Prop}
set_option linter.unusedSimpArgs false
set_option linter.unusedVariables false

def icells (l : List Int) : List Value := l.map (Value.int .i64)
def obW (p : List Int) (q : List Value) (v0 : Value) (e : TypeId) (v : Value) (l : List Int) : Ob where
  P f A w := v = v0 ∧ ∃ g cap, v = .slice (some ⟨g, p.length, none⟩) l.length cap ∧ f = [g] ∧ w.heap[g]? = some (.cells (icells p ++ icells l ++ q).toArray e (0, 0)) ∧ l.length ≤ cap ∧ cap ≤ maxLen
  keep h he hb := by
    obtain ⟨h0, g, cap, rfl, rfl, h3, h⟩ := h
    exact ⟨h0, g, cap, rfl, rfl, by rw [hb g (by simp)]; exact h3, h⟩
  lt h b' hb' := by
    obtain ⟨h0, g, cap, rfl, rfl, h3, h⟩ := h
    simp at hb'; subst hb'; exact (Array.getElem?_eq_some_iff.1 h3).1
theorem repL_icells {A : Nat → Prop} {w : World} : ∀ l : List Int, repL A w (icells l) l
  | [] => rfl
  | _ :: l => ⟨[_], icells l, rfl, rfl, repL_icells l⟩
theorem icells_of {A : Nat → Prop} {w : World} : ∀ {l : List Int} {cs : List Value}, repL A w cs l → cs = icells l
  | [], cs, h => h
  | _ :: l, cs, h => by
    obtain ⟨c1, c2, rfl, h1, h2⟩ := h
    rw [h1, icells_of h2]
    rfl
theorem icells_len (l : List Int) : (icells l).length = l.length := by simp [icells]
structure LocW (v : Value) (b off : Nat) (i : Int) : Prop where
  o : ∃ o len cap, v = .slice (some ⟨b, o, none⟩) len cap ∧ off = o + i.toNat

section
variable {P : Program} {n : Fr} {ops : Array Oper} {Q : Exit → Act → World → Prop} {E : Env} {w : World} {rest : List Oper} {v u v0 : Value} {d : Nat}
variable {ty t ts e : TypeId} {pos : String} {af : Array Edge} {x y z : Operand} {A : Nat → Prop} {B : Nat} {L : List Ob} {i : Nat} {l r p : List Int} {q : List Value}

theorem Hp.anyW (h : Hp B A w L) (hi : L[i]? = some (obW p q v0 e v l)) : Sl (fun _ => True) w v l := by
  obtain ⟨f, ⟨h0, g, cap, rfl, rfl, h3, h4, h5⟩, hb, _⟩ := h.at hi
  refine .inr ⟨g, p.length, cap, icells l, rfl, trivial, (Array.getElem?_eq_some_iff.1 h3).1, h4, h5, repL_icells l, ?_⟩
  intro j u hj
  have hjl : j < (icells l).length := (List.getElem?_eq_some_iff.1 hj).1
  simp only [World.cell?, h3]
  show (icells p ++ icells l ++ q).toArray[p.length + j]? = some u
  rw [List.getElem?_toArray, List.append_assoc, List.getElem?_append_right (by rw [icells_len]; omega), icells_len, Nat.add_sub_cancel_left, List.getElem?_append_left hjl]
  exact hj
theorem V_indexAddrW {k : IntKind} {ix : Int} {el : Int} (hH : Hp B A w L) (hi : L[i]? = some (obW p q v0 e v l)) (hidx : idx l ix = some el) (ht : P.underlying t = some (.slice e)) (hsz : ∀ w, (Go.sizeOf e).run P w = .ok (GoT.cells Int) w)
    (hx : ev E x = some v) (hy : ev E y = some (.int k ix)) (hn : Nat.blt d n.sz = true) (h : ∀ b off, El (fun _ => True) w b off el → LocW v b off ix → V P n ops Q rest ((d, .pointer (some ⟨b, off, none⟩)) :: E) w) :
    V P n ops Q (⟨some d, .indexAddr t x y, ty, pos, af, none⟩ :: rest) E w := by
  have hany := hH.anyW hi
  obtain ⟨f, ⟨h0, g, cap, rfl, _⟩, _, _⟩ := hH.at hi
  obtain ⟨h0, h1, h2⟩ := idx_some hidx
  have hadd : Y P n E ⟨some d, .indexAddr t x y, ty, pos, af, none⟩ w (.pointer (some ⟨g, p.length + ix.toNat * GoT.cells Int, none⟩)) w := fun a hA => by
    simp only [execOp, hA.eval hx, hA.eval hy, Instr.indexAt, asIntOf]
    simp [underlying, ht, hsz, h0, h1, addr_add]
  rcases hany with ⟨a, c, hv, hl, _⟩ | ⟨b', off', cap', cs', hv, hb', hlt', hlc', hcm', hrep', hat'⟩
  · rw [hl] at h2; simp at h2
  simp only [Value.slice.injEq, Option.some.injEq, Addr.mk.injEq, and_true] at hv
  obtain ⟨⟨rfl, rfl⟩, _, _⟩ := hv
  obtain ⟨c1, c2, c3, rfl, hl, hr⟩ := hrep'.at h2
  refine V_y hadd rfl rfl hn (h g (p.length + ix.toNat * GoT.cells Int) ⟨trivial, hlt', c2, hr, ?_⟩ ⟨⟨_, _, _, rfl, by show _ + ix.toNat * 1 = _; omega⟩⟩)
  rw [← hl]
  exact hat'.right.left
theorem VQ_indexAddrW {W : World → Prop} {QA : Act → Prop} {k : IntKind} {ix : Int} {el : Int} (hH : Hp B A w L) (hi : L[i]? = some (obW p q v0 e v l)) (hidx : idx l ix = some el) (ht : P.underlying t = some (.slice e)) (hsz : ∀ w, (Go.sizeOf e).run P w = .ok (GoT.cells Int) w)
    (hx : ev E x = some v) (hy : ev E y = some (.int k ix)) (hn : Nat.blt d n.sz = true) (h : ∀ b off, El (fun _ => True) w b off el → LocW v b off ix → VQ P n ops W QA rest ((d, .pointer (some ⟨b, off, none⟩)) :: E)) :
    VQ P n ops W QA (⟨some d, .indexAddr t x y, ty, pos, af, none⟩ :: rest) E := by
  have hany := hH.anyW hi
  obtain ⟨f, ⟨h0, g, cap, rfl, _⟩, _, _⟩ := hH.at hi
  obtain ⟨h0, h1, h2⟩ := idx_some hidx
  have hadd : ∀ w, Y P n E ⟨some d, .indexAddr t x y, ty, pos, af, none⟩ w (.pointer (some ⟨g, p.length + ix.toNat * GoT.cells Int, none⟩)) w := fun w a hA => by
    simp only [execOp, hA.eval hx, hA.eval hy, Instr.indexAt, asIntOf]
    simp [underlying, ht, hsz, h0, h1, addr_add]
  rcases hany with ⟨a, c, hv, hl, _⟩ | ⟨b', off', cap', cs', hv, hb', hlt', hlc', hcm', hrep', hat'⟩
  · rw [hl] at h2; simp at h2
  simp only [Value.slice.injEq, Option.some.injEq, Addr.mk.injEq, and_true] at hv
  obtain ⟨⟨rfl, rfl⟩, _, _⟩ := hv
  obtain ⟨c1, c2, c3, rfl, hl, hr⟩ := hrep'.at h2
  refine VQ_y (fun w _ => hadd w) rfl rfl hn (h g (p.length + ix.toNat * GoT.cells Int) ⟨trivial, hlt', c2, hr, ?_⟩ ⟨⟨_, _, _, rfl, by show _ + ix.toNat * 1 = _; omega⟩⟩)
  rw [← hl]
  exact hat'.right.left
theorem V_storeW {ix : Int} {b off sz : Nat} {x' : Int} {nv : Value} (hH : Hp B A w L) (hi : L[i]? = some (obW p q v0 e v l)) (hloc : LocW v b off ix) (hr : setI l ix x' = some r) (hrep : GoT.rep A w nv.cells.toList x') (hs : ∀ w, (Go.sizeOf t).run P w = .ok sz w) (hsz : sz = GoT.cells Int) (hB : B ≤ w.heap.size) (hA : ∀ b, w.heap.size ≤ b → A b)
    (hx : ev E x = some (.pointer (some ⟨b, off, none⟩))) (hy : ev E y = some nv)
    (h : ∀ w1, Hp B A w1 (L.set i (obW p q v0 e v r)) → Tr Dw B A w A w1 → V P n ops Q rest E w1) : V P n ops Q (⟨none, .store t x y, ty, pos, af, none⟩ :: rest) E w := by
  obtain ⟨f, ⟨h0, g, cap, rfl, rfl, h3, h4, h5⟩, hb, hset⟩ := hH.at hi
  obtain ⟨⟨o, len, cap0, hv, hoff⟩⟩ := hloc
  simp only [Value.slice.injEq, Option.some.injEq, Addr.mk.injEq, and_true] at hv
  obtain ⟨⟨rfl, rfl⟩, rfl, rfl⟩ := hv
  subst hoff
  unfold setI at hr
  split at hr
  rotate_left
  · cases hr
  rename_i hin
  obtain rfl := Option.some.inj hr
  have hnc : nv.cells.toList = [.int .i64 x'] := hrep
  have hlt : p.length + ix.toNat < (icells p ++ icells l ++ q).length := by simp [icells]; omega
  generalize hcur : (icells p ++ icells l ++ q).toArray = cur at h3
  have hst := run_storeCells_at P g (p.length + ix.toNat) e nv.cells.toList 0 cur w h3 (by rw [Nat.add_zero, hnc, ← hcur]; exact hlt) (by rw [hnc]; simp [Value.oneCell'])
  rw [Nat.add_zero] at hst
  have hrow : (cur.toList.take (p.length + ix.toNat) ++ nv.cells.toList ++ cur.toList.drop (p.length + ix.toNat + nv.cells.toList.length)) = icells p ++ icells (l.set ix.toNat x') ++ q := by
    rw [hnc, ← hcur]
    show (icells p ++ icells l ++ q).take (p.length + ix.toNat) ++ [Value.int .i64 x'] ++ (icells p ++ icells l ++ q).drop (p.length + ix.toNat + 1) = _
    have e1 : icells p ++ icells (l.set ix.toNat x') ++ q = (icells p ++ icells l ++ q).set (p.length + ix.toNat) (.int .i64 x') := by
      rw [List.append_assoc, List.append_assoc, List.set_append_right _ _ (by rw [icells_len]; omega), icells_len, Nat.add_sub_cancel_left, List.set_append_left _ _ (by rw [icells_len]; omega)]
      simp [icells]
    rw [e1, List.set_eq_take_append_cons_drop, if_pos hlt, List.append_assoc]
    rfl
  rw [hrow] at hst
  have hmv : Mv Dw B A w A (w.setRow g (icells p ++ icells (l.set ix.toNat x') ++ q).toArray) (some g) :=
    ⟨rfl, rfl, rfl, by simp, fun _ => Nat.le_refl _, fun k hk hne => setRow_other w g k _ (fun e => hne (by rw [e])), fun k hk => by cases hk; exact ⟨(hb g (by simp)).1, (hb g (by simp)).2.2⟩, fun _ h => h, fun _ _ h => h, fun b' hb' => hA b' (by simpa using hb')⟩
  refine V_s (w' := w.setRow g (icells p ++ icells (l.set ix.toNat x') ++ q).toArray) (fun a hA' => ?_) rfl rfl (h _ (hset A _ (some g) (obW p q v0 e _ (l.set ix.toNat x')) [g] hmv (fun k hk => by cases hk; simp) ⟨h0, g, cap, by rw [List.length_set], rfl, setRow_heap w g cur _ e _ h3, by rw [List.length_set]; exact h4, h5⟩ fun b hb' => ⟨.inl hb', ?_⟩) (hmv.tr hB))
  · have hcl : nv.cells.size = 1 := by have := congrArg List.length hnc; simpa using this
    simp only [execOp, hA'.eval hx, hA'.eval hy, Instr.storeAt, Instr.sureAddr]
    simp [storeVar, hs, hsz, hcl, hst, show GoT.cells Int = 1 from rfl]
  · have := hb b hb'
    exact ⟨this.1, this.2.2⟩

/-- a window's value -/
def Wn (v : Value) (l : List Int) (v' : Value) (lo hi : Int) (m : List Int) : Prop := winL l lo hi = some m ∧ ∃ g cap, v = .slice (some ⟨g, 0, none⟩) l.length cap ∧ v' = .slice (some ⟨g, lo.toNat, none⟩) m.length (cap - lo.toNat)
def Wq (v : Value) (l : List Int) (hi : Int) (q : List Value) : Prop := ∃ g cap, v = .slice (some ⟨g, 0, none⟩) l.length cap ∧ q.take (l.length - hi.toNat) = icells (l.drop hi.toNat) ∧ q.length = cap - hi.toNat ∧ l.length ≤ cap ∧ cap ≤ maxLen
theorem winL_some {l m : List Int} {lo hi : Int} (h : winL l lo hi = some m) : (0 ≤ lo ∧ lo < hi ∧ hi.toNat ≤ l.length) ∧ m = (l.take hi.toNat).drop lo.toNat := by
  unfold winL at h
  split at h
  · rename_i hc
    exact ⟨⟨hc.1, hc.2.1, by omega⟩, (Option.some.inj h).symm⟩
  · cases h
theorem winL_len {l m : List Int} {lo hi : Int} (h : winL l lo hi = some m) : m.length = hi.toNat - lo.toNat := by
  obtain ⟨h1, rfl⟩ := winL_some h
  rw [List.length_drop, List.length_take]
  omega
theorem V_winS {lo hi : Int} {k k2 : IntKind} {m : List Int} (hH : Hp B A w L) (hi' : L[i]? = some (obS (α := Int) e v l)) (hr : winL l lo hi = some m) (ht : P.underlying t = some (.slice e)) (hs : ∀ w, (Go.sizeOf e).run P w = .ok 1 w)
    (hx : ev E x = some v) (hy : ev E y = some (.int k lo)) (hz : ev E z = some (.int k2 hi)) (hn : Nat.blt d n.sz = true) (h : ∀ v', Wn v l v' lo hi m → V P n ops Q rest ((d, v') :: E) w) :
    V P n ops Q (⟨some d, .slice t x (some y) (some z) none, ty, pos, af, none⟩ :: rest) E w := by
  obtain ⟨hc, hm⟩ := winL_some hr
  have hml := winL_len hr
  obtain ⟨f, hp, hb, hset⟩ := hH.at hi'
  rcases hp with ⟨rfl, rfl, _⟩ | ⟨g, cap, cur, cs, rfl, rfl, h4, h5, h6, h7, h8, h9⟩
  · simp at hc; omega
  refine V_y (Y_sliceLLH (sz := 1) (u := .slice (some ⟨g, lo.toNat, none⟩) m.length (cap - lo.toNat)) ⟨some ⟨g, 0, none⟩, l.length, cap, lo.toNat, hi.toNat, rfl, ?_, ?_, by omega, by omega, h5, ?_⟩ ht hs hx hy hz) rfl rfl hn (h _ ⟨hr, g, cap, rfl, rfl⟩)
  · simp; omega
  · simp; omega
  · rw [hml, if_neg (by omega)]
    simp [addr_add]
theorem Hp.win {lo hi : Int} {m : List Int} (hH : Hp B A w L) (hi' : L[i]? = some (obS (α := Int) e v l)) (hA : ∀ b, w.heap.size ≤ b → A b) (hw : Wn v l u lo hi m) : ∃ q, Wq v l hi q ∧ Hp B A w (L.set i (obW (l.take lo.toNat) q u e u m)) := by
  obtain ⟨hr, g, cap, rfl, rfl⟩ := hw
  obtain ⟨hc, hm⟩ := winL_some hr
  have hml := winL_len hr
  obtain ⟨f, hp, hb, hset⟩ := hH.at hi'
  rcases hp with ⟨hv, rfl, _⟩ | ⟨g', cap', cur, cs, hv, rfl, h4, h5, h6, h7, h8, h9⟩
  · simp at hc; omega
  simp only [Value.slice.injEq, Option.some.injEq, Addr.mk.injEq, and_true] at hv
  obtain ⟨rfl, _, rfl⟩ := hv
  obtain rfl := icells_of h8
  have h7 : cur.size = cap := by rw [h7]; exact Nat.mul_one _
  have h9 : cur.toList.take l.length = icells l := by have := h9; rwa [show GoT.cells Int = 1 from rfl, Nat.mul_one] at this
  have hcur : cur.toList = icells l ++ cur.toList.drop l.length := by rw [← h9, List.take_append_drop]
  have hl3 : l = l.take lo.toNat ++ m ++ l.drop hi.toNat := by
    rw [hm]
    have e1 := List.take_append_drop hi.toNat l
    have e2 := List.take_append_drop lo.toNat (l.take hi.toNat)
    rw [List.take_take, Nat.min_eq_left (by omega)] at e2
    rw [e2, e1]
  refine ⟨icells (l.drop hi.toNat) ++ cur.toList.drop l.length, ⟨g, cap, rfl, ?_, ?_, h5, h6⟩, hset A w none _ [g] (.kp (Kp.refl (Dw := True) _) hA) (fun k hk => by cases hk) ⟨rfl, g, cap - lo.toNat, ?_, rfl, ?_, by omega, by omega⟩ (fun b hb' => ⟨.inl hb', (hb b hb').1, (hb b hb').2.2⟩)⟩
  · rw [List.take_append_of_le_length (by rw [icells_len, List.length_drop]; omega)]
    exact List.take_of_length_le (by rw [icells_len, List.length_drop]; omega)
  · have e : cur.toList.length = cap := by simpa using h7
    rw [List.length_append, icells_len, List.length_drop, List.length_drop, e]
    omega
  · rw [List.length_take, Nat.min_eq_left (by omega)]
  · rw [h4]
    refine congrArg (fun z => some (Obj.cells z e (0, 0))) ?_
    apply Array.toList_inj.1
    show cur.toList = icells (l.take lo.toNat) ++ icells m ++ (icells (l.drop hi.toNat) ++ cur.toList.drop l.length)
    conv => lhs; rw [hcur]
    have e : icells l = icells (l.take lo.toNat) ++ icells m ++ icells (l.drop hi.toNat) := by
      conv => lhs; rw [hl3]
      simp only [icells, List.map_append]
    rw [e, List.append_assoc]
theorem Hp.unwin {lo hi : Int} {m r : List Int} (hH : Hp B A w (obW (l.take lo.toNat) q u e v0 r :: L)) (hA : ∀ b, w.heap.size ≤ b → A b) (hw : Wn v l u lo hi m) (hq : Wq v l hi q) : Hp B A w (obS (α := Int) e v (winS l lo hi r) :: L) := by
  obtain ⟨hr, g, cap, rfl, rfl⟩ := hw
  obtain ⟨g2, cap2, hv, q1, q2, q3, q4⟩ := hq
  simp only [Value.slice.injEq, Option.some.injEq, Addr.mk.injEq, and_true] at hv
  obtain ⟨rfl, _, rfl⟩ := hv
  obtain ⟨hc, hm⟩ := winL_some hr
  have hml := winL_len hr
  obtain ⟨f, ⟨h0, g', cap', hv, rfl, h3, h4, h5⟩, hb, hset⟩ := hH.at (i := 0) rfl
  subst h0
  simp only [Value.slice.injEq, Option.some.injEq, Addr.mk.injEq, and_true] at hv
  obtain ⟨⟨rfl, _⟩, hrl, _⟩ := hv
  have hrl : r.length = hi.toNat - lo.toNat := by omega
  have hlen : (winS l lo hi r).length = l.length := by
    unfold winS
    rw [List.length_append, List.length_append, List.length_take, List.length_drop]
    omega
  refine hset A w none _ [g] (.kp (Kp.refl (Dw := True) _) hA) (fun k hk => by cases hk) (.inr ⟨g, cap, _, icells (winS l lo hi r), by rw [hlen], rfl, h3, by omega, q4, ?_, repL_icells _, ?_⟩) (fun b hb' => ⟨.inl hb', (hb b hb').1, (hb b hb').2.2⟩)
  · show _ = cap * 1
    simp [icells, q2]
    omega
  · rw [show GoT.cells Int = 1 from rfl, Nat.mul_one, hlen]
    unfold winS
    simp only [icells, List.map_append]
    show List.take l.length (icells (l.take lo.toNat) ++ icells r ++ q) = icells (l.take lo.toNat) ++ icells r ++ icells (l.drop hi.toNat)
    rw [List.take_append, List.take_of_length_le (by rw [List.length_append, icells_len, icells_len, List.length_take]; omega), ← q1]
    congr 1
    congr 1
    rw [List.length_append, icells_len, icells_len, List.length_take]
    omega
end
end Go.Gw
