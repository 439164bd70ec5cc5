import Derived.Test.YtfbiebageicnaaaGreatDoorGt
import Derived.Test.YtfbiebageicnaaaGreatDoorHr
namespace Go.Gw
open Go Go.RowKit Go.Pu
variable {Dw : Prop}
set_option linter.unusedSimpArgs false
set_option linter.unusedVariables false
def PtrEl {γ : Type} [GoT γ] (w : World) (ps : List Ptr) (cs : List γ) : Prop := ∀ (k : Nat) (p : Ptr) (c : γ), ps[k]? = some p → cs[k]? = some c → El (fun _ => True) w p.b 0 c
theorem Hp.psEls {γ : Type} [GoT γ] {f : Nat → γ → Ob} {B : Nat} {A : Nat → Prop} {w : World} {L : List Ob} {i : Nat} {e : TypeId} {v : Value} {cs : List γ} (h : Hp B A w L) (hi : L[i]? = some (obPS f e v cs))
  (hel : ∀ (b : Nat) (c : γ) (L' : List Ob), Hp B A w (f b c :: L') → El (fun _ => True) w b 0 c) : ∃ ps : List Ptr, ps.length = cs.length ∧ Sl (fun _ => True) w v ps ∧ PtrEl w ps cs := by
 obtain ⟨ps, h2⟩ := Hp.open (h.front hi)
 have hl : ps.length = cs.length := by
  obtain ⟨_, ⟨_, hr⟩, _⟩ := h2.at (i := 0) rfl
  exact hr
 refine ⟨ps, hl, h2.any (α := Ptr) (i := 1) rfl, fun k p c hp hc => ?_⟩
 have hz : (psZ f ps cs)[k]? = some (f p.b c) := by
  unfold psZ
  rw [List.getElem?_zipWith, hp, hc]
 have h3 : (psL f e v cs ps ++ L.eraseIdx i)[k + 2]? = some (f p.b c) := by
  rw [List.getElem?_append_left (by unfold psL; simp only [List.length_cons]; have := (List.getElem?_eq_some_iff.1 hz).1; omega)]
  exact hz
 exact hel p.b c _ (h2.front h3)
section
variable {γ : Type} (f : Nat → γ → Ob)
def pdL (e : TypeId) (v : Value) (cs : List γ) (k : Nat) (ps : List Ptr) : List Ob := obQ (ps.length = cs.length) :: obS e v ps :: (psZ f ps cs).drop k
def obPD (e : TypeId) (v : Value) (cs : List γ) (k : Nat) : Ob := obE (pdL f e v cs k)
end
section
variable {B : Nat} {A : Nat → Prop} {w : World} {L : List Ob} {i k : Nat} {γ : Type} {f : Nat → γ → Ob} {e : TypeId} {v : Value} {cs : List γ} {c : γ}
theorem Hp.toPD (h : Hp B A w L) (hi : L[i]? = some (obPS f e v cs)) : Hp B A w (L.set i (obPD f e v cs 0)) := by
 have e1 : obPD f e v cs 0 = obPS f e v cs := rfl
 rw [e1]
 exact (h.front hi).perm (perm_set hi)
theorem Hp.pdLe (h : Hp B A w L) (hi : L[i]? = some (obPD f e v cs k)) : cs.length ≤ maxLen := by
 obtain ⟨ps, h2⟩ := Hp.open (h.front hi)
 have hl : ps.length = cs.length := by
  obtain ⟨_, ⟨_, hr⟩, _⟩ := h2.at (i := 0) rfl
  exact hr
 obtain ⟨_, _, _, h3⟩ := (h2.any (α := Ptr) (i := 1) rfl).form
 omega
theorem Hp.pdOpen (h : Hp B A w L) (hi : L[i]? = some (obPD f e v cs k)) (hk : cs[k]? = some c) : ∃ b ps, ps[k]? = some (⟨b⟩ : Ptr) ∧ Sl (fun _ => True) w v ps ∧ Hp B A w (f b c :: L.set i (obPD f e v cs (k + 1))) := by
 obtain ⟨ps, h2⟩ := Hp.open (h.front hi)
 have hl : ps.length = cs.length := by
  obtain ⟨_, ⟨_, hr⟩, _⟩ := h2.at (i := 0) rfl
  exact hr
 obtain ⟨b, hp, hz⟩ := psZ_at (f := f) hl hk
 have hs := h2.any (α := Ptr) (i := 1) rfl
 refine ⟨b, ps, hp, hs, ?_⟩
 have hd : (psZ f ps cs).drop k = f b c :: (psZ f ps cs).drop (k + 1) := by
  obtain ⟨hlt, hg⟩ := List.getElem?_eq_some_iff.1 hz
  rw [List.drop_eq_getElem_cons hlt, hg]
 have h3 : Hp B A w (f b c :: (pdL f e v cs (k + 1) ps ++ L.eraseIdx i)) := by
  refine h2.perm ?_
  unfold pdL
  rw [hd]
  simp only [List.cons_append]
  exact ((List.Perm.swap _ _ _).cons _).trans (.swap _ _ _)
 have h4 : Hp B A w (pdL f e v cs (k + 1) ps ++ f b c :: L.eraseIdx i) := h3.perm List.perm_middle.symm
 have h5 := Hp.pack (F := pdL f e v cs (k + 1)) ps h4
 refine h5.perm ?_
 exact (List.Perm.swap _ _ _).trans ((perm_set hi).cons _)
end
section steps
variable {P : Program} {n : Fr} {ops : Array Oper} {Q : Exit → Act → World → Prop} {E : Env} {w : World} {rest : List Oper} {v u : Value} {d : Nat} {W : World → Prop} {QA : Act → Prop}
variable {ty t e : TypeId} {pos : String} {af : Array Edge} {x y z : Operand} {A : Nat → Prop} {B : Nat} {L : List Ob} {i : Nat} {γ : Type} {f : Nat → γ → Ob} {cs : List γ} {c : γ}
theorem V_indexAddrPD {k : IntKind} {ix : Nat} (hH : Hp B A w L) (hi : L[i]? = some (obPD f e v cs ix)) (hidx : idx cs (ix : Int) = some c) (ht : P.underlying t = some (.slice e)) (hsz : ∀ w, (Go.sizeOf e).run P w = .ok 1 w)
  (hx : ev E x = some v) (hy : ev E y = some (.int k (ix : Int))) (hn : Nat.blt d n.sz = true)
  (h : ∀ b off bc, w.cell? ⟨b, off, none⟩ = some (.pointer (some ⟨bc, 0, none⟩)) → Hp B A w (f bc c :: L.set i (obPD f e v cs (ix + 1))) → V P n ops Q rest ((d, .pointer (some ⟨b, off, none⟩)) :: E) w) :
  V P n ops Q (⟨some d, .indexAddr t x y, ty, pos, af, none⟩ :: rest) E w := by
 obtain ⟨h0, h1, h2⟩ := idx_some hidx
 rw [Int.toNat_natCast] at h2
 obtain ⟨bc, ps, hp, hs, hH'⟩ := hH.pdOpen hi h2
 refine V_indexAddr (α := Ptr) (x := x) (y := y) hs (show idx ps (ix : Int) = some ⟨bc⟩ by unfold idx; rw [if_pos h0, Int.toNat_natCast]; exact hp) ht hsz hx hy hn ?_
 intro b off he
 exact h b off bc he.ptr hH'
end steps
section
variable {B : Nat} {A : Nat → Prop} {w : World} {L : List Ob} {i b off : Nat} {ix : Int} {α : Type} [GoT α] {e : TypeId} {v : Value} {l r : List α} {x : α}
omit [GoT α] in
theorem idx_setI (h : setI l ix x = some r) : idx r ix = some x := by
 unfold setI at h
 split at h
 case isFalse => cases h
 rename_i hb
 obtain rfl := Option.some.inj h
 unfold idx
 rw [if_pos hb.1, List.getElem?_set_self hb.2]
theorem Hp.elNow (hH : Hp B A w L) (hi : L[i]? = some (obS e v r)) (hloc : Loc v b off ix (GoT.cells α)) (hidx : idx r ix = some x) : El (fun _ => True) w b off x := by
 obtain ⟨h0, h1, h2⟩ := idx_some hidx
 rcases hH.any hi with ⟨a, c, hv, hl, _⟩ | ⟨b', off', cap', cs', hv, hb', hlt', hlc', hcm', hrep', hat'⟩
 ·rw [hl] at h2; simp at h2
 obtain ⟨⟨len, cap, hv2⟩, ho⟩ := hloc
 rw [hv2] at hv
 simp only [Value.slice.injEq, Option.some.injEq, Addr.mk.injEq, and_true] at hv
 obtain ⟨⟨rfl, rfl⟩, _, _⟩ := hv
 obtain ⟨c1, c2, c3, rfl, hl, hr⟩ := hrep'.at h2
 refine ⟨trivial, hlt', c2, hr, ?_⟩
 have := hat'.right.left
 rw [hl] at this
 rw [ho]
 simpa using this
end
section steps
variable {P : Program} {n : Fr} {ops : Array Oper} {Q : Exit → Act → World → Prop} {E : Env} {w : World} {rest : List Oper} {d : Nat} {α : Type} [GoT α] {W : World → Prop} {QA : Act → Prop}
variable {ty t e : TypeId} {pos : String} {af : Array Edge} {x z : Operand} {A : Nat → Prop} {B : Nat} {L : List Ob} {i : Nat} {v : Value} {l r : List α}
theorem VQ_sliceOwnH {k : IntKind} {hi : Int} (hH : Hp B A w L) (hi' : L[i]? = some (obS e v l)) (hr : sliceL l none (some hi) = some r) (ht : P.underlying t = some (.slice e)) (hs : ∀ w, (Go.sizeOf e).run P w = .ok (GoT.cells α) w)
  (hA : ∀ b, w.heap.size ≤ b → A b) (hx : ev E x = some v) (hz : ev E z = some (.int k hi)) (hn : Nat.blt d n.sz = true)
  (h : ∀ v', Hp B A w (L.set i (obS e v' r)) → VQ P n ops W QA rest ((d, v') :: E)) : VQ P n ops W QA (⟨some d, .slice t x none (some z) none, ty, pos, af, none⟩ :: rest) E := by
 unfold sliceL bounds at hr
 simp only [Option.getD_some, Option.getD_none] at hr
 split at hr
 case isFalse => simp at hr
 rename_i hb
 simp only [Option.map_some, Option.some.injEq] at hr
 subst hr
 obtain ⟨h0, h1, h2, h3⟩ := hb
 obtain ⟨m, rfl⟩ : ∃ m : Nat, hi = (m : Int) := ⟨hi.toNat, by omega⟩
 have hml : m ≤ l.length := by omega
 simp only [Int.toNat_natCast, show (0 : Int).toNat = 0 from rfl, List.drop_zero] at h
 obtain ⟨f, hp, hbk, hset⟩ := hH.at hi'
 have hmv : Mv True B A w A w none := .kp (Kp.refl _) hA
 rcases hp with ⟨rfl, rfl, rfl⟩ | ⟨g, cap, cur, cs, rfl, rfl, h4, h5, h6, h7, h8, h9⟩
 ·obtain rfl : m = 0 := by simpa using hml
  refine VQ_y (v := .slice none 0 0) (fun w' _ => Y_sliceLH (sz := GoT.cells α) (v := .slice none 0 0) (hi := ((0 : Nat) : Int)) ⟨none, 0, 0, 0, 0, rfl, rfl, rfl, Nat.le_refl _, Nat.le_refl _, Nat.le_refl _, rfl⟩ ht hs hx hz) rfl rfl hn (h _ ?_)
  exact hset A w none _ [] hmv (fun k hk => by cases hk) (.inl ⟨rfl, rfl, rfl⟩) (fun b hb => by cases hb)
 ·have hlen : (l.take m).length = m := by rw [List.length_take]; omega
  refine VQ_y (v := .slice (some ⟨g, 0, none⟩) m cap) (fun w' _ a hA' => ?_) rfl rfl hn (h _ ?_)
  ·have hb : ¬ cap < m := by omega
   simp [execOp, hA'.eval hx, hA'.eval hz, Instr.sliceAt, Instr.slice, Instr.sliceBounds, Instr.sliceBound, asIntOf, underlying, ht, hs, hb, Addr.add]
  ·refine hset A w none _ [g] hmv (fun k hk => by cases hk) (.inr ⟨g, cap, cur, cs.take (m * GoT.cells α), by rw [hlen], rfl, h4, by omega, h6, h7, repL_take m h8, ?_⟩) (fun b hb => ⟨.inl hb, (hbk b hb).1, (hbk b hb).2.2⟩)
   rw [hlen, ← h9, List.take_take, Nat.min_eq_left (Nat.mul_le_mul_right _ hml)]
end steps
end Go.Gw
