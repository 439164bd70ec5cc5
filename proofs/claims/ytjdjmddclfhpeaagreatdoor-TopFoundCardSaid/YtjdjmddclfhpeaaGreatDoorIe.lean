import Derived.Test.YtjdjmddclfhpeaaGreatDoorIa
namespace Go.Gw
open Go Go.RowKit Go.Pu
variable {Dw : Prop}
set_option linter.unusedSimpArgs false
set_option linter.unusedVariables false
section
variable {B : Nat} {A : Nat → Prop} {w : World} {L : List Ob} {α : Type} [GoT α]
theorem Hp.arrOf {b : Nat} {t : TypeId} {cs : List Value} {l : List α} (h : Hp B A w (obC b cs t :: L)) (hr : repL A w cs l) (hm : l.length ≤ maxLen) : Hp B A w (obS (α := α) t (.slice (some ⟨b, 0, none⟩) l.length l.length) l :: L) := by
 obtain ⟨U, ⟨f, g, rfl, hd, ⟨rfl, h0⟩, hs⟩, hb⟩ := h
 exact ⟨_, ⟨[b], g, rfl, hd, .inr ⟨b, l.length, cs.toArray, cs, rfl, rfl, h0, Nat.le_refl _, hm, by simpa using hr.len, hr, by rw [← hr.len]; simp⟩, hs⟩, hb⟩
end
section
variable {P : Program} {n : Fr} {ops : Array Oper} {Q : Exit → Act → World → Prop} {E : Env} {w : World} {rest : List Oper} {d : Nat}
variable {ty t e e2 : TypeId} {pos : String} {af : Array Edge} {x y z : Operand} {A : Nat → Prop} {α : Type} [GoT α] {B : Nat} {L : List Ob} {i : Nat}
theorem V_indexAddrArr {l : List α} {k : IntKind} {ix : Int} {el : α} {b m : Nat} (hH : Hp B A w L) (hi : L[i]? = some (obS e (.slice (some ⟨b, 0, none⟩) m m) l)) (hidx : idx l ix = some el) (ht : P.underlying t = some (.array m e2)) (hsz : ∀ w, (Go.sizeOf e2).run P w = .ok (GoT.cells α) w)
  (hx : ev E x = some (.pointer (some ⟨b, 0, none⟩))) (hy : ev E y = some (.int k ix)) (hn : Nat.blt d n.sz = true) (h : ∀ b' off, El (fun _ => True) w b' off el → Loc (.slice (some ⟨b, 0, none⟩) m m) b' off ix (GoT.cells α) → V P n ops Q rest ((d, .pointer (some ⟨b', off, none⟩)) :: E) w) :
  V P n ops Q (⟨some d, .indexAddr t x y, ty, pos, af, none⟩ :: rest) E w := by
 obtain ⟨f, hp, hb, _⟩ := hH.at hi
 have ho := OwP.ow hp hb
 obtain ⟨h0, h1, h2⟩ := idx_some hidx
 rcases ho.any with ⟨a, c, hv, hl, _⟩ | ⟨b', off', cap', cs', hv, hb', hlt', hlc', hcm', hrep', hat'⟩
 ·rw [hl] at h2; simp at h2
 simp only [Value.slice.injEq, Option.some.injEq, Addr.mk.injEq, and_true] at hv
 obtain ⟨⟨rfl, rfl⟩, rfl, _⟩ := hv
 have hadd : Y P n E ⟨some d, .indexAddr t x y, ty, pos, af, none⟩ w (.pointer (some ⟨b, 0 + ix.toNat * GoT.cells α, none⟩)) w := fun a hA => by
  simp only [execOp, hA.eval hx, hA.eval hy, Instr.indexAt, asIntOf, Instr.sureAddr]
  simp [underlying, ht, hsz, h0, h1, addr_add]
 obtain ⟨c1, c2, c3, rfl, hl, hr⟩ := hrep'.at h2
 refine V_y hadd rfl rfl hn (h b (0 + ix.toNat * GoT.cells α) ⟨trivial, hlt', c2, hr, ?_⟩ ⟨⟨_, _, rfl⟩, by rw [Nat.zero_add]⟩)
 rw [← hl]
 exact hat'.right.left
theorem VQ_indexAddrArr {W : World → Prop} {QA : Act → Prop} {l : List α} {k : IntKind} {ix : Int} {el : α} {b m : Nat} (hH : Hp B A w L) (hi : L[i]? = some (obS e (.slice (some ⟨b, 0, none⟩) m m) l)) (hidx : idx l ix = some el) (ht : P.underlying t = some (.array m e2)) (hsz : ∀ w, (Go.sizeOf e2).run P w = .ok (GoT.cells α) w)
  (hx : ev E x = some (.pointer (some ⟨b, 0, none⟩))) (hy : ev E y = some (.int k ix)) (hn : Nat.blt d n.sz = true) (h : ∀ b' off, El (fun _ => True) w b' off el → Loc (.slice (some ⟨b, 0, none⟩) m m) b' off ix (GoT.cells α) → VQ P n ops W QA rest ((d, .pointer (some ⟨b', off, none⟩)) :: E)) :
  VQ P n ops W QA (⟨some d, .indexAddr t x y, ty, pos, af, none⟩ :: rest) E := by
 obtain ⟨f, hp, hb, _⟩ := hH.at hi
 have ho := OwP.ow hp hb
 obtain ⟨h0, h1, h2⟩ := idx_some hidx
 rcases ho.any with ⟨a, c, hv, hl, _⟩ | ⟨b', off', cap', cs', hv, hb', hlt', hlc', hcm', hrep', hat'⟩
 ·rw [hl] at h2; simp at h2
 simp only [Value.slice.injEq, Option.some.injEq, Addr.mk.injEq, and_true] at hv
 obtain ⟨⟨rfl, rfl⟩, rfl, _⟩ := hv
 have hadd : ∀ w, Y P n E ⟨some d, .indexAddr t x y, ty, pos, af, none⟩ w (.pointer (some ⟨b, 0 + ix.toNat * GoT.cells α, none⟩)) w := fun w a hA => by
  simp only [execOp, hA.eval hx, hA.eval hy, Instr.indexAt, asIntOf, Instr.sureAddr]
  simp [underlying, ht, hsz, h0, h1, addr_add]
 obtain ⟨c1, c2, c3, rfl, hl, hr⟩ := hrep'.at h2
 refine VQ_y (fun w' _ => hadd w') rfl rfl hn (h b (0 + ix.toNat * GoT.cells α) ⟨trivial, hlt', c2, hr, ?_⟩ ⟨⟨_, _, rfl⟩, by rw [Nat.zero_add]⟩)
 rw [← hl]
 exact hat'.right.left
theorem Sl.one {l : List α} {v : Value} {A : Nat → Prop} {w : World} (h : Sl A w v l) : v.cells.toList = [v] := by
 obtain ⟨a, c, rfl, _⟩ := h.form
 rfl
end
end Go.Gw
