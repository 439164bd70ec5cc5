import Derived.Test.YtiblagcmjobknaaGreatDoorGc
import Derived.Test.YtiblagcmjobknaaGreatDoorPv
namespace Go.Gw
open Go Go.RowKit Go.Pu
set_option linter.unusedSimpArgs false
set_option linter.unusedVariables false
section steps
variable {P : Program} {n : Fr} {E : Env} {w : World} {v : Value}
variable {ty t t2 : TypeId} {pos : String} {af : Array Edge} {x y : Operand} {p q : Int} {k : IntKind} {ρd : Option Nat} {g : Option (Nat × Bool)}
end steps
section slices
variable {α : Type} [GoT α] {A : Nat → Prop} {w : World} {v u : Value} {l r : List α}
theorem zcu : ∀ {l : List α} {cs : List Value} (k : Nat), repL A w cs l → repL A w (cs.drop (k * GoT.cells α)) (l.drop k)
 | l, cs, 0, h => by simpa using h
 | [], cs, k + 1, h => by
  have : cs = [] := h
  subst this
  simp
  rfl
 | x :: l, cs, k + 1, h => by
  obtain ⟨c1, c2, rfl, h1, h2⟩ := h
  have hl := GoT.len h1
  have := zcu k h2
  rw [List.drop_append, List.drop_eq_nil_of_le (by rw [hl, Nat.succ_mul]; omega), List.nil_append, hl, Nat.succ_mul, Nat.add_sub_cancel]
  exact this
theorem zcq : ∀ {l : List α} {cs : List Value} (k : Nat), repL A w cs l → repL A w (cs.take (k * GoT.cells α)) (l.take k)
 | l, cs, 0, h => by simp; rfl
 | [], cs, k + 1, h => by
  have : cs = [] := h
  subst this
  simp
  rfl
 | x :: l, cs, k + 1, h => by
  obtain ⟨c1, c2, rfl, h1, h2⟩ := h
  have hl := GoT.len h1
  refine ⟨c1, c2.take (k * GoT.cells α), ?_, h1, zcq k h2⟩
  rw [List.take_append, List.take_of_length_le (by rw [hl, Nat.succ_mul]; omega), hl, Nat.succ_mul, Nat.add_sub_cancel]
theorem At.dropK {b off : Nat} {cs : List Value} (h : At w b off cs) (k : Nat) : At w b (off + k) (cs.drop k) := by
 intro j x hj
 rw [List.getElem?_drop] at hj
 have := h (k + j) x hj
 rwa [← Nat.add_assoc] at this
theorem At.takeK {b off : Nat} {cs : List Value} (h : At w b off cs) (k : Nat) : At w b off (cs.take k) := by
 intro j x hj
 rw [List.getElem?_take] at hj
 split at hj
 ·exact h j x hj
 ·cases hj
def zht (sz : Nat) (v : Value) (lo hi : Option Int) (u : Value) : Prop :=
 ∃ (a : Option Addr) (len cap l h : Nat), v = .slice a len cap ∧ lo.getD 0 = (l : Int) ∧ hi.getD (len : Int) = (h : Int) ∧ l ≤ h ∧ h ≤ len ∧ len ≤ cap ∧ u = .slice (if cap = l then a else a.map (·.add (l * sz))) (h - l) (cap - l)
theorem zfK {lo hi : Option Int} (hr : zaH l lo hi = some r) (h : Sl A w v l) : ∃ u, Sl A w u r ∧ zht (GoT.cells α) v lo hi u := by
 unfold zaH zdd at hr
 simp only at hr
 split at hr
 case isFalse => simp at hr
 rename_i hb
 simp only [Option.map_some, Option.some.injEq] at hr
 subst hr
 obtain ⟨h0, h1, h2, h3⟩ := hb
 generalize hlo : lo.getD 0 = lz at h0 h1 h2 h3 ⊢
 generalize hhi : hi.getD (l.length : Int) = hz at h0 h1 h2 h3 ⊢
 rcases h with ⟨a, cap, rfl, rfl, h4, h5⟩ | ⟨b, off, cap, cs, rfl, h4, h5, h6, h7, h8, h9⟩
 ·simp only [List.length_nil] at h1 hhi
  have hz0 : hz = 0 := by omega
  have lz0 : lz = 0 := by omega
  subst hz0; subst lz0
  refine ⟨_, .inl ⟨if cap = 0 then a else a.map (·.add (0 * GoT.cells α)), cap, rfl, by simp, h4, ?_⟩, a, 0, cap, 0, 0, rfl, by simpa using hlo, by simpa using hhi, Nat.le_refl _, Nat.le_refl _, Nat.zero_le _, by simp⟩
  split
  ·rename_i hc
   exact fun _ => hc
  ·intro hn
   exact h5 (by cases a with
    | none => rfl
    | some a => simp at hn)
 ·refine ⟨.slice (if cap = lz.toNat then some ⟨b, off, none⟩ else (some (⟨b, off, none⟩ : Addr)).map (·.add (lz.toNat * GoT.cells α))) (hz.toNat - lz.toNat) (cap - lz.toNat), ?_, some ⟨b, off, none⟩, l.length, cap, lz.toNat, hz.toNat, rfl, by omega, by omega, by omega, by omega, h6, rfl⟩
  by_cases he : hz.toNat - lz.toNat = 0
  ·refine .inl ⟨_, cap - lz.toNat, by rw [he], ?_, by omega, ?_⟩
   ·rw [List.drop_eq_nil_iff, List.length_take]
    omega
   ·split <;> simp
  ·have hne : ¬ cap = lz.toNat := by omega
   have hlen : ((l.take hz.toNat).drop lz.toNat).length = hz.toNat - lz.toNat := by
    rw [List.length_drop, List.length_take]; omega
   refine .inr ⟨b, off + lz.toNat * GoT.cells α, cap - lz.toNat, (cs.take (hz.toNat * GoT.cells α)).drop (lz.toNat * GoT.cells α), ?_, h4, h5, by rw [hlen]; omega, by omega, zcu _ (zcq _ h8), (h9.takeK _).dropK _⟩
   rw [if_neg hne, hlen]
   simp [Addr.add]
variable {P : Program} {n : Fr} {E : Env} {ty t e : TypeId} {pos : String} {af : Array Edge} {x y z : Operand} {ρd : Option Nat} {g : Option (Nat × Bool)} {sz : Nat}
theorem zjY {k : IntKind} {hi : Int} (hy : zht sz v none (some hi) u) (ht : P.underlying t = some (.slice e)) (hs : ∀ w, (Go.sizeOf e).run P w = .ok sz w) (hx : ev E x = some v) (hz : ev E z = some (.int k hi)) : Y P n E ⟨ρd, .slice t x none (some z) none, ty, pos, af, g⟩ w u w := by
 intro a hA
 obtain ⟨ad, len, cap, l, h, rfl, h1, h2, h3, h4, h5, rfl⟩ := hy
 simp only [Option.getD_none, Option.getD_some] at h1 h2
 obtain rfl : l = 0 := by omega
 subst h2
 have hb : ¬ cap < h := by omega
 simp [execOp, hA.eval hx, hA.eval hz, Instr.sliceAt, Instr.slice, Instr.sliceBounds, Instr.sliceBound, asIntOf, underlying, ht, hs, hb]
theorem zej {k : IntKind} {lo : Int} (hy : zht sz v (some lo) none u) (ht : P.underlying t = some (.slice e)) (hs : ∀ w, (Go.sizeOf e).run P w = .ok sz w) (hx : ev E x = some v) (hz : ev E y = some (.int k lo)) : Y P n E ⟨ρd, .slice t x (some y) none none, ty, pos, af, g⟩ w u w := by
 intro a hA
 obtain ⟨ad, len, cap, l, h, rfl, h1, h2, h3, h4, h5, rfl⟩ := hy
 simp only [Option.getD_none, Option.getD_some] at h1 h2
 obtain rfl : h = len := by omega
 subst h1
 have hb : ¬ h < l := by omega
 simp [execOp, hA.eval hx, hA.eval hz, Instr.sliceAt, Instr.slice, Instr.sliceBounds, Instr.sliceBound, asIntOf, underlying, ht, hs, hb]
end slices
end Go.Gw
