import Derived.Test.YtiblagcmjobknaaGreatDoorGx
import Derived.RangeFuncRecord
namespace Go.Gw
open Go Go.RowKit Go.Pu
variable {Dw : Prop}
set_option linter.unusedSimpArgs false
set_option linter.unusedVariables false
structure Ob where
 P : List Nat → (Nat → Prop) → World → Prop
 keep : ∀ {f A w A' w'}, P f A w → Ex A w A' w' → (∀ b ∈ f, w'.heap[b]? = w.heap[b]?) → P f A' w'
 lt : ∀ {f A w}, P f A w → ∀ b ∈ f, b < w.heap.size
def Sp (A : Nat → Prop) (w : World) : List Ob → List Nat → Prop
 | [], U => U = []
 | O :: L, U => ∃ f g, U = f ++ g ∧ (∀ b ∈ f, b ∉ g) ∧ O.P f A w ∧ Sp A w L g
theorem Sp.keep {A A' : Nat → Prop} {w w' : World} (he : Ex A w A' w') : ∀ {L : List Ob} {U : List Nat}, Sp A w L U → (∀ b ∈ U, w'.heap[b]? = w.heap[b]?) → Sp A' w' L U
 | [], _, h, _ => h
 | O :: L, U, h, hu => by
  obtain ⟨f, g, rfl, hd, hp, hs⟩ := h
  exact ⟨f, g, rfl, hd, O.keep hp he (fun b hb => hu b (List.mem_append_left _ hb)), hs.keep he (fun b hb => hu b (List.mem_append_right _ hb))⟩
theorem Sp.lt {A : Nat → Prop} {w : World} : ∀ {L : List Ob} {U : List Nat}, Sp A w L U → ∀ b ∈ U, b < w.heap.size
 | [], _, h, b, hb => by rw [Sp] at h; subst h; cases hb
 | O :: L, U, h, b, hb => by
  obtain ⟨f, g, rfl, hd, hp, hs⟩ := h
  rcases List.mem_append.1 hb with h1 | h1
  ·exact O.lt hp b h1
  ·exact hs.lt b h1
theorem Sp.at {A : Nat → Prop} {w : World} : ∀ {L : List Ob} {U : List Nat} {i : Nat} {O : Ob}, Sp A w L U → L[i]? = some O →
  ∃ f, O.P f A w ∧ (∀ b ∈ f, b ∈ U) ∧
   (∀ A1 w1 O' f', Ex A w A1 w1 → (∀ b ∈ U, b ∉ f → w1.heap[b]? = w.heap[b]?) → O'.P f' A1 w1 → (∀ b ∈ f', b ∈ f ∨ b ∉ U) → ∃ U', Sp A1 w1 (L.set i O') U' ∧ ∀ b ∈ U', b ∈ f' ∨ (b ∈ U ∧ b ∉ f)) ∧
   (∀ A1 w1, Ex A w A1 w1 → (∀ b ∈ U, b ∉ f → w1.heap[b]? = w.heap[b]?) → ∃ U', Sp A1 w1 (L.eraseIdx i) U' ∧ ∀ b ∈ U', b ∈ U ∧ b ∉ f)
 | [], _, _, _, _, hi => by simp at hi
 | O :: L, U, 0, O0, h, hi => by
  simp only [List.getElem?_cons_zero, Option.some.injEq] at hi
  subst hi
  obtain ⟨f, g, rfl, hd, hp, hs⟩ := h
  refine ⟨f, hp, fun b hb => List.mem_append_left _ hb, fun A1 w1 O' f' he hk hp' hf => ⟨f' ++ g, ⟨f', g, rfl, fun b hb hg => ?_, hp', hs.keep he fun b hb => hk b (List.mem_append_right _ hb) fun h => hd b h hb⟩, fun b hb => ?_⟩, fun A1 w1 he hk => ⟨g, hs.keep he fun b hb => hk b (List.mem_append_right _ hb) fun h => hd b h hb, fun b hb => ⟨List.mem_append_right _ hb, fun h => hd b h hb⟩⟩⟩
  ·rcases hf b hb with h1 | h1
   ·exact hd b h1 hg
   ·exact h1 (List.mem_append_right _ hg)
  ·rcases List.mem_append.1 hb with h1 | h1
   ·exact .inl h1
   ·exact .inr ⟨List.mem_append_right _ h1, fun h => hd b h h1⟩
 | O :: L, U, i + 1, O0, h, hi => by
  simp only [List.getElem?_cons_succ] at hi
  obtain ⟨f, g, rfl, hd, hp, hs⟩ := h
  obtain ⟨f0, h0, hsub, hset, hers⟩ := hs.at hi
  have hnf : ∀ b ∈ f, b ∉ f0 := fun b hb h => hd b hb (hsub b h)
  refine ⟨f0, h0, fun b hb => List.mem_append_right _ (hsub b hb), fun A1 w1 O' f' he hk hp' hf => ?_, fun A1 w1 he hk => ?_⟩
  ·obtain ⟨U', hU, hin⟩ := hset A1 w1 O' f' he (fun b hb hnb => hk b (List.mem_append_right _ hb) hnb) hp' (fun b hb => (hf b hb).imp id fun h hg => h (List.mem_append_right _ hg))
   refine ⟨f ++ U', ⟨f, U', rfl, fun b hb hu => ?_, O.keep hp he (fun b hb => hk b (List.mem_append_left _ hb) (hnf b hb)), hU⟩, fun b hb => ?_⟩
   ·rcases hin b hu with h1 | h1
    ·rcases hf b h1 with h2 | h2
     ·exact hnf b hb h2
     ·exact h2 (List.mem_append_left _ hb)
    ·exact hd b hb h1.1
   ·rcases List.mem_append.1 hb with h1 | h1
    ·exact .inr ⟨List.mem_append_left _ h1, hnf b h1⟩
    ·rcases hin b h1 with h2 | h2
     ·exact .inl h2
     ·exact .inr ⟨List.mem_append_right _ h2.1, h2.2⟩
  ·obtain ⟨U', hU, hin⟩ := hers A1 w1 he (fun b hb hnb => hk b (List.mem_append_right _ hb) hnb)
   refine ⟨f ++ U', ⟨f, U', rfl, fun b hb hu => hd b hb (hin b hu).1, O.keep hp he (fun b hb => hk b (List.mem_append_left _ hb) (hnf b hb)), hU⟩, fun b hb => ?_⟩
   rcases List.mem_append.1 hb with h1 | h1
   ·exact ⟨List.mem_append_left _ h1, hnf b h1⟩
   ·exact ⟨List.mem_append_right _ (hin b h1).1, (hin b h1).2⟩
theorem Sp.append {A : Nat → Prop} {w : World} : ∀ {L M : List Ob} {U : List Nat}, Sp A w (L ++ M) U ↔ ∃ f g, U = f ++ g ∧ (∀ b ∈ f, b ∉ g) ∧ Sp A w L f ∧ Sp A w M g
 | [], M, U => ⟨fun h => ⟨[], U, rfl, by simp, rfl, h⟩, fun ⟨f, g, hu, _, h1, h2⟩ => by rw [Sp] at h1; subst h1; subst hu; exact h2⟩
 | O :: L, M, U => by
  constructor
  ·rintro ⟨f, g, rfl, hd, hp, hs⟩
   obtain ⟨f2, g2, rfl, hd2, h1, h2⟩ := Sp.append.1 hs
   refine ⟨f ++ f2, g2, by simp, fun b hb hg => ?_, ⟨f, f2, rfl, fun b hb h => hd b hb (List.mem_append_left _ h), hp, h1⟩, h2⟩
   rcases List.mem_append.1 hb with h3 | h3
   ·exact hd b h3 (List.mem_append_right _ hg)
   ·exact hd2 b h3 hg
  ·rintro ⟨_, g2, rfl, hd, ⟨f, f2, rfl, hd2, hp, h1⟩, h2⟩
   refine ⟨f, f2 ++ g2, by simp, fun b hb h => ?_, hp, Sp.append.2 ⟨f2, g2, rfl, fun b hb => hd b (List.mem_append_right _ hb), h1, h2⟩⟩
   rcases List.mem_append.1 h with h3 | h3
   ·exact hd2 b hb h3
   ·exact hd b (List.mem_append_left _ hb) h3
def Hp (B : Nat) (A : Nat → Prop) (w : World) (L : List Ob) : Prop := ∃ U, Sp A w L U ∧ ∀ b ∈ U, B ≤ b ∧ b < w.heap.size ∧ ¬ A b
section
variable {B : Nat} {A A1 : Nat → Prop} {w w1 : World} {L M : List Ob} {O : Ob} {i : Nat}
theorem Hp.nil : Hp B A w [] := ⟨[], rfl, fun _ h => by cases h⟩
theorem Hp.kp (h : Hp B A w L) (hk : Kp Dw w w1) : Hp B A w1 L := by
 obtain ⟨U, hs, hu⟩ := h
 exact ⟨U, hs.keep (.kp hk) fun b hb => hk.block b (hu b hb).2.1, fun b hb => ⟨(hu b hb).1, Nat.lt_of_lt_of_le (hu b hb).2.1 hk.size, (hu b hb).2.2⟩⟩
theorem Hp.at (h : Hp B A w L) (hi : L[i]? = some O) : ∃ f, O.P f A w ∧ (∀ b ∈ f, B ≤ b ∧ b < w.heap.size ∧ ¬ A b) ∧
  ∀ {Dw : Prop} A1 w1 ob O' f', Mv Dw B A w A1 w1 ob → (∀ k, ob = some k → k ∈ f) → O'.P f' A1 w1 → (∀ b ∈ f', (b ∈ f ∨ w.heap.size ≤ b) ∧ B ≤ b ∧ ¬ A1 b) → Hp B A1 w1 (L.set i O') := by
 obtain ⟨U, hs, hu⟩ := h
 obtain ⟨f, hp, hsub, hset, _⟩ := hs.at hi
 refine ⟨f, hp, fun b hb => hu b (hsub b hb), fun A1 w1 ob O' f' m hob hp' hf => ?_⟩
 obtain ⟨U', hU, hin⟩ := hset A1 w1 O' f' m.ex (fun b hb hnb => m.blk b (hu b hb).2.1 fun e => hnb (hob b e.symm)) hp' (fun b hb => by
  rcases (hf b hb).1 with h1 | h1
  ·exact .inl h1
  ·exact .inr fun h2 => by have := (hu b h2).2.1; omega)
 refine ⟨U', hU, fun b hb => ⟨?_, hU.lt b hb, ?_⟩⟩
 ·rcases hin b hb with h1 | h1
  ·exact (hf b h1).2.1
  ·exact (hu b h1.1).1
 ·rcases hin b hb with h1 | h1
  ·exact (hf b h1).2.2
  ·exact fun h2 => (hu b h1.1).2.2 (m.sub b h2)
theorem Hp.new {f' : List Nat} {O' : Ob} (h : Hp B A w L) (m : Mv Dw B A w A1 w1 none) (hB : B ≤ w.heap.size) (hp' : O'.P f' A1 w1) (hf : ∀ b ∈ f', w.heap.size ≤ b ∧ ¬ A1 b) : Hp B A1 w1 (O' :: L) := by
 obtain ⟨U, hs, hu⟩ := h
 refine ⟨f' ++ U, ⟨f', U, rfl, fun b hb h2 => ?_, hp', hs.keep m.ex fun b hb => m.blk b (hu b hb).2.1 (fun e => by cases e)⟩, fun b hb => ?_⟩
 ·have := (hf b hb).1
  have := (hu b h2).2.1
  omega
 ·rcases List.mem_append.1 hb with h1 | h1
  ·exact ⟨Nat.le_trans hB (hf b h1).1, O'.lt hp' b h1, (hf b h1).2⟩
  ·exact ⟨(hu b h1).1, Nat.lt_of_lt_of_le (hu b h1).2.1 m.size, fun h2 => (hu b h1).2.2 (m.sub b h2)⟩
theorem Hp.free {O' : Ob} (h : Hp B A w L) (hp' : O'.P [] A w) : Hp B A w (O' :: L) := by
 obtain ⟨U, hs, hu⟩ := h
 exact ⟨U, ⟨[], U, rfl, by simp, hp', hs⟩, hu⟩
theorem Hp.drop (h : Hp B A w L) (hi : L[i]? = some O) : Hp B A w (L.eraseIdx i) := by
 obtain ⟨U, hs, hu⟩ := h
 obtain ⟨f, hp, hsub, _, hers⟩ := hs.at hi
 obtain ⟨U', hU, hin⟩ := hers A w ⟨Nat.le_refl _, fun _ _ h => ⟨h, rfl⟩⟩ (fun _ _ _ => rfl)
 exact ⟨U', hU, fun b hb => hu b (hin b hb).1⟩
theorem Hp.frz (h : Hp B A w L) (hi : L[i]? = some O) (hA : ∀ b, w.heap.size ≤ b → A b) : ∃ (A1 : Nat → Prop) (f : List Nat), O.P f A w ∧ (∀ b ∈ f, A1 b ∧ b < w.heap.size) ∧ (∀ k, A k → A1 k) ∧ Tr Dw B A w A1 w ∧ Hp B A1 w (L.eraseIdx i) := by
 obtain ⟨U, hs, hu⟩ := h
 obtain ⟨f, hp, hsub, _, hers⟩ := hs.at hi
 refine ⟨fun k => A k ∨ k ∈ f, f, hp, fun b hb => ⟨.inr hb, (hu b (hsub b hb)).2.1⟩, fun _ h => .inl h, ⟨⟨Nat.le_refl _, fun _ _ h => ⟨.inl h, rfl⟩⟩, Bel.refl _ _, fun k hk => hk.imp id fun h => (hu k (hsub k h)).1, fun b hb => .inl (hA b hb)⟩, ?_⟩
 obtain ⟨U', hU, hin⟩ := hers (fun k => A k ∨ k ∈ f) w ⟨Nat.le_refl _, fun _ _ h => ⟨.inl h, rfl⟩⟩ (fun _ _ _ => rfl)
 exact ⟨U', hU, fun b hb => ⟨(hu b (hin b hb).1).1, (hu b (hin b hb).1).2.1, fun h => h.elim (hu b (hin b hb).1).2.2 (hin b hb).2⟩⟩
theorem Hp.perm {L' : List Ob} (h : Hp B A w L) (hp : L.Perm L') : Hp B A w L' := by
 obtain ⟨U, hs, hu⟩ := h
 have key : ∃ U', Sp A w L' U' ∧ ∀ b, b ∈ U' ↔ b ∈ U := by
  clear hu
  induction hp generalizing U with
  | nil => exact ⟨U, hs, fun _ => Iff.rfl⟩
  | cons x _ ih =>
   obtain ⟨f, g, rfl, hd, hp, hs⟩ := hs
   obtain ⟨g', hs', hg⟩ := ih g hs
   exact ⟨f ++ g', ⟨f, g', rfl, fun b hb h => hd b hb ((hg b).1 h), hp, hs'⟩, fun b => by simp [hg]⟩
  | swap x y l =>
   obtain ⟨f, _, rfl, hd, hp, ⟨f2, g, rfl, hd2, hp2, hs⟩⟩ := hs
   refine ⟨f2 ++ (f ++ g), ⟨f2, f ++ g, rfl, fun b hb h => ?_, hp2, ⟨f, g, rfl, fun b hb h => hd b hb (List.mem_append_right _ h), hp, hs⟩⟩, fun b => by simp; grind⟩
   rcases List.mem_append.1 h with h1 | h1
   ·exact hd b h1 (List.mem_append_left _ hb)
   ·exact hd2 b hb h1
  | trans _ _ ih1 ih2 =>
   obtain ⟨U1, h1, e1⟩ := ih1 U hs
   obtain ⟨U2, h2, e2⟩ := ih2 U1 h1
   exact ⟨U2, h2, fun b => (e2 b).trans (e1 b)⟩
 obtain ⟨U', hs', he⟩ := key
 exact ⟨U', hs', fun b hb => hu b ((he b).1 hb)⟩
theorem Hp.front (h : Hp B A w L) (hi : L[i]? = some O) : Hp B A w (O :: L.eraseIdx i) := by
 refine h.perm ?_
 clear h
 induction L generalizing i with
 | nil => simp at hi
 | cons x L ih =>
  cases i with
  | zero => simp at hi; subst hi; exact .refl _
  | succ i =>
   simp at hi
   exact ((ih hi).cons x).trans (.swap _ _ _)
end
def obO (b : Nat) (o : Obj) : Ob where
 P f _ w := f = [b] ∧ w.heap[b]? = some o
 keep h _ hb := ⟨h.1, by rw [hb b (by simp [h.1])]; exact h.2⟩
 lt h b' hb' := by
  obtain ⟨rfl, h⟩ := h
  simp at hb'
  subst hb'
  exact (Array.getElem?_eq_some_iff.1 h).1
abbrev obC (b : Nat) (cs : List Value) (t : TypeId) : Ob := obO b (.cells cs.toArray t (0, 0))
def OwP {α : Type} [GoT α] (e : TypeId) (A : Nat → Prop) (w : World) (v : Value) (l : List α) (f : List Nat) : Prop :=
 (v = .slice none 0 0 ∧ l = [] ∧ f = []) ∨
 ∃ g cap cur cs, v = .slice (some ⟨g, 0, none⟩) l.length cap ∧ f = [g] ∧ w.heap[g]? = some (.cells cur e (0, 0)) ∧ l.length ≤ cap ∧ cap ≤ maxLen ∧ cur.size = cap * GoT.cells α ∧ repL A w cs l ∧ cur.toList.take (l.length * GoT.cells α) = cs
def obS {α : Type} [GoT α] (e : TypeId) (v : Value) (l : List α) : Ob where
 P f A w := OwP e A w v l f
 keep h he hb := by
  rcases h with h | ⟨g, cap, cur, cs, rfl, rfl, h4, h5, h6, h7, h8, h9⟩
  ·exact .inl h
  ·exact .inr ⟨g, cap, cur, cs, rfl, rfl, by rw [hb g (by simp)]; exact h4, h5, h6, h7, h8.keep he, h9⟩
 lt h b' hb' := by
  rcases h with ⟨_, _, rfl⟩ | ⟨g, cap, cur, cs, rfl, rfl, h4, h5⟩
  ·cases hb'
  ·simp at hb'; subst hb'; exact (Array.getElem?_eq_some_iff.1 h4).1
def obF (p : (Nat → Prop) → World → Prop) (hk : ∀ {A w A' w'}, p A w → Ex A w A' w' → p A' w') : Ob where
 P f A w := f = [] ∧ p A w
 keep h he _ := ⟨h.1, hk h.2 he⟩
 lt h b hb := by rw [h.1] at hb; cases hb
abbrev obR {α : Type} [GoT α] (v : Value) (l : List α) : Ob := obF (fun A w => Sl A w v l) (fun h he => h.keep he)
def obE {ι : Type} (F : ι → List Ob) : Ob where
 P f A w := ∃ i, Sp A w (F i) f
 keep h he hb := let ⟨i, h⟩ := h; ⟨i, h.keep he hb⟩
 lt h := let ⟨_, h⟩ := h; h.lt
section
variable {B : Nat} {A A1 : Nat → Prop} {w w1 : World} {L M : List Ob} {O : Ob} {i : Nat} {α : Type} [GoT α] {e : TypeId} {v : Value} {l : List α}
theorem Hp.pack {ι : Type} {F : ι → List Ob} (j : ι) (h : Hp B A w (F j ++ L)) : Hp B A w (obE F :: L) := by
 obtain ⟨U, hs, hu⟩ := h
 obtain ⟨f, g, rfl, hd, h1, h2⟩ := Sp.append.1 hs
 exact ⟨_, ⟨f, g, rfl, hd, ⟨j, h1⟩, h2⟩, hu⟩
theorem Hp.open {ι : Type} {F : ι → List Ob} (h : Hp B A w (obE F :: L)) : ∃ j, Hp B A w (F j ++ L) := by
 obtain ⟨U, ⟨f, g, rfl, hd, ⟨j, h1⟩, h2⟩, hu⟩ := h
 exact ⟨j, _, Sp.append.2 ⟨f, g, rfl, hd, h1, h2⟩, hu⟩
theorem OwP.ow {f : List Nat} (h : OwP e A w v l f) (hb : ∀ b ∈ f, B ≤ b ∧ b < w.heap.size ∧ ¬ A b) : Ow e B A w v l := by
 rcases h with ⟨h1, h2, _⟩ | ⟨g, cap, cur, cs, rfl, rfl, h⟩
 ·exact .inl ⟨h1, h2⟩
 ·exact .inr ⟨g, cap, cur, cs, rfl, (hb g (by simp)).1, (hb g (by simp)).2.2, h⟩
theorem OwP.fp {f : List Nat} (h : OwP e A w v l f) : f = v.ownBlock.toList := by
 rcases h with ⟨rfl, _, rfl⟩ | ⟨g, cap, cur, cs, rfl, rfl, _⟩ <;> simp [Value.ownBlock]
theorem Ow.owp (h : Ow e B A w v l) : OwP e A w v l v.ownBlock.toList := by
 rcases h with ⟨rfl, rfl⟩ | ⟨g, cap, cur, cs, rfl, _, _, h⟩
 ·exact .inl ⟨rfl, rfl, by simp [Value.ownBlock]⟩
 ·exact .inr ⟨g, cap, cur, cs, rfl, by simp [Value.ownBlock], h⟩
theorem Ow.off (h : Ow e B A w v l) : ∀ b ∈ v.ownBlock.toList, B ≤ b ∧ ¬ A b := by
 intro b hb
 rcases h with ⟨rfl, rfl⟩ | ⟨g, cap, cur, cs, rfl, h1, h2, _⟩
 ·simp [Value.ownBlock] at hb
 ·simp [Value.ownBlock] at hb; subst hb; exact ⟨h1, h2⟩
theorem Hp.any (h : Hp B A w L) (hi : L[i]? = some (obS e v l)) : Sl (fun _ => True) w v l := by
 obtain ⟨f, hp, hb, _⟩ := h.at hi
 exact (OwP.ow hp hb).any
theorem Hp.form (h : Hp B A w L) (hi : L[i]? = some (obS e v l)) : ∃ a cap, v = .slice a l.length cap ∧ l.length ≤ maxLen := (h.any hi).form
theorem Hp.le (h : Hp B A w L) (hi : L[i]? = some (obS e v l)) : l.length ≤ maxLen := let ⟨_, _, _, h⟩ := h.form hi; h
theorem Hp.addNil (h : Hp B A w L) : Hp B A w (obS (α := α) e (.slice none 0 0) [] :: L) := h.free (O' := obS e (.slice none 0 0) ([] : List α)) (.inl ⟨rfl, rfl, rfl⟩)
theorem Hp.freeze (h : Hp B A w L) (hi : L[i]? = some (obS e v l)) (hA : ∀ b, w.heap.size ≤ b → A b) : ∃ A1 : Nat → Prop, Tr Dw B A w A1 w ∧ Sl A1 w v l ∧ Hp B A1 w (L.eraseIdx i) := by
 obtain ⟨A1, f, hp, hf, hs, ht, hh⟩ := h.frz hi hA
 obtain ⟨f2, hp2, hb2, _⟩ := h.at hi
 have e1 := OwP.fp hp
 refine ⟨A1, ht, (OwP.ow hp2 hb2).sl hs fun g hg => (hf g (by rw [e1, hg]; simp)).1, hh⟩
theorem Hp.cells {b : Nat} {cs : List Value} {t : TypeId} (h : Hp B A w L) (hi : L[i]? = some (obC b cs t)) : At w b 0 cs ∧ w.heap[b]? = some (.cells cs.toArray t (0, 0)) ∧ B ≤ b ∧ ¬ A b := by
 obtain ⟨f, ⟨rfl, hp⟩, hb, _⟩ := h.at hi
 refine ⟨fun j u hj => ?_, hp, (hb b (by simp)).1, (hb b (by simp)).2.2⟩
 simp only [World.cell?, hp, Nat.zero_add]
 simpa using hj
theorem Hp.cell {b j : Nat} {cs : List Value} {t : TypeId} {u : Value} (h : Hp B A w L) (hi : L[i]? = some (obC b cs t)) (hj : cs[j]? = some u) : w.cell? ⟨b, j, none⟩ = some u := by
 have := (h.cells hi).1 j u hj
 rwa [Nat.zero_add] at this
theorem Hp.part {b off n : Nat} {cs ds : List Value} {t : TypeId} (h : Hp B A w L) (hi : L[i]? = some (obC b cs t)) (hd : (cs.drop off).take n = ds) : At w b off ds := by
 intro j u hj
 have := (h.cells hi).1 (off + j) u (by
  subst hd
  rw [List.getElem?_take] at hj
  split at hj
  ·rwa [List.getElem?_drop] at hj
  ·cases hj)
 rwa [Nat.zero_add] at this
theorem Hp.el {b : Nat} {cs : List Value} {t : TypeId} {x : α} (h : Hp B A w L) (hi : L[i]? = some (obC b cs t)) (hr : GoT.rep (fun _ => True) w cs x) : El (fun _ => True) w b 0 x := by
 obtain ⟨h1, h2, _⟩ := h.cells hi
 exact ⟨trivial, (Array.getElem?_eq_some_iff.1 h2).1, cs, hr, h1⟩
end
section steps
variable {P : Program} {n : Fr} {ops : Array Oper} {Q : Exit → Act → World → Prop} {E : Env} {w : World} {rest : List Oper} {v u : Value} {d : Nat}
variable {ty t e : TypeId} {pos : String} {af : Array Edge} {x y z : Operand} {A : Nat → Prop} {α : Type} [GoT α] {B : Nat} {L : List Ob} {i : Nat}
theorem Zv {l m r : List α} {lim bytes : Nat} {ti : TypeInfo} {zv : Value} (hH : Hp B A w L) (hi : L[i]? = some (obS e v l)) (hm : Sl A w u m) (hr : zt lim l m = some r) (ht : P.underlying t = some (.slice e)) (hti : P.info? e = some ti) (hz : ti.zero = some zv)
  (hsize : ti.size = GoT.cells α) (hby : ti.bytes = bytes) (hzs : zv.cells.size = GoT.cells α) (hsz : GoT.cells α ≠ 0) (hlim : lim * bytes ≤ 140737488355328) (hlm : lim ≤ maxLen) (hB : B ≤ w.heap.size) (hA : ∀ b, w.heap.size ≤ b → A b)
  (hx : ev E x = some v) (hy : ev E y = some u) (hn : Nat.blt d n.sz = true)
  (h : ∀ v' w1 A1, Hp B A1 w1 (L.set i (obS e v' r)) → Tr Dw B A w A1 w1 → V P n ops Q rest ((d, v') :: E) w1) :
  V P n ops Q (⟨some d, .call ⟨.builtin .append, #[x, y], #[t, t]⟩, ty, pos, af, none⟩ :: rest) E w := by
 obtain ⟨f, hp, hb, hset⟩ := hH.at hi
 have hf := OwP.fp hp
 refine zhT (OwP.ow hp hb) hm hr ht hti hz hsize hby hzs hsz hlim hlm hB hA hx hy hn fun v' w1 A1 ho mv hpr => h v' w1 A1 (hset A1 w1 v.ownBlock _ _ mv (fun k hk => by rw [hf, hk]; simp) ho.owp fun b hb => ⟨?_, ho.off b hb⟩) (mv.tr hB)
 have hb' : v'.ownBlock = some b := by simpa using hb
 rw [hf]
 rcases hpr b hb' with h1 | h1
 ·exact .inl (by rw [h1]; simp)
 ·exact .inr h1
theorem jl {zz : α} {k : Int} {kd kc : IntKind} {r : List α} {lim bytes : Nat} {ti : TypeInfo} {zv : Value} (hH : Hp B A w L) (hr : QN lim k zz = some r) (hzr : ∀ (A : Nat → Prop) (w : World), GoT.rep A w zv.cells.toList zz) (ht : P.underlying t = some (.slice e)) (hti : P.info? e = some ti) (hz : ti.zero = some zv)
  (hsize : ti.size = GoT.cells α) (hby : ti.bytes = bytes) (hlim : bytes * lim ≤ 281474976710656) (hlm : lim ≤ maxLen) (hB : B ≤ w.heap.size) (hA : ∀ b, w.heap.size ≤ b → A b)
  (hx : ev E x = some (.int kd k)) (hy : ev E y = some (.int kc k)) (hn : Nat.blt d n.sz = true)
  (h : ∀ v w1 A1, Hp B A1 w1 (obS e v r :: L) → Tr Dw B A w A1 w1 → V P n ops Q rest ((d, v) :: E) w1) :
  V P n ops Q (⟨some d, .makeSlice t x y, ty, pos, af, none⟩ :: rest) E w :=
 zlE hr hzr ht hti hz hsize hby hlim hlm hB hA hx hy hn fun v w1 A1 ho mv hpr => h v w1 A1 (hH.new mv hB ho.owp fun b hb => ⟨hpr b (by simpa using hb), (ho.off b hb).2⟩) (mv.tr hB)
theorem ziw {l : List α} {len : Nat} {parts : Array (Nat × Operand)} {zv : Value} {vs : List Value} {cells : Array Value} (hH : Hp B A w L) (ht : P.underlying t = some (.slice e)) (hs : ∀ w, (Go.sizeOf e).run P w = .ok (GoT.cells α) w) (hz : ∀ w, (zeroValue e).run P w = .ok zv w)
  (hv : evs E (parts.toList.map (·.2)) = some vs)
  (hf : Instr.fill (fun i => some (i * GoT.cells α, GoT.cells α)) ((Array.range (len * GoT.cells α)).map (zv.cells[· % zv.cells.size]!)) ((parts.toList.map (·.1)).zip vs) = some cells)
  (h0 : len * GoT.cells α ≠ 0) (hle : len * GoT.cells α ≤ 2 ^ 24) (hB : B ≤ w.heap.size) (hA : ∀ b, w.heap.size ≤ b → A b) (hr : repL A w cells.toList l) (hlen : l.length = len) (hn : Nat.blt d n.sz = true)
  (h : ∀ v w1 A1, Hp B A1 w1 (obS e v l :: L) → Tr Dw B A w A1 w1 → V P n ops Q rest ((d, v) :: E) w1) :
  V P n ops Q (⟨some d, .buildSlice t len parts, ty, pos, af, none⟩ :: rest) E w :=
 zjB ht hs hz hv hf h0 hle hB hA hr hlen hn fun v w1 A1 ho mv hpr => h v w1 A1 (hH.new mv hB ho.owp fun b hb => ⟨hpr b (by simpa using hb), (ho.off b hb).2⟩) (mv.tr hB)
theorem ji (hH : Hp B A w L) (ht : P.underlying t = some (.slice e)) (hs : ∀ w, (Go.sizeOf e).run P w = .ok (GoT.cells α) w) (hB : B ≤ w.heap.size) (hA : ∀ b, w.heap.size ≤ b → A b) (hn : Nat.blt d n.sz = true)
  (h : ∀ v w1 A1, Hp B A1 w1 (obS (α := α) e v [] :: L) → Tr Dw B A w A1 w1 → V P n ops Q rest ((d, v) :: E) w1) :
  V P n ops Q (⟨some d, .buildSlice t 0 #[], ty, pos, af, none⟩ :: rest) E w :=
 ziv ht hs hB hA hn fun v w1 A1 ho mv hpr => h v w1 A1 (hH.new mv hB ho.owp fun b hb => ⟨hpr b (by simpa using hb), (ho.off b hb).2⟩) (mv.tr hB)
theorem ZQ {l : List α} {k : IntKind} {ix : Int} {el : α} (hH : Hp B A w L) (hi : L[i]? = some (obS e v l)) (hidx : idx l ix = some el) (ht : P.underlying t = some (.slice e)) (hsz : ∀ w, (Go.sizeOf e).run P w = .ok (GoT.cells α) w)
  (hx : ev E x = some v) (hy : ev E y = some (.int k ix)) (hn : Nat.blt d n.sz = true) (h : ∀ b off, El (fun _ => True) w b off el → Loc v b off ix (GoT.cells α) → V P n ops Q rest ((d, .pointer (some ⟨b, off, none⟩)) :: E) w) :
  V P n ops Q (⟨some d, .indexAddr t x y, ty, pos, af, none⟩ :: rest) E w := by
 obtain ⟨f, hp, hb, _⟩ := hH.at hi
 exact zhN (OwP.ow hp hb) hidx ht hsz hx hy hn h
theorem Zd {W : World → Prop} {QA : Act → Prop} {l : List α} {k : IntKind} {ix : Int} {el : α} (hH : Hp B A w L) (hi : L[i]? = some (obS e v l)) (hidx : idx l ix = some el) (ht : P.underlying t = some (.slice e)) (hsz : ∀ w, (Go.sizeOf e).run P w = .ok (GoT.cells α) w)
  (hx : ev E x = some v) (hy : ev E y = some (.int k ix)) (hn : Nat.blt d n.sz = true) (h : ∀ b off, El (fun _ => True) w b off el → Loc v b off ix (GoT.cells α) → VQ P n ops W QA rest ((d, .pointer (some ⟨b, off, none⟩)) :: E)) :
  VQ P n ops W QA (⟨some d, .indexAddr t x y, ty, pos, af, none⟩ :: rest) E := by
 obtain ⟨f, hp, hb, _⟩ := hH.at hi
 exact zgX (OwP.ow hp hb) hidx ht hsz hx hy hn h
theorem jI {l r : List α} {ix : Int} {b off sz : Nat} {x' : α} {nv : Value} (hH : Hp B A w L) (hi : L[i]? = some (obS e v l)) (hloc : Loc v b off ix (GoT.cells α)) (hr : setI l ix x' = some r) (hrep : GoT.rep A w nv.cells.toList x') (hs : ∀ w, (Go.sizeOf t).run P w = .ok sz w) (hsz : sz = GoT.cells α) (hB : B ≤ w.heap.size) (hA : ∀ b, w.heap.size ≤ b → A b)
  (hx : ev E x = some (.pointer (some ⟨b, off, none⟩))) (hy : ev E y = some nv)
  (h : ∀ w1, Hp B A w1 (L.set i (obS e v r)) → Tr Dw B A w A w1 → V P n ops Q rest E w1) : V P n ops Q (⟨none, .store t x y, ty, pos, af, none⟩ :: rest) E w := by
 obtain ⟨f, hp, hb, hset⟩ := hH.at hi
 have hf := OwP.fp hp
 exact zky (OwP.ow hp hb) hloc hr hrep hs hsz hA hx hy fun w1 ho mv => h w1 (hset A w1 v.ownBlock _ _ mv (fun k hk => by rw [hf, hk]; simp) ho.owp fun b hb => ⟨.inl (by rw [hf]; exact hb), ho.off b hb⟩) (mv.tr hB)
theorem zcz {l r : List α} {ix : Int} {b off sz foff : Nat} {el x' : α} {nv : Value} (hH : Hp B A w L) (hi : L[i]? = some (obS e v l)) (hloc : Loc v b off ix (GoT.cells α)) (hidx : idx l ix = some el) (hr : setI l ix x' = some r)
  (hrep : ∀ c1, GoT.rep A w c1 el → GoT.rep A w (c1.take foff ++ nv.cells.toList ++ c1.drop (foff + sz)) x') (hs : ∀ w, (Go.sizeOf t).run P w = .ok sz w) (hsz : nv.cells.size = sz) (hone : ∀ u ∈ nv.cells.toList, u.oneCell' = true) (hfit : foff + sz ≤ GoT.cells α) (hB : B ≤ w.heap.size) (hA : ∀ b, w.heap.size ≤ b → A b)
  (hx : ev E x = some (.pointer (some ⟨b, off + foff, none⟩))) (hy : ev E y = some nv)
  (h : ∀ w1, Hp B A w1 (L.set i (obS e v r)) → Tr Dw B A w A w1 → V P n ops Q rest E w1) : V P n ops Q (⟨none, .store t x y, ty, pos, af, none⟩ :: rest) E w := by
 obtain ⟨f, hp, hb, hset⟩ := hH.at hi
 have hf := OwP.fp hp
 exact zjM (OwP.ow hp hb) hloc hidx hr hrep hs hsz hone hfit hA hx hy fun w1 ho mv => h w1 (hset A w1 v.ownBlock _ _ mv (fun k hk => by rw [hf, hk]; simp) ho.owp fun b hb => ⟨.inl (by rw [hf]; exact hb), ho.off b hb⟩) (mv.tr hB)
theorem jN (B : Nat) {w : World} (o : Obj) (hA : ∀ b, w.heap.size ≤ b → A b) : Mv Dw B A w (fun b => A b ∧ b ≠ w.heap.size) (w.alloc o) none := by
 have hk := Kp.alloc (Dw := Dw) w o
 exact ⟨hk.os, hk.tape, hk.output, hk.size, hk.dr, fun k h _ => hk.block k h, (fun k h => by cases h), fun k h => h.1, fun k hk ha => ⟨ha, by omega⟩, fun b hb => ⟨hA b (Nat.le_trans hk.size hb), by
   have : w.heap.size < (w.alloc o).heap.size := (Array.getElem?_eq_some_iff.1 (heap_alloc_new w o)).1
   omega⟩⟩
theorem Hp.alloc {w : World} (o : Obj) (hH : Hp B A w L) (hB : B ≤ w.heap.size) (hA : ∀ b, w.heap.size ≤ b → A b) : Hp B (fun b => A b ∧ b ≠ w.heap.size) (w.alloc o) (obO w.heap.size o :: L) :=
 hH.new (jN (Dw := True) B o hA) hB ⟨rfl, heap_alloc_new w o⟩ fun b hb => by simp at hb; subst hb; exact ⟨Nat.le_refl _, fun h => h.2 rfl⟩
theorem zhP (hH : Hp B A w L) (hv : ev E y = some v) (hB : B ≤ w.heap.size) (hA : ∀ b, w.heap.size ≤ b → A b) (hn : Nat.blt d n.sz = true)
  (h : ∀ b w1 A1, Hp B A1 w1 (obC b v.cells.toList t :: L) → Tr Dw B A w A1 w1 → V P n ops Q rest ((d, .pointer (some ⟨b, 0, none⟩)) :: E) w1) :
  V P n ops Q (⟨some d, .box t y, ty, pos, af, none⟩ :: rest) E w :=
 V_y (w' := w.alloc (.cells v.cells t)) (v := .pointer (some ⟨w.heap.size, 0, none⟩)) (fun a hA => by simp only [execOp, hA.eval hv, Instr.box]; simp [newVar, newRow]) rfl rfl hn (h _ _ _ (by simpa using hH.alloc (.cells v.cells t) hB hA) ((jN B _ hA).tr hB))
theorem Jj {zv : Value} (hH : Hp B A w L) (hz : ∀ w, (zeroValue t).run P w = .ok zv w) (hB : B ≤ w.heap.size) (hA : ∀ b, w.heap.size ≤ b → A b) (hn : Nat.blt d n.sz = true)
  (h : ∀ b w1 A1, Hp B A1 w1 (obC b zv.cells.toList t :: L) → Tr Dw B A w A1 w1 → V P n ops Q rest ((d, .pointer (some ⟨b, 0, none⟩)) :: E) w1) :
  V P n ops Q (⟨some d, .alloc t, ty, pos, af, none⟩ :: rest) E w :=
 V_y (w' := w.alloc (.cells zv.cells t)) (v := .pointer (some ⟨w.heap.size, 0, none⟩)) (fun a hA => by simp only [execOp, Instr.alloc]; simp [hz, newVar, newRow]) rfl rfl hn (h _ _ _ (by simpa using hH.alloc (.cells zv.cells t) hB hA) ((jN B _ hA).tr hB))
theorem ZG {b off sz : Nat} {cs ds : List Value} {tc : TypeId} {nv : Value} (hH : Hp B A w L) (hi : L[i]? = some (obC b cs tc)) (hs : ∀ w, (Go.sizeOf t).run P w = .ok sz w) (hsz : nv.cells.size = sz) (hfit : off + sz ≤ cs.length) (hone : ∀ u ∈ nv.cells.toList, u.oneCell' = true)
  (hds : cs.take off ++ nv.cells.toList ++ cs.drop (off + sz) = ds) (hB : B ≤ w.heap.size) (hA : ∀ b, w.heap.size ≤ b → A b)
  (hx : ev E x = some (.pointer (some ⟨b, off, none⟩))) (hy : ev E y = some nv)
  (h : ∀ w1, Hp B A w1 (L.set i (obC b ds tc)) → Tr Dw B A w A w1 → V P n ops Q rest E w1) : V P n ops Q (⟨none, .store t x y, ty, pos, af, none⟩ :: rest) E w := by
 obtain ⟨f, ⟨rfl, hp⟩, hb, hset⟩ := hH.at hi
 have hcl : nv.cells.toList.length = sz := by simpa using hsz
 have hst := run_storeCells_at P b off tc nv.cells.toList 0 cs.toArray w hp (by simp; omega) hone
 rw [Nat.add_zero] at hst
 have hrow : ((cs.toArray.toList.take off ++ nv.cells.toList ++ cs.toArray.toList.drop (off + nv.cells.toList.length))).toArray = ds.toArray := by
  rw [← hds, hcl]
 rw [hrow] at hst
 have hmv : Mv Dw B A w A (w.setRow b ds.toArray) (some b) :=
  ⟨rfl, rfl, rfl, by simp, fun _ => Nat.le_refl _, fun k hk hne => setRow_other w b k _ (fun e => hne (by rw [e])), fun k hk => by cases hk; exact ⟨(hb b (by simp)).1, (hb b (by simp)).2.2⟩, fun _ h => h, fun _ _ h => h, fun b' hb' => hA b' (by simpa using hb')⟩
 refine V_s (w' := w.setRow b ds.toArray) (fun a hA' => ?_) rfl rfl (h _ (hset A _ (some b) _ _ hmv (fun k hk => by cases hk; simp) ⟨rfl, setRow_heap w b cs.toArray _ tc _ hp⟩ fun b' hb' => ⟨.inl hb', (hb b' hb').1, (hb b' hb').2.2⟩) (hmv.tr hB))
 simp only [execOp, hA'.eval hx, hA'.eval hy, Instr.storeAt, Instr.sureAddr]
 simp [storeVar, hs, hsz, hst]
end steps
end Go.Gw
