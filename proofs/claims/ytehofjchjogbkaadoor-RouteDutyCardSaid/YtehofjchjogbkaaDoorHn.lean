/-
  Two calls on one object of a slice of pointers, in a drawn region: all else is held as it was.
-/
import Derived.Test.YtehofjchjogbkaaDoorGt
namespace Go.Gw
open Go Go.RowKit Go.Pu
variable {Dw : Prop}
set_option linter.unusedSimpArgs false
set_option linter.unusedVariables false

/-- the objects L on the blocks U, which are as in w0 -/
def obFix (U : List Nat) (w0 : World) (L : List Ob) : Ob where
  P f A w := f = U ∧ Sp A w L U ∧ ∀ b ∈ U, w.heap[b]? = w0.heap[b]?
  keep h he hb := by
    obtain ⟨rfl, h1, h2⟩ := h
    exact ⟨rfl, h1.keep he hb, fun b hm => (hb b hm).trans (h2 b hm)⟩
  lt h := by
    obtain ⟨rfl, h1, _⟩ := h
    exact h1.lt

section
variable {B : Nat} {A A1 : Nat → Prop} {w w0 w1 : World} {L : List Ob} {O : Ob} {U : List Nat} {i k : Nat}
theorem Hp.fix (h : Hp B A w (O :: L)) : ∃ U, Sp A w L U ∧ (∀ b ∈ U, B ≤ b ∧ b < w.heap.size ∧ ¬ A b) ∧ Hp B A w [O, obFix U w L] := by
  obtain ⟨V, ⟨f, g, rfl, hd, hp, hs⟩, hu⟩ := h
  exact ⟨g, hs, fun b hb => hu b (List.mem_append_right _ hb), f ++ g, ⟨f, g, rfl, hd, hp, g, [], by simp, by simp, ⟨rfl, hs, fun _ _ => rfl⟩, rfl⟩, hu⟩
theorem Hp.unfix (h : Hp B A w (O :: [obFix U w0 L])) : Hp B A w (O :: L) ∧ ∀ b ∈ U, w.heap[b]? = w0.heap[b]? := by
  obtain ⟨V, ⟨f, g, rfl, hd, hp, f2, g2, rfl, _, ⟨rfl, hs, hb⟩, rfl⟩, hu⟩ := h
  rw [List.append_nil] at hd hu
  exact ⟨⟨f ++ f2, ⟨f, f2, rfl, hd, hp, hs⟩, hu⟩, hb⟩
/-- the objects that were held lie as before -/
theorem Hp.held (hs : Sp A w L U) (hu : ∀ b ∈ U, B ≤ b ∧ b < w.heap.size ∧ ¬ A b) (hx : XA (fun b => A b ∨ b ∈ U) w w1) : Hp B A w1 L :=
  ⟨U, hs.keep (hx.less fun _ _ => .inl).ex fun b hb => hx.2 b (hu b hb).2.1 (.inr hb), fun b hb => ⟨(hu b hb).1, Nat.lt_of_lt_of_le (hu b hb).2.1 hx.1, (hu b hb).2.2⟩⟩
theorem XA.fix (hx : XA A w w1) (hf : ∀ b ∈ U, w1.heap[b]? = w.heap[b]?) : XA (fun b => A b ∨ b ∈ U) w w1 :=
  ⟨hx.1, fun b hb h => h.elim (hx.2 b hb) (hf b)⟩

theorem repL_ptr {A A' : Nat → Prop} {w w' : World} : ∀ {l : List Ptr} {cs : List Value}, repL A w cs l → repL A' w' cs l
  | [], _, h => h
  | _ :: _, _, ⟨c1, c2, e, h, hr⟩ => ⟨c1, c2, e, h, repL_ptr hr⟩

variable {γ : Type} {f : Nat → γ → Ob} {e : TypeId} {v : Value} {cs : List γ} {c : γ}
theorem Sp.px {b : Nat} (h : Sp A w L U) (hi : L[i]? = some (obPX f e v cs k b)) : ∃ ps : List Ptr, ps[k]? = some ⟨b⟩ ∧ Sl (fun g => g ∈ U) w v ps := by
  obtain ⟨f0, hp, hsub, _⟩ := h.at hi
  obtain ⟨ps, fq, g1, rfl, _, ⟨_, _, hk⟩, fs, g2, rfl, _, hS, _⟩ := hp
  refine ⟨ps, hk, ?_⟩
  rcases hS with ⟨_, rfl, _⟩ | ⟨g, cap, cur, cc, rfl, rfl, h4, h5, h6, h7, h8, h9⟩
  · simp at hk
  · refine .inr ⟨g, 0, cap, cc, rfl, hsub g (by simp), (Array.getElem?_eq_some_iff.1 h4).1, h5, h6, repL_ptr h8, ?_⟩
    intro j u hj
    subst h9
    rw [List.getElem?_take] at hj
    split at hj
    · simp only [World.cell?, h4, Nat.zero_add]
      simpa using hj
    · cases hj

theorem Hp.psFix {ix : Int} (h : Hp B A w L) (hi : L[i]? = some (obPS f e v cs)) (hidx : idx cs ix = some c) :
    ∃ (bc : Nat) (ps : List Ptr) (U : List Nat), cs[ix.toNat]? = some c ∧ idx ps ix = some ⟨bc⟩ ∧ Sl (fun g => g ∈ U) w v ps ∧ Sp A w (L.set i (obPX f e v cs ix.toNat bc)) U ∧ (∀ b ∈ U, B ≤ b ∧ b < w.heap.size ∧ ¬ A b) ∧ Hp B A w [f bc c, obFix U w (L.set i (obPX f e v cs ix.toNat bc))] := by
  obtain ⟨h0, h1, h2⟩ := idx_some hidx
  obtain ⟨bc, _, _, _, _, hH⟩ := h.psOpen hi h2
  obtain ⟨U, hs, hu, hF⟩ := hH.fix
  have hil : i < L.length := (List.getElem?_eq_some_iff.1 hi).1
  obtain ⟨ps, hp, hsl⟩ := hs.px (i := i) (by rw [List.getElem?_set_self hil])
  exact ⟨bc, ps, U, h2, by unfold idx; rw [if_pos h0]; exact hp, hsl, hs, hu, hF⟩
end
end Go.Gw
