/-
  Lists made by counting, sorts by a total order: plain part.
-/
import Derived.Test.YtcfmgjmpodpfiaaGreatDoorKnowPublishesM
import Derived.Test.YtcfmgjmpodpfiaaGreatDoorPl
import Derived.Test.YtcfmgjmpodpfiaaGreatDoorPr
namespace Go.Proofs.YtcfmgjmpodpfiaaGreatDoor.M
open Go Go.Pu
set_option linter.unusedSimpArgs false
set_option linter.unusedVariables false

def rng {β : Type} (f : Nat → List β) : Nat → List β
  | 0 => []
  | n + 1 => rng f n ++ f n
theorem rng_congr {β : Type} {f g : Nat → List β} : ∀ n, (∀ i, i < n → f i = g i) → rng f n = rng g n
  | 0, _ => rfl
  | n + 1, h => by rw [rng, rng, rng_congr n (fun i hi => h i (by omega)), h n (by omega)]
theorem rng_nil {β : Type} {f : Nat → List β} : ∀ n, (∀ i, i < n → f i = []) → rng f n = []
  | 0, _ => rfl
  | n + 1, h => by rw [rng, rng_nil n (fun i hi => h i (by omega)), h n (by omega)]; rfl
theorem rng_perm {β : Type} {f g : Nat → List β} : ∀ n, (∀ i, i < n → (f i).Perm (g i)) → (rng f n).Perm (rng g n)
  | 0, _ => .nil
  | n + 1, h => by rw [rng, rng]; exact (rng_perm n fun i hi => h i (by omega)).append (h n (by omega))
theorem rng_append {β : Type} (f g : Nat → List β) : ∀ n, (rng (fun i => f i ++ g i) n).Perm (rng f n ++ rng g n)
  | 0 => .nil
  | n + 1 => by
    rw [rng, rng, rng]
    refine ((rng_append f g n).append (List.Perm.refl _)).trans ?_
    simp only [List.append_assoc]
    refine List.Perm.append_left _ ?_
    rw [← List.append_assoc, ← List.append_assoc]
    exact List.perm_append_comm.append_right _
theorem rng_len {β : Type} {f : Nat → List β} (c : Nat) : ∀ n, (∀ i, i < n → (f i).length ≤ c) → (rng f n).length ≤ n * c
  | 0, _ => by simp [rng]
  | n + 1, h => by
    rw [rng, List.length_append, Nat.succ_mul]
    have h1 := rng_len c n (fun i hi => h i (by omega))
    have h2 := h n (by omega)
    omega
theorem rng_mem {β : Type} {f : Nat → List β} {x : β} : ∀ {n}, x ∈ rng f n → ∃ i, i < n ∧ x ∈ f i
  | n + 1, h => by
    rw [rng, List.mem_append] at h
    rcases h with h | h
    · obtain ⟨i, h1, h2⟩ := rng_mem h
      exact ⟨i, by omega, h2⟩
    · exact ⟨n, by omega, h⟩
theorem rng_flatMap {β γ : Type} (f : Nat → List β) (g : β → List γ) : ∀ n, (rng f n).flatMap g = rng (fun i => (f i).flatMap g) n
  | 0 => rfl
  | n + 1 => by rw [rng, rng, List.flatMap_append, rng_flatMap f g n]
/-- pairs, counted by the second or by the first -/
theorem rng_swap {β : Type} (f : Nat → Nat → List β) : ∀ n, (rng (fun i => rng (fun k => f k i) i) n).Perm (rng (fun i => rng (fun k => if i < k then f i k else []) n) n)
  | 0 => .nil
  | n + 1 => by
    rw [rng, rng]
    have e1 : rng (fun i => rng (fun k => if i < k then f i k else []) (n + 1)) n = rng (fun i => rng (fun k => if i < k then f i k else []) n ++ f i n) n := rng_congr n fun i hi => by rw [rng, if_pos hi]
    have e2 : rng (fun k => if n < k then f n k else []) (n + 1) = [] := rng_nil _ fun k hk => if_neg (by omega)
    rw [e1, e2, List.append_nil]
    exact ((rng_swap f n).append (List.Perm.refl _)).trans (rng_append _ _ n).symm
theorem uniq_sorted {α : Type} (le : α → α → Prop) (anti : ∀ x y, le x y → le y x → x = y) : ∀ (l m : List α), l.Perm m → l.Pairwise le → m.Pairwise le → l = m := by
  intro l
  induction l with
  | nil => intro m h _ _; exact (List.nil_perm.1 h).symm
  | cons a l ih =>
    intro m h hl hm
    cases m with
    | nil => exact absurd h.length_eq (by simp)
    | cons b m =>
      rw [List.pairwise_cons] at hl hm
      have hab : a = b := by
        have h1 := h.mem_iff.1 (List.mem_cons_self (a := a) (l := l))
        have h2 := h.mem_iff.2 (List.mem_cons_self (a := b) (l := m))
        rcases List.mem_cons.1 h1 with e | e
        · exact e
        · rcases List.mem_cons.1 h2 with e' | e'
          · exact e'.symm
          · exact anti _ _ (hl.1 b e') (hm.1 a e)
      subst hab
      rw [ih m ((List.perm_cons a).1 h) hl.2 hm.2]
theorem rangeB_map {α β R : Type} (l : List α) (f : α → List β) (lim : Nat) (b : Nat → List β → Option (Ctl (List β) R))
    (hb : ∀ k x s, l[k]? = some x → s.length + (f x).length ≤ lim → b k s = some (.nx (s ++ f x))) (s : List β) (hlen : s.length + (l.flatMap f).length ≤ lim) :
    rangeB b l.length 0 s = some (.fin (s ++ l.flatMap f)) := by
  have key : ∀ (m : List α) (k : Nat) (s : List β), l.drop k = m → s.length + (m.flatMap f).length ≤ lim → rangeB b m.length k s = some (.fin (s ++ m.flatMap f)) := by
    intro m
    induction m with
    | nil => intro k s _ _; simp [rangeB]
    | cons x m ih =>
      intro k s hd hl
      have hx : l[k]? = some x := by
        have := congrArg (fun q => q[0]?) hd
        simpa using this
      have hm : l.drop (k + 1) = m := by
        have := congrArg List.tail hd
        simpa using this
      rw [List.flatMap_cons, List.length_append] at hl
      rw [List.length_cons, rangeB, hb k x s hx (by omega)]
      have := ih (k + 1) (s ++ f x) hm (by rw [List.length_append]; omega)
      simp only [this]
      rw [List.flatMap_cons, List.append_assoc]
  exact key l 0 s rfl hlen
theorem rangeB_known {S R : Type} {b : Nat → S → Option (Ctl S R)} (n : Nat) (st : Nat → S) (h : ∀ k, k < n → b k (st k) = some (.nx (st (k + 1)))) : rangeB b n 0 (st 0) = some (.fin (st n)) := by
  obtain ⟨t, h1, h2⟩ := rangeB_inv (b := b) n (fun k s => s = st k) (s := st 0) rfl (fun k s hk hs => by subst hs; exact ⟨_, h k hk, rfl⟩)
  rw [h1, h2]
theorem appIf {T β : Type} (c : Bool) (lim : Nat) (out : List β) (b : β) (K : List β → Option T) (h : out.length < lim) : (Option.bind (if c = true then Option.bind (appendL lim out [b]) fun x => some x else some out) K) = K (out ++ if c = true then [b] else []) := by
  cases c with
  | true => simp [appendL, show out.length + 1 ≤ lim by omega]
  | false => simp
/-- the first m values of a function -/
def tab {α : Type} (f : Nat → α) (m : Nat) : List α := (List.range m).map f
theorem tab_len {α : Type} (f : Nat → α) (m : Nat) : (tab f m).length = m := by simp [tab]
theorem tab_idx {α : Type} (f : Nat → α) (m p : Nat) (h : p < m) : idx (tab f m) (p : Int) = some (f p) := by
  rw [idx_nat, tab, List.getElem?_map, List.getElem?_range h]; rfl
theorem tab_set {α : Type} (f g : Nat → α) (m p : Nat) (v : α) (h : p < m) (hv : v = g p) (ho : ∀ q, q < m → q ≠ p → f q = g q) : setI (tab f m) (p : Int) v = some (tab g m) := by
  rw [setI, if_pos ⟨by omega, by rw [tab_len]; omega⟩]
  congr 1
  apply List.ext_getElem
  · simp [tab]
  · intro i h1 h2
    have hi : i < m := by simpa [tab] using h2
    rw [List.getElem_set]
    simp only [tab, List.getElem_map, List.getElem_range, Int.toNat_natCast]
    by_cases e : p = i
    · subst e; simp [hv]
    · rw [if_neg e, ho i hi (Ne.symm e)]
theorem tab_congr {α : Type} (f g : Nat → α) (m : Nat) (h : ∀ q, q < m → f q = g q) : tab f m = tab g m := by
  unfold tab
  exact List.map_congr_left fun q hq => h q (List.mem_range.1 hq)
theorem tab_const {α : Type} (x : α) (m : Nat) : List.replicate m x = tab (fun _ => x) m := by
  unfold tab
  apply List.ext_getElem
  · simp
  · intro i h1 h2; simp
end Go.Proofs.YtcfmgjmpodpfiaaGreatDoor.M
