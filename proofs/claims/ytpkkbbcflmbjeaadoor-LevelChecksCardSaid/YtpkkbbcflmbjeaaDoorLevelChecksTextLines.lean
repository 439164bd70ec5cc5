/-
  Lines one behind the other: plain part.
-/
import Derived.Test.YtpkkbbcflmbjeaaDoorLevelChecksTextLine
namespace Go.Proofs.YtpkkbbcflmbjeaaDoor.M
open Go Go.Pu
set_option linter.unusedSimpArgs false
set_option linter.unusedVariables false

theorem line_size2 {ws : List AnyV} (h : ∀ x ∈ ws, AnyOk 21 x) (n : Nat) (hn : ws.length ≤ n) : (lineB (ws.map AnyT)).size ≤ 22 * n + 1 := by
  have h1 : ∀ y ∈ ws.map AnyT, y.size ≤ 21 := by
    intro y hy
    obtain ⟨x, hx, rfl⟩ := List.mem_map.1 hy
    exact anyT_size (Nat.le_refl _) (h x hx)
  have h2 := join_len 21 1 (ws.map AnyT) (⟨#[32]⟩ : ByteArray) h1 (Nat.le_refl _)
  rw [List.length_map] at h2
  unfold lineB
  rw [ByteArray.size_append]
  have z : (⟨#[10]⟩ : ByteArray).size = 1 := rfl
  have := Nat.mul_le_mul_left 22 hn
  omega
def linesN {α : Type} (W : α → List AnyV) (s0 : ByteArray) (l : List α) (k : Nat) : ByteArray := ((l.take k).map fun p => lineB ((W p).map AnyT)).foldl (· ++ ·) s0
theorem linesN_succ {α : Type} (W : α → List AnyV) (s0 : ByteArray) (l : List α) (k : Nat) (p : α) (h : l[k]? = some p) : linesN W s0 l (k + 1) = linesN W s0 l k ++ lineB ((W p).map AnyT) := by
  unfold linesN
  rw [List.take_add_one, h]
  simp [List.foldl_append]
theorem linesN_size {α : Type} (W : α → List AnyV) (s0 : ByteArray) (l : List α) (n : Nat) (h : ∀ p ∈ l, (∀ x ∈ W p, AnyOk 21 x) ∧ (W p).length ≤ n) : ∀ k, k ≤ l.length → (linesN W s0 l k).size ≤ s0.size + (22 * n + 1) * k
  | 0, _ => by simp [linesN]
  | k + 1, hk => by
    have hx : l[k]? = some (l[k]'(by omega)) := List.getElem?_eq_getElem (by omega)
    have hp := h _ (List.getElem_mem (by omega : k < l.length))
    generalize l[k]'(by omega) = p at hx hp
    rw [linesN_succ W s0 l k p hx, ByteArray.size_append, Nat.mul_succ]
    have h1 := linesN_size W s0 l n h k (by omega)
    have h2 := line_size2 hp.1 n hp.2
    omega
theorem joinB_snoc (w : ByteArray) (r : List ByteArray) (x sep : ByteArray) : joinB (w :: (r ++ [x])) sep = joinB (w :: r) sep ++ (sep ++ x) := by
  apply ByteArray.ext
  apply Array.toList_inj.1
  simp [joinB, ByteArray.data_append, Go.Lib.join_cons, Go.Lib.joinTail, List.map_append, List.flatten_append, List.append_assoc]
theorem joinB_single (w sep : ByteArray) : joinB [w] sep = w := by
  apply ByteArray.ext
  apply Array.toList_inj.1
  simp [joinB, Go.Lib.join_one]
/-- a loop that appends a line a round -/
theorem lines_loop {α R : Type} (W : α → List AnyV) (s0 : ByteArray) (l : List α) (n : Nat) (h : ∀ p ∈ l, (∀ x ∈ W p, AnyOk 21 x) ∧ (W p).length ≤ n) (hs0 : s0.size ≤ 1000000000) (hl : l.length ≤ 1000) (hn : n ≤ 1000) (b : Nat → ByteArray → Option (Ctl ByteArray R))
    (hb : ∀ k s p, l[k]? = some p → s.size ≤ 2000000000 → b k s = some (.nx (s ++ lineB ((W p).map AnyT)))) : rangeB b l.length 0 s0 = some (.fin (linesN W s0 l l.length)) ∧ (linesN W s0 l l.length).size ≤ s0.size + 22001 * 1000 := by
  have hbound : ∀ k, k ≤ l.length → (linesN W s0 l k).size ≤ s0.size + 22001 * 1000 := fun k hk => by
    have h1 := linesN_size W s0 l n h k hk
    have h2 : (22 * n + 1) * k ≤ 22001 * 1000 := Nat.mul_le_mul (by omega) (by omega)
    omega
  obtain ⟨t, e1, e2⟩ := rangeB_inv (b := b) l.length (fun k t => t = linesN W s0 l k) (s := s0) rfl fun k t hk ht => by
    subst ht
    have hx : l[k]? = some l[k] := List.getElem?_eq_getElem hk
    have := hbound k (by omega)
    exact ⟨_, hb k _ _ hx (by omega), (linesN_succ W s0 l k _ hx).symm⟩
  subst e2
  exact ⟨e1, hbound _ (Nat.le_refl _)⟩
end Go.Proofs.YtpkkbbcflmbjeaaDoor.M
