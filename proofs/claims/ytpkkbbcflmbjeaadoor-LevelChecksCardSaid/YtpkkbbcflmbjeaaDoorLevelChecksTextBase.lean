/-
  Lines of words and numbers: plain part.
-/
import Derived.Test.YtpkkbbcflmbjeaaDoorLevelChecksM
import Derived.Test.YtpkkbbcflmbjeaaDoorPl
import Derived.Lib.ItoaLen
namespace Go.Proofs.YtpkkbbcflmbjeaaDoor.M
open Go Go.Pu
set_option linter.unusedSimpArgs false
set_option linter.unusedVariables false

def I64 (n : Int) : Prop := -9223372036854775808 ≤ n ∧ n ≤ 9223372036854775807
def itoaB (n : Int) : ByteArray := ⟨(Go.Lib.itoa n).toArray⟩
theorem itoa_some {n : Int} (h : I64 n) : strconv_Itoa n = some (itoaB n) := by
  unfold strconv_Itoa
  rw [if_pos ⟨h.1, h.2⟩]
  rfl
theorem itoaB_size {n : Int} (h : I64 n) : (itoaB n).size ≤ 21 := by
  have := Go.Lib.itoa_length_le n h.1 h.2
  show (Go.Lib.itoa n).toArray.size ≤ _
  simpa using this
def joinB (xs : List ByteArray) (sep : ByteArray) : ByteArray := ⟨(Go.Lib.join (xs.map (·.data.toList)) sep.data.toList).toArray⟩
theorem lens_le (k : Nat) : ∀ (xs : List ByteArray), (∀ x ∈ xs, x.size ≤ k) → Go.Lib.lens (xs.map (·.data.toList)) ≤ k * xs.length
  | [], _ => by simp [Go.Lib.lens]
  | x :: xs, h => by
    have h1 := lens_le k xs fun y hy => h y (List.mem_cons_of_mem _ hy)
    have h2 : x.data.toList.length ≤ k := h x (List.mem_cons_self ..)
    simp only [Go.Lib.lens, List.map_cons, List.sum_cons, List.length_cons, Nat.mul_succ] at h1 ⊢
    omega
theorem join_len (k m : Nat) (xs : List ByteArray) (sep : ByteArray) (h : ∀ x ∈ xs, x.size ≤ k) (hs : sep.size ≤ m) : (joinB xs sep).size ≤ (k + m) * xs.length := by
  show (Go.Lib.join (xs.map (·.data.toList)) sep.data.toList).toArray.size ≤ _
  rw [List.size_toArray]
  cases xs with
  | nil => simp [Go.Lib.join_nil]
  | cons x xs =>
    have h1 := lens_le k (x :: xs) h
    rw [List.map_cons, Go.Lib.join_length, ← List.map_cons (f := fun z : ByteArray => z.data.toList), List.length_map]
    have h2 : sep.data.toList.length ≤ m := hs
    have h3 : sep.data.toList.length * xs.length ≤ m * xs.length := Nat.mul_le_mul_right _ h2
    rw [Nat.add_mul]
    have h4 : m * (x :: xs).length = m * xs.length + m := by rw [List.length_cons, Nat.mul_succ]
    omega
theorem join_some (k m : Nat) (xs : List ByteArray) (sep : ByteArray) (h : ∀ x ∈ xs, x.size ≤ k) (hs : sep.size ≤ m) (hn : xs.length ≤ 100000000) (hb : (k + m) * xs.length ≤ 140737488355328) : strings_Join xs sep = some (joinB xs sep) := by
  unfold strings_Join
  rw [if_pos]
  · rfl
  refine ⟨by omega, ?_⟩
  have := join_len k m xs sep h hs
  have e : (joinB xs sep).size = (Go.Lib.join (xs.map (·.data.toList)) sep.data.toList).length   := by simp [joinB, ByteArray.size]
  omega
theorem cat_val (s t : ByteArray) (hs : s.size ≤ 1000000000000000) (ht : t.size ≤ 1000000000000000) : catS s t = some (s ++ t) ∧ (s ++ t).size = s.size + t.size := by
  constructor
  · unfold catS
    rw [if_neg]
    have : IntKind.i64.max = 9223372036854775807 := by decide
    rw [this]
    omega
  · exact ByteArray.size_append
/-- a loop that appends so many things a round -/
theorem rangeB_flat {α β R : Type} (l : List α) (F : α → List β) (c lim : Nat) (hF : ∀ x ∈ l, (F x).length ≤ c) (b : Nat → List β → Option (Ctl (List β) R))
    (hb : ∀ k s x, l[k]? = some x → s.length + c ≤ lim → b k s = some (.nx (s ++ F x))) (s : List β) (hs : s.length + c * l.length ≤ lim) :
    rangeB b l.length 0 s = some (.fin (s ++ l.flatMap F)) := by
  have hlen : ∀ (m : List α), (∀ x ∈ m, (F x).length ≤ c) → (m.flatMap F).length ≤ c * m.length := by
    intro m
    induction m with
    | nil => intro _; simp
    | cons x m ih =>
      intro h
      rw [List.flatMap_cons, List.length_append, List.length_cons, Nat.mul_succ]
      have h1 := h x (List.mem_cons_self ..)
      have h2 := ih fun y hy => h y (List.mem_cons_of_mem _ hy)
      omega
  obtain ⟨t, h1, h2⟩ := rangeB_inv (b := b) l.length (fun k t => t = s ++ (l.take k).flatMap F) (s := s) (by simp) fun k t hk ht => by
    subst ht
    have hx := List.getElem?_eq_getElem hk
    refine ⟨_, hb k _ _ hx ?_, ?_⟩
    · have h3 := hlen (l.take k) fun x h => hF x (List.mem_of_mem_take h)
      rw [List.length_append]
      rw [List.length_take, Nat.min_eq_left (by omega)] at h3
      have h4 : c * k + c ≤ c * l.length := by rw [← Nat.mul_succ]; exact Nat.mul_le_mul_left _ (by omega)
      omega
    · rw [List.take_add_one, hx, List.flatMap_append, List.append_assoc]
      simp
  rw [h1, h2, List.take_length]
theorem flatMap_one {α β : Type} (l : List α) (f : α → β) : l.flatMap (fun x => [f x]) = l.map f := by
  induction l with
  | nil => rfl
  | cons x l ih => simp [ih]
theorem append_some {α : Type} {s t : List α} (h : s.length + t.length ≤ 8796093022208) : appendL 8796093022208 s t = some (s ++ t) := by
  unfold appendL
  rw [if_pos h]
theorem strEq_self (s : ByteArray) : strEq s s = true := by
  unfold strEq
  simp
end Go.Proofs.YtpkkbbcflmbjeaaDoor.M
