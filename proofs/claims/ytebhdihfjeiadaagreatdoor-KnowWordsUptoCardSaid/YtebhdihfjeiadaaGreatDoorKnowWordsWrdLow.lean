/-
  Letters, digits, lower case: plain part.
-/
import Derived.Test.YtebhdihfjeiadaaGreatDoorKnowWordsM
import Derived.Test.YtebhdihfjeiadaaGreatDoorPl
namespace Go.Proofs.YtebhdihfjeiadaaGreatDoor.M
open Go Go.Pu
set_option linter.unusedSimpArgs false
set_option linter.unusedVariables false

/-- a loop that turns each element -/
theorem rangeB_map {α R : Type} (l : List α) (f : α → α) (b : Nat → List α → Option (Ctl (List α) R))
    (hb : ∀ (k : Nat) (s : List α) (x : α), k < l.length → s.length = l.length → s[k]? = some x → b k s = some (.nx (s.set k (f x)))) :
    rangeB b l.length 0 l = some (.fin (l.map f)) := by
  obtain ⟨t, h1, h2⟩ := rangeB_inv (b := b) l.length (fun k t => t = (l.take k).map f ++ l.drop k) (s := l) (by simp) fun k t hk ht => by
    subst ht
    have hlen : ((l.take k).map f ++ l.drop k).length = l.length := by simp; omega
    have hx : ((l.take k).map f ++ l.drop k)[k]? = some l[k] := by
      rw [List.getElem?_append_right (by simp; omega)]
      simp [Nat.min_eq_left (Nat.le_of_lt hk), hk]
    refine ⟨_, hb k _ _ hk hlen hx, ?_⟩
    rw [List.set_append_right _ _ (by simp; omega)]
    have e : k - ((l.take k).map f).length = 0 := by simp; omega
    rw [e, List.drop_eq_getElem_cons hk, List.set_cons_zero, List.take_add_one, List.getElem?_eq_getElem hk]
    simp only [List.map_append, List.append_assoc, Option.toList_some, List.map_cons, List.map_nil, List.cons_append, List.nil_append]
  rw [h1, h2]
  simp
def low8 (b : UInt8) : UInt8 := if 65 ≤ b.toNat ∧ b.toNat ≤ 90 then toU8 ((b.toNat : Int) + 32) else b
def lowB (s : ByteArray) : ByteArray := ⟨(s.data.toList.map low8).toArray⟩
theorem lowB_size (s : ByteArray) : (lowB s).size = s.size := by
  show (s.data.toList.map low8).toArray.size = s.data.size
  simp
theorem u8_two (n : Int) : toU8 (((toU8 (n + 97)).toNat : Int) - 65) = toU8 (n + 32) := by
  have e : ((toU8 (((toU8 (n + 97)).toNat : Int) - 65)).toNat : Int) = ((toU8 (n + 32)).toNat : Int) := by
    rw [toU8_nat, toU8_nat, toU8_nat]
    simp only [IntKind.wrap, IntKind.bits, IntKind.signed]
    simp
    omega
  exact UInt8.toNat_inj.1 (by omega)
theorem bytesL_some {s : ByteArray} (h : s.size ≤ 9223372036854775807) : bytesL s = some s.data.toList := by
  unfold bytesL
  rw [if_pos (by omega)]
theorem setI_nat {α : Type} {l : List α} {k : Nat} {x : α} (h : k < l.length) : setI l (k : Int) x = some (l.set k x) := by
  unfold setI
  rw [if_pos ⟨by omega, by omega⟩]
  simp
theorem set_self {α : Type} {l : List α} {k : Nat} {x : α} (h : l[k]? = some x) : l.set k x = l := by
  obtain ⟨h1, rfl⟩ := List.getElem?_eq_some_iff.1 h
  exact List.set_getElem_self h1
theorem know_lower_val (s : ByteArray) (h : s.size ≤ 9223372036854775807) : know_lower s = some (lowB s) := by
  unfold know_lower
  rw [bytesL_some h, Option.bind_some, rangeB_map _ low8 _ ?_]
  · rfl
  intro k t x hk hl hx
  have hk' : k < t.length := by omega
  rw [idx_nat, hx]
  simp only [Option.bind_some]
  by_cases hc : 65 ≤ x.toNat ∧ x.toNat ≤ 90
  · rw [if_pos (by simp; omega), setI_nat hk', u8_two]
    simp [low8, hc]
  · rw [if_neg (by simp; omega)]
    simp only [Option.bind_some, low8, if_neg hc]
    rw [set_self hx]
theorem portref2_lower_val (s : ByteArray) (h : s.size ≤ 9223372036854775807) : portref2_lower s = some (lowB s) := by
  unfold portref2_lower
  rw [bytesL_some h, Option.bind_some, rangeB_map _ low8 _ ?_]
  · rfl
  intro k t x hk hl hx
  have hk' : k < t.length := by omega
  rw [idx_nat, hx]
  simp only [Option.bind_some]
  by_cases hc : 65 ≤ x.toNat ∧ x.toNat ≤ 90
  · rw [if_pos (by simp; omega), setI_nat hk']
    simp [low8, hc]
  · rw [if_neg (by simp; omega)]
    simp only [Option.bind_some, low8, if_neg hc]
    rw [set_self hx]
/-- a byte of a word -/
def wb (b : UInt8) : Bool := portref2_isWordByte (b.toNat : Int)
theorem inWord_wb (b : UInt8) : know_inWord (b.toNat : Int) = wb b := rfl
end Go.Proofs.YtebhdihfjeiadaaGreatDoor.M
