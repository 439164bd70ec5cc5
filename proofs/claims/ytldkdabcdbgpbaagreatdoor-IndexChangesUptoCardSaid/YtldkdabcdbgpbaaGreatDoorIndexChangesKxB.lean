import Derived.Test.YtldkdabcdbgpbaaGreatDoorIndexChangesM
import Derived.Test.YtldkdabcdbgpbaaGreatDoorPl
import Derived.Test.YtldkdabcdbgpbaaGreatDoorIndexChangesKxA
import Derived.Lib.IndexBytes
import Derived.Lib.IndexLaws
import Derived.Lib.SplitLaws
namespace Go.Proofs.YtldkdabcdbgpbaaGreatDoor.M
open Go Go.Pu
set_option linter.unusedSimpArgs false
set_option linter.unusedVariables false
theorem mid_half (n : Nat) (hn : n ≤ 4000000000000000000) : Option.bind (shr .u64 (IntKind.wrap .u64 (w64 (n : Int))) 1) (fun x => some (IntKind.wrap .i64 x)) = some ((n / 2 : Nat) : Int) := by
 have h1 : w64 (n : Int) = (n : Int) := w64_id (by omega) (by omega)
 have h2 : IntKind.wrap .u64 (n : Int) = (n : Int) := by
  simp only [IntKind.wrap, IntKind.bits, IntKind.signed]
  simp
  omega
 have h3 : IntKind.wrap .i64 ((n : Int).fdiv 2) = ((n / 2 : Nat) : Int) := by
  have : (n : Int).fdiv 2 = ((n / 2 : Nat) : Int) := by
   rw [Int.fdiv_eq_ediv_of_nonneg _ (by decide)]
   omega
  rw [this]
  exact w64_id (by omega) (by omega)
 rw [h1, h2, shr, if_neg (by decide)]
 have e : (2 : Int) ^ (min (1 : Int).toNat IntKind.u64.bits) = 2 := by decide
 rw [e]
 simp only [Option.bind_some, h3]
theorem search_loop {α R : Type} {l : List α} (hl : l.length ≤ 2000000000000000000) (f : α → Option Bool) (lo : α → Bool) (hf : ∀ x ∈ l, f x = some (lo x)) (hm : ∀ (p q : Nat) (x y : α), p < q → l[p]? = some x → l[q]? = some y → lo y = true → lo x = true)
  (body : Int × Int → Option (Ctl (Int × Int) R)) (hbody : ∀ s : Int × Int, body s = if (decide (s.1 < s.2)) = true then Option.bind (shr .u64 (IntKind.wrap .u64 (w64 (s.1 + s.2))) 1) (fun v => Option.bind (idx l (IntKind.wrap .i64 v)) fun x => Option.bind (f x) fun b => if b = true then some (.nx (w64 ((IntKind.wrap .i64 v) + 1), s.2)) else some (.nx (s.1, IntKind.wrap .i64 v))) else some (.bk (s.1, s.2))) :
  ∃ a : Nat, a ≤ l.length ∧ whileB body (0, (l.length : Int)) = some (.fin ((a : Int), (a : Int))) ∧ (∀ q x, q < a → l[q]? = some x → lo x = true) ∧ ∀ q x, a ≤ q → l[q]? = some x → lo x = false := by
 obtain ⟨o, ho, a, rfl, ha, hlo, hhi⟩ := whileB_spec (R := R) (body := body)
  (fun s => ∃ a b : Nat, s = ((a : Int), (b : Int)) ∧ a ≤ b ∧ b ≤ l.length ∧ (∀ q x, q < a → l[q]? = some x → lo x = true) ∧ ∀ q x, b ≤ q → l[q]? = some x → lo x = false) (fun s => (s.2 - s.1).toNat)
  (fun o => ∃ a : Nat, o = .fin ((a : Int), (a : Int)) ∧ a ≤ l.length ∧ (∀ q x, q < a → l[q]? = some x → lo x = true) ∧ ∀ q x, a ≤ q → l[q]? = some x → lo x = false) (s := (0, (l.length : Int)))
  ⟨0, l.length, rfl, Nat.zero_le _, Nat.le_refl _, fun q x h => absurd h (Nat.not_lt_zero _), fun q x h hx => absurd (List.getElem?_eq_some_iff.1 hx).1 (by omega)⟩ (by
  rintro _ ⟨a, b, rfl, hab, hb, h1, h2⟩
  rw [hbody]
  simp only
  by_cases hlt : (a : Int) < (b : Int)
  ·have hm' := mid_half (a + b) (by omega)
   rw [if_pos (by simpa using hlt)]
   cases hsh : shr .u64 (IntKind.wrap .u64 (w64 ((a : Int) + (b : Int)))) 1 with
   | none => rw [show ((a + b : Nat) : Int) = (a : Int) + (b : Int) by omega, hsh] at hm'; simp at hm'
   | some v =>
    rw [show ((a + b : Nat) : Int) = (a : Int) + (b : Int) by omega, hsh] at hm'
    simp only [Option.bind_some, Option.some.injEq] at hm'
    have hmb : (a + b) / 2 < l.length := by omega
    have hx : l[(a + b) / 2]? = some l[(a + b) / 2] := List.getElem?_eq_getElem hmb
    generalize l[(a + b) / 2] = x at hx
    simp only [Option.bind_some, hm', idx_nat, hx, hf x (List.mem_of_getElem? hx)]
    cases hd : lo x with
    | true =>
     simp only [if_true]
     rw [w64_id (by omega) (by omega)]
     refine ⟨_, rfl, ⟨(a + b) / 2 + 1, b, by congr 1, by omega, hb, fun q y hq hy => ?_, h2⟩, by simp only; omega⟩
     rcases Nat.lt_or_eq_of_le (Nat.le_of_lt_succ hq) with h | rfl
     ·exact hm q _ y x h hy hx hd
     ·rw [hx] at hy; cases hy; exact hd
    | false =>
     simp only [Bool.false_eq_true, if_false]
     refine ⟨_, rfl, ⟨a, (a + b) / 2, rfl, by omega, by omega, h1, fun q y hq hy => ?_⟩, by simp only; omega⟩
     rcases Nat.lt_or_eq_of_le hq with h | rfl
     ·rw [← Bool.not_eq_true]
      intro hy'
      rw [hm _ q x y h hx hy hy'] at hd
      cases hd
     ·rw [hx] at hy; cases hy; exact hd
  ·rw [if_neg (by simpa using hlt)]
   obtain rfl : a = b := by omega
   exact ⟨_, rfl, a, rfl, hb, h1, h2⟩)
 exact ⟨a, ha, ho, hlo, hhi⟩
end Go.Proofs.YtldkdabcdbgpbaaGreatDoor.M
namespace Go.Proofs.YtldkdabcdbgpbaaGreatDoor.M
open Go Go.Pu
set_option linter.unusedSimpArgs false
set_option linter.unusedVariables false
theorem bytes_at (s : ByteArray) (k : Nat) : s[k]? = s.data.toList[k]? := by
 by_cases h : k < s.size
 ·rw [getElem?_pos s k h]
  have h2 : k < s.data.toList.length := h
  rw [List.getElem?_eq_getElem h2]
  rfl
 ·rw [getElem?_neg s k h, List.getElem?_eq_none (by simpa using h)]
theorem idxS_nat (s : ByteArray) (k : Nat) : idxS s (k : Int) = s.data.toList[k]? := by
 unfold idxS
 rw [if_pos (by omega), Int.toNat_natCast, bytes_at]
def lowb (b : UInt8) : Bool := decide ((b.toNat : Int) < 32) || ((b.toNat : Int) == 127)
theorem get_byte (s : ByteArray) (k : Nat) (h : k < s.size) : s.data.toList[k]? = some (s.get! k) := by
 have h2 : k < s.data.size := h
 rw [List.getElem?_eq_getElem (by simpa using h2)]
 simp only [ByteArray.get!, Array.getElem_toList]
 rw [getElem!_pos s.data k h2]
theorem low_rune (b : UInt8) : portref2_lowByte_1 ((b.toNat : Nat) : Int) = lowb b := by
 simp [portref2_lowByte_1, lowb]
theorem decode_step (s : ByteArray) (i : Nat) (h : i < s.size) : 1 ≤ (Utf8.decode s i).2 ∧
  (portref2_lowByte_1 (((Utf8.decode s i).1 : Nat) : Int) = lowb (s.get! i)) ∧ ∀ k, 0 < k → k < (Utf8.decode s i).2 → i + k < s.size ∧ lowb (s.get! (i + k)) = false := by
 unfold Utf8.decode
 simp only [Nat.add_zero]
 have hb := (s.get! i).toNat_lt
 by_cases h0 : (s.get! i).toNat < 0x80
 ·rw [if_pos h0]
  exact ⟨Nat.le_refl _, low_rune _, fun k h1 h2 => by omega⟩
 rw [if_neg h0]
 have hi : lowb (s.get! i) = false := by simp [lowb]; omega
 have hc : ∀ k, (decide (i + k < s.size) && (s.get! (i + k)).toNat / 64 == 2) = true → i + k < s.size ∧ lowb (s.get! (i + k)) = false := by
  intro k hk
  rw [Bool.and_eq_true, decide_eq_true_eq, beq_iff_eq] at hk
  refine ⟨hk.1, ?_⟩
  simp [lowb]
  omega
 have hr : ∀ r : Nat, 128 ≤ r → portref2_lowByte_1 (r : Int) = lowb (s.get! i) := by
  intro r hr
  rw [hi]
  simp [portref2_lowByte_1]
  omega
 have he : 128 ≤ Utf8.runeError := by decide
 have one : ∀ k, 0 < k → k < 1 → i + k < s.size ∧ lowb (s.get! (i + k)) = false := fun k h1 h2 => by omega
 split
 ·rename_i h1
  rw [Bool.and_eq_true] at h1
  split
  ·rename_i h2
   refine ⟨by omega, hr _ (by omega), fun k k1 k2 => ?_⟩
   have k2' : k < 2 := k2
   obtain rfl : k = 1 := by omega
   exact hc 1 h1.2
  ·exact ⟨Nat.le_refl _, hr _ he, one⟩
 ·split
  ·rename_i h1
   rw [Bool.and_eq_true, Bool.and_eq_true] at h1
   split
   ·rename_i h2
    rw [Bool.and_eq_true, decide_eq_true_eq] at h2
    refine ⟨by omega, hr _ (by omega), fun k k1 k2 => ?_⟩
    simp at k2
    obtain rfl | rfl : k = 1 ∨ k = 2 := by omega
    ·exact hc 1 h1.1.2
    ·exact hc 2 h1.2
   ·exact ⟨Nat.le_refl _, hr _ he, one⟩
  ·split
   ·rename_i h1
    rw [Bool.and_eq_true, Bool.and_eq_true, Bool.and_eq_true] at h1
    split
    ·rename_i h2
     rw [Bool.and_eq_true, decide_eq_true_eq] at h2
     refine ⟨by omega, hr _ (by omega), fun k k1 k2 => ?_⟩
     simp at k2
     obtain rfl | rfl | rfl : k = 1 ∨ k = 2 ∨ k = 3 := by omega
     ·exact hc 1 h1.1.1.2
     ·exact hc 2 h1.1.2
     ·exact hc 3 h1.2
    ·exact ⟨Nat.le_refl _, hr _ he, one⟩
   ·exact ⟨Nat.le_refl _, hr _ he, one⟩
theorem idx_low (s : ByteArray) : ∀ (f i : Nat), s.size ≤ i + f → (0 ≤ Go.Lib.idxFuncFrom (fun y => portref2_lowByte_1 (y : Int)) true s f i ↔ ∃ j, i ≤ j ∧ j < s.size ∧ lowb (s.get! j) = true)
 | 0, i, h => by
  constructor
  ·intro h0
   exact absurd h0 (by show ¬ (0 : Int) ≤ -1; decide)
  ·rintro ⟨j, h1, h2, _⟩
   omega
 | f + 1, i, h => by
  unfold Go.Lib.idxFuncFrom
  by_cases hi : i < s.size
  ·rw [if_pos hi]
   obtain ⟨h1, h2, h3⟩ := decode_step s i hi
   by_cases hl : lowb (s.get! i) = true
   ·rw [if_pos (by rw [h2]; exact hl)]
    exact ⟨fun _ => ⟨i, Nat.le_refl _, hi, hl⟩, fun _ => by omega⟩
   ·rw [if_neg (by rw [h2]; exact hl), idx_low s f _ (by omega)]
    constructor
    ·rintro ⟨j, k1, k2, k3⟩
     exact ⟨j, by omega, k2, k3⟩
    ·rintro ⟨j, k1, k2, k3⟩
     refine ⟨j, ?_, k2, k3⟩
     rcases Nat.lt_or_ge j (i + (Utf8.decode s i).2) with k4 | k4
     ·exfalso
      rcases Nat.eq_or_lt_of_le k1 with rfl | k5
      ·exact hl k3
      ·have := (h3 (j - i) (by omega) (by omega)).2
       rw [show i + (j - i) = j by omega, k3] at this
       cases this
     ·exact k4
  ·rw [if_neg hi]
   constructor
   ·intro h0
    exact absurd h0 (by decide)
   ·rintro ⟨j, k1, k2, _⟩
    omega
theorem lowByte_val (s : ByteArray) : portref2_lowByte s = some (s.data.toList.any lowb) := by
 unfold portref2_lowByte
 congr 1
 rw [Bool.eq_iff_iff, decide_eq_true_eq, List.any_eq_true]
 unfold Go.Lib.idxFunc
 rw [idx_low s s.size 0 (by omega)]
 constructor
 ·rintro ⟨j, _, h2, h3⟩
  exact ⟨_, List.mem_of_getElem? (get_byte s j h2), h3⟩
 ·rintro ⟨b, hb, hl⟩
  obtain ⟨j, hj⟩ := List.getElem?_of_mem hb
  have hlt : j < s.size := (List.getElem?_eq_some_iff.1 hj).1
  rw [get_byte s j hlt] at hj
  cases hj
  exact ⟨j, Nat.zero_le _, hlt, hl⟩
theorem replace_feeds : ∀ (n : Nat) (l : List UInt8), l.length ≤ n → Go.Lib.replaceK [10] [] (Go.Lib.count l [10]) l = l.filter (· != 10)
 | 0, l, h => by
  obtain rfl : l = [] := List.eq_nil_of_length_eq_zero (by omega)
  rfl
 | n + 1, l, h => by
  rcases Go.Lib.index_spec l [10] with ⟨h1, _⟩ | ⟨i, h1, h2, h3, h4⟩
  ·rw [Go.Lib.count_miss h1]
   have hn := Go.Lib.indexByte_none (l := l) (c := 10) (by rw [← Go.Lib.index_one]; exact h1)
   show l = _
   symm
   rw [List.filter_eq_self]
   intro b hb
   obtain ⟨k, hk⟩ := List.getElem?_of_mem hb
   simp only [bne_iff_ne, ne_eq]
   rintro rfl
   exact hn k hk
  ·have hs := Go.Lib.indexByte_some (l := l) (c := 10) (o := i) (by rw [← Go.Lib.index_one]; exact h1)
   have hi : i < l.length := (List.getElem?_eq_some_iff.1 hs.1).1
   rw [Go.Lib.count_hit (by simp) h1, Nat.add_comm 1, Go.Lib.replaceK_hit _ _ _ _ i h1]
   have hd := replace_feeds n (l.drop (i + 1)) (by rw [List.length_drop]; omega)
   rw [show ([10] : List UInt8).length = 1 from rfl, hd, List.append_nil]
   have hsplit : l = l.take i ++ 10 :: l.drop (i + 1) := by
    conv => lhs; rw [← List.take_append_drop i l]
    congr 1
    rw [List.drop_eq_getElem_cons hi]
    congr 1
    have := hs.1
    rw [List.getElem?_eq_getElem hi] at this
    exact Option.some.inj this
   conv => rhs; rw [hsplit]
   rw [List.filter_append, List.filter_cons]
   simp only [bne_self_eq_false, Bool.false_eq_true, if_false]
   congr 1
   symm
   rw [List.filter_eq_self]
   intro b hb
   obtain ⟨k, hk⟩ := List.getElem?_of_mem hb
   simp only [bne_iff_ne, ne_eq]
   rintro rfl
   rw [List.getElem?_take] at hk
   split at hk
   ·rename_i hki
    exact hs.2 k hki hk
   ·cases hk
theorem replace_val (s : ByteArray) (h : s.size ≤ 4000000000) : strings_ReplaceAll s (⟨#[10]⟩ : ByteArray) (⟨#[]⟩ : ByteArray) = some ⟨(s.data.toList.filter (· != 10)).toArray⟩ := by
 unfold strings_ReplaceAll
 have z : (⟨#[10]⟩ : ByteArray).size = 1 := rfl
 have z2 : (⟨#[]⟩ : ByteArray).size = 0 := rfl
 rw [if_pos ⟨by omega, by omega, by rw [z2, Nat.mul_zero]; omega⟩]
 congr 2
 have e : Go.Lib.replaceAll s.data.toList [10] [] = s.data.toList.filter (· != 10) := by
  unfold Go.Lib.replaceAll Go.Lib.replace Go.Lib.replaceNum
  rw [if_neg (by decide), if_pos (.inl (by decide))]
  exact replace_feeds _ _ (Nat.le_refl _)
 exact congrArg List.toArray e
theorem plain_val (s : ByteArray) (feeds : Bool) (hs : s.size ≤ 1000000) : know_plain s feeds = some (!(s.data.toList.any fun b => lowb b && (((b.toNat : Int) != 10) || (!feeds)))) := by
 unfold know_plain
 have hsz : s.data.toList.length = s.size := rfl
 obtain ⟨x, hx, hq⟩ := whileB_spec (R := Bool) (body := fun (s8 : Int) => if (decide (s8 < (s.size : Int))) = true then Option.bind (idxS s s8) fun x18 => Option.bind (if (decide ((x18.toNat : Int) < 32)) = true then (some true) else (some ((x18.toNat : Int) == 127))) fun s20 => Option.bind (if s20 = true then (some (((x18.toNat : Int) != 10) || (!feeds))) else (some false)) fun s22 => if s22 = true then some (.rt false) else some (.nx (w64 (s8 + 1))) else some (.bk s8))
  (fun i => ∃ k : Nat, i = (k : Int) ∧ k ≤ s.size ∧ ∀ j b, j < k → s.data.toList[j]? = some b → (lowb b && (((b.toNat : Int) != 10) || (!feeds))) = false) (fun i => s.size - i.toNat)
  (fun x => (x = .rt false ∧ (s.data.toList.any fun b => lowb b && (((b.toNat : Int) != 10) || (!feeds))) = true) ∨ (∃ t, x = .fin t ∧ (s.data.toList.any fun b => lowb b && (((b.toNat : Int) != 10) || (!feeds))) = false)) (s := 0)
  ⟨0, rfl, Nat.zero_le _, fun j b h => absurd h (Nat.not_lt_zero _)⟩
  (by
   rintro _ ⟨k, rfl, hk, hI⟩
   by_cases hlt : k < s.size
   ·have e : decide ((k : Int) < (s.size : Int)) = true := decide_eq_true (by omega)
    have hb : s.data.toList[k]? = some (s.data.toList[k]'(by omega)) := List.getElem?_eq_getElem (by omega)
    generalize s.data.toList[k]'(by omega) = b at hb
    have hw : w64 ((k : Int) + 1) = ((k + 1 : Nat) : Int) := by rw [w64_id (by omega) (by omega)]; omega
    have h1 : (if (decide ((b.toNat : Int) < 32)) = true then (some true) else (some ((b.toNat : Int) == 127))) = some (lowb b) := by
     unfold lowb
     by_cases h : (b.toNat : Int) < 32 <;> simp [h]
    have h2 : (if lowb b = true then (some (((b.toNat : Int) != 10) || (!feeds))) else (some false)) = some (lowb b && (((b.toNat : Int) != 10) || (!feeds))) := by
     cases lowb b <;> simp
    simp only [e, if_true, idxS_nat, hb, Option.bind_some, hw, h1, h2]
    by_cases hok : (lowb b && (((b.toNat : Int) != 10) || (!feeds))) = true
    ·rw [if_pos hok]
     refine ⟨_, rfl, .inl ⟨rfl, ?_⟩⟩
     rw [List.any_eq_true]
     exact ⟨b, List.mem_of_getElem? hb, hok⟩
    ·rw [if_neg hok]
     refine ⟨_, rfl, ⟨k + 1, rfl, by omega, fun j c hj hc => ?_⟩, by simp only [Int.toNat_natCast]; omega⟩
     rcases Nat.lt_or_eq_of_le (Nat.le_of_lt_succ hj) with h | rfl
     ·exact hI j c h hc
     ·rw [hb] at hc; cases hc; simpa using hok
   ·have e : decide ((k : Int) < (s.size : Int)) = false := decide_eq_false (by omega)
    simp only [e, Bool.false_eq_true, if_false]
    refine ⟨_, rfl, .inr ⟨_, rfl, ?_⟩⟩
    rw [List.any_eq_false]
    intro b hb
    obtain ⟨j, hj, rfl⟩ := List.mem_iff_getElem.1 hb
    rw [hI j _ (by omega) (List.getElem?_eq_getElem hj)]
    simp)
 rw [hx]
 rcases hq with ⟨rfl, h⟩ | ⟨t, rfl, h⟩
 ·rw [h]
  rfl
 ·rw [h]
  rfl
theorem feeds_low (l : List UInt8) : ((l.filter (· != 10)).any lowb) = l.any fun b => lowb b && (((b.toNat : Int) != 10) || (!true)) := by
 induction l with
 | nil => rfl
 | cons b l ih =>
  have e : ((b.toNat : Int) != 10) = (b != 10) := by
   rw [Bool.eq_iff_iff, bne_iff_ne, bne_iff_ne]
   constructor
   ·rintro h rfl
    exact h rfl
   ·intro h h2
    exact h (UInt8.toNat_inj.1 (by show b.toNat = 10; omega))
  rw [List.filter_cons, List.any_cons, ← ih, e]
  by_cases h : (b != 10) = true
  ·rw [if_pos h, List.any_cons, h]
   simp
  ·rw [if_neg h]
   rw [Bool.not_eq_true] at h
   rw [h]
   simp
def textBad (v : know_Entry) : Int := if ((decide ((200 : Int) < (v.title.size : Int))) || (decide ((20000 : Int) < (v.body.size : Int)))) = true then 4 else if (v.title.data.toList.any lowb || (v.body.data.toList.any fun b => lowb b && (((b.toNat : Int) != 10) || (!true)))) = true then 9 else 0
theorem textBad_code (v : know_Entry) : know_checkText v.title v.body = some (textBad v) := by
 unfold know_checkText textBad
 by_cases h4 : ((decide ((200 : Int) < (v.title.size : Int))) || (decide ((20000 : Int) < (v.body.size : Int)))) = true
 ·rw [if_pos h4, if_pos h4]
 rw [if_neg h4, if_neg h4]
 have ht : v.title.size ≤ 200 ∧ v.body.size ≤ 20000 := by simp at h4; omega
 rw [plain_val v.title false (by omega), plain_val v.body true (by omega)]
 have e : (v.title.data.toList.any fun b => lowb b && (((b.toNat : Int) != 10) || (!false))) = v.title.data.toList.any lowb := by
  congr 1
  funext b
  simp
 rw [e]
 generalize (v.body.data.toList.any fun b => lowb b && (((b.toNat : Int) != 10) || (!true))) = bb
 cases v.title.data.toList.any lowb with
 | true => simp
 | false => cases bb <;> rfl
theorem textBad_ref (v : know_Entry) : portref2_entryFault v = some (textBad v) := by
 unfold portref2_entryFault textBad
 by_cases h4 : ((decide ((200 : Int) < (v.title.size : Int))) || (decide ((20000 : Int) < (v.body.size : Int)))) = true
 ·rw [if_pos h4, if_pos h4]
 rw [if_neg h4, if_neg h4]
 have ht : v.title.size ≤ 200 ∧ v.body.size ≤ 20000 := by simp at h4; omega
 rw [lowByte_val, replace_val v.body (by omega)]
 simp only [Option.bind_some, lowByte_val]
 have e : ((⟨(v.body.data.toList.filter (· != 10)).toArray⟩ : ByteArray).data.toList.any lowb) = (v.body.data.toList.any fun b => lowb b && (((b.toNat : Int) != 10) || (!true))) := feeds_low _
 rw [e]
 generalize (v.body.data.toList.any fun b => lowb b && (((b.toNat : Int) != 10) || (!true))) = bb
 cases v.title.data.toList.any lowb with
 | true => rfl
 | false => cases bb <;> rfl
theorem textBad_size {v : know_Entry} (h : textBad v = 0) : v.title.size ≤ 200 ∧ v.body.size ≤ 20000 := by
 unfold textBad at h
 by_cases h4 : ((decide ((200 : Int) < (v.title.size : Int))) || (decide ((20000 : Int) < (v.body.size : Int)))) = true
 ·rw [if_pos h4] at h
  cases h
 ·simp at h4
  omega
end Go.Proofs.YtldkdabcdbgpbaaGreatDoor.M
namespace Go.Proofs.YtldkdabcdbgpbaaGreatDoor.M
open Go Go.Pu
set_option linter.unusedSimpArgs false
set_option linter.unusedVariables false
theorem rise_ext {α : Type} {r : α → α → Prop} (irr : ∀ a, ¬ r a a) (tr : ∀ a b c, r a b → r b c → r a c) : ∀ {l m : List α}, l.Pairwise r → m.Pairwise r → (∀ x, x ∈ l ↔ x ∈ m) → l = m
 | [], m, _, _, h => by
  cases m with
  | nil => rfl
  | cons x m => exact absurd ((h x).2 List.mem_cons_self) (by simp)
 | x :: l, [], _, _, h => absurd ((h x).1 List.mem_cons_self) (by simp)
 | x :: l, y :: m, hl, hm, h => by
  rw [List.pairwise_cons] at hl hm
  have hxy : x = y := by
   rcases List.mem_cons.1 ((h x).1 List.mem_cons_self) with h1 | h1
   ·exact h1
   ·rcases List.mem_cons.1 ((h y).2 List.mem_cons_self) with h2 | h2
    ·exact h2.symm
    ·exact absurd (tr _ _ _ (hl.1 y h2) (hm.1 x h1)) (irr x)
  subst hxy
  congr 1
  refine rise_ext irr tr hl.2 hm.2 fun z => ⟨fun hz => ?_, fun hz => ?_⟩
  ·rcases List.mem_cons.1 ((h z).1 (List.mem_cons_of_mem _ hz)) with h1 | h1
   ·exact absurd (h1 ▸ hl.1 z hz) (irr x)
   ·exact h1
  ·rcases List.mem_cons.1 ((h z).2 (List.mem_cons_of_mem _ hz)) with h1 | h1
   ·exact absurd (h1 ▸ hm.1 z hz) (irr x)
   ·exact h1
structure KeyOrd (α κ : Type) where
 key : α → κ
 lt : κ → κ → Prop
 irr : ∀ a, ¬ lt a a
 tr : ∀ a b c, lt a b → lt b c → lt a c
 tot : ∀ a b, lt a b ∨ a = b ∨ lt b a
section
variable {α κ : Type} (O : KeyOrd α κ)
def KeyOrd.Rise (l : List α) : Prop := l.Pairwise fun a b => O.lt (O.key a) (O.key b)
open Classical in
noncomputable def KeyOrd.mrg : List α → List α → List α
 | [], b => b
 | a :: a1, [] => a :: a1
 | a :: a1, b :: b1 => if O.lt (O.key a) (O.key b) then a :: KeyOrd.mrg a1 (b :: b1) else if O.key a = O.key b then b :: KeyOrd.mrg a1 b1 else b :: KeyOrd.mrg (a :: a1) b1
termination_by a b => a.length + b.length
variable {O}
theorem KeyOrd.asym {a b : κ} (h1 : O.lt a b) (h2 : O.lt b a) : False := O.irr a (O.tr _ _ _ h1 h2)
theorem KeyOrd.mrg_nil (b : List α) : O.mrg [] b = b := by rw [KeyOrd.mrg]
theorem KeyOrd.mrg_nil2 (a : List α) : O.mrg a [] = a := by cases a <;> rw [KeyOrd.mrg]
theorem KeyOrd.mrg_len (n : Nat) : ∀ (a b : List α), a.length + b.length = n → (O.mrg a b).length ≤ a.length + b.length := by
 induction n using Nat.strongRecOn with
 | ind n ih =>
  intro a b hn
  cases a with
  | nil => rw [mrg_nil]; simp
  | cons x a =>
   cases b with
   | nil => rw [mrg_nil2]; simp
   | cons y b =>
    simp only [List.length_cons] at hn
    rw [KeyOrd.mrg]
    split
    ·have := ih (a.length + (y :: b).length) (by simp; omega) a (y :: b) rfl
     simp only [List.length_cons] at this ⊢
     omega
    ·split
     ·have := ih (a.length + b.length) (by omega) a b rfl
      simp only [List.length_cons] at this ⊢
      omega
     ·have := ih ((x :: a).length + b.length) (by simp; omega) (x :: a) b rfl
      simp only [List.length_cons] at this ⊢
      omega
theorem KeyOrd.mrg_spec (n : Nat) : ∀ (a b : List α), a.length + b.length = n → O.Rise a → O.Rise b → O.Rise (O.mrg a b) ∧ ∀ x, x ∈ O.mrg a b ↔ x ∈ b ∨ (x ∈ a ∧ ∀ y ∈ b, O.key y ≠ O.key x) := by
 induction n using Nat.strongRecOn with
 | ind n ih =>
  intro a b hn ha hb
  cases a with
  | nil =>
   rw [mrg_nil]
   exact ⟨hb, fun x => ⟨.inl, fun h => h.elim id fun h => nomatch h.1⟩⟩
  | cons p a =>
   cases b with
   | nil =>
    rw [mrg_nil2]
    exact ⟨ha, fun x => ⟨fun h => .inr ⟨h, fun y hy => nomatch hy⟩, fun h => h.elim (fun h => nomatch h) fun h => h.1⟩⟩
   | cons q b =>
    simp only [List.length_cons] at hn
    have ha' := List.pairwise_cons.1 ha
    have hb' := List.pairwise_cons.1 hb
    rw [KeyOrd.mrg]
    split
    ·rename_i hlt
     obtain ⟨h1, h2⟩ := ih (a.length + (q :: b).length) (by simp; omega) a (q :: b) rfl ha'.2 hb
     refine ⟨List.pairwise_cons.2 ⟨fun x hx => ?_, h1⟩, fun x => ?_⟩
     ·rcases (h2 x).1 hx with h3 | h3
      ·rcases List.mem_cons.1 h3 with rfl | h4
       ·exact hlt
       ·exact O.tr _ _ _ hlt (hb'.1 x h4)
      ·exact ha'.1 x h3.1
     ·rw [List.mem_cons, h2 x, List.mem_cons]
      have hp : ∀ y ∈ q :: b, O.key y ≠ O.key p := fun y hy e => by
       rcases List.mem_cons.1 hy with rfl | h4
       ·rw [e] at hlt; exact O.irr _ hlt
       ·have := O.tr _ _ _ hlt (hb'.1 y h4)
        rw [e] at this
        exact O.irr _ this
      constructor
      ·rintro (rfl | h3 | h3)
       ·exact .inr ⟨List.mem_cons_self, hp⟩
       ·exact .inl h3
       ·exact .inr ⟨List.mem_cons_of_mem _ h3.1, h3.2⟩
      ·rintro (h3 | ⟨h3, h4⟩)
       ·exact .inr (.inl h3)
       ·rcases List.mem_cons.1 h3 with rfl | h5
        ·exact .inl rfl
        ·exact .inr (.inr ⟨h5, h4⟩)
    ·rename_i hnlt
     split
     ·rename_i heq
      obtain ⟨h1, h2⟩ := ih (a.length + b.length) (by omega) a b rfl ha'.2 hb'.2
      refine ⟨List.pairwise_cons.2 ⟨fun x hx => ?_, h1⟩, fun x => ?_⟩
      ·rcases (h2 x).1 hx with h3 | h3
       ·exact hb'.1 x h3
       ·rw [← heq]; exact ha'.1 x h3.1
      ·rw [List.mem_cons, h2 x]
       constructor
       ·rintro (rfl | h3 | ⟨h3, h4⟩)
        ·exact .inl List.mem_cons_self
        ·exact .inl (List.mem_cons_of_mem _ h3)
        ·refine .inr ⟨List.mem_cons_of_mem _ h3, fun y hy e => ?_⟩
         rcases List.mem_cons.1 hy with rfl | h5
         ·have := ha'.1 x h3
          rw [heq, e] at this
          exact O.irr _ this
         ·exact h4 y h5 e
       ·rintro (h3 | ⟨h3, h4⟩)
        ·rcases List.mem_cons.1 h3 with rfl | h5
         ·exact .inl rfl
         ·exact .inr (.inl h5)
        ·rcases List.mem_cons.1 h3 with rfl | h5
         ·exact absurd heq.symm (h4 q List.mem_cons_self)
         ·exact .inr (.inr ⟨h5, fun y hy => h4 y (List.mem_cons_of_mem _ hy)⟩)
     ·rename_i hne
      have hgt : O.lt (O.key q) (O.key p) := by
       rcases O.tot (O.key p) (O.key q) with h | h | h
       ·exact absurd h hnlt
       ·exact absurd h hne
       ·exact h
      obtain ⟨h1, h2⟩ := ih ((p :: a).length + b.length) (by simp; omega) (p :: a) b rfl ha hb'.2
      refine ⟨List.pairwise_cons.2 ⟨fun x hx => ?_, h1⟩, fun x => ?_⟩
      ·rcases (h2 x).1 hx with h3 | h3
       ·exact hb'.1 x h3
       ·rcases List.mem_cons.1 h3.1 with rfl | h5
        ·exact hgt
        ·exact O.tr _ _ _ hgt (ha'.1 x h5)
      ·rw [List.mem_cons, h2 x]
       constructor
       ·rintro (rfl | h3 | ⟨h3, h4⟩)
        ·exact .inl List.mem_cons_self
        ·exact .inl (List.mem_cons_of_mem _ h3)
        ·refine .inr ⟨h3, fun y hy e => ?_⟩
         rcases List.mem_cons.1 hy with rfl | h5
         ·rcases List.mem_cons.1 h3 with rfl | h6
          ·exact hne e.symm
          ·have := O.tr _ _ _ hgt (ha'.1 x h6)
           rw [e] at this
           exact O.irr _ this
         ·exact h4 y h5 e
       ·rintro (h3 | ⟨h3, h4⟩)
        ·rcases List.mem_cons.1 h3 with rfl | h5
         ·exact .inl rfl
         ·exact .inr (.inl h5)
        ·exact .inr (.inr ⟨h3, fun y hy => h4 y (List.mem_cons_of_mem _ hy)⟩)
end
theorem merge_loop {α κ R : Type} (O : KeyOrd α κ) (cmp : α → α → Option Int) (lim : Nat) (hc : ∀ a b, ∃ c, cmp a b = some c ∧ (c < 0 ↔ O.lt (O.key a) (O.key b)) ∧ (c = 0 ↔ O.key a = O.key b)) (a b : List α) (hlen : a.length + b.length ≤ lim)
  (body : List α × List α × List α → Option (Ctl (List α × List α × List α) R))
  (hbody : ∀ s, body s = if ((decide ((0 : Int) < (s.1.length : Int))) && (decide ((0 : Int) < (s.2.1.length : Int)))) = true then Option.bind (Option.bind (idx s.1 0) fun x54 => Option.bind (idx s.2.1 0) fun x63 => Option.bind (cmp x54 x63) fun x72 => if (decide (x72 < 0)) = true then Option.bind (appendL lim s.2.2 ([x54] : List α)) fun x96 => Option.bind (sliceL s.1 (some 1) none) fun x102 => some (x102, s.2.1, x96) else Option.bind (if (x72 == 0) = true then Option.bind (sliceL s.1 (some 1) none) fun x115 => some x115 else some s.1) fun s107 => Option.bind (appendL lim s.2.2 ([x63] : List α)) fun x139 => Option.bind (sliceL s.2.1 (some 1) none) fun x145 => some (s107, x145, x139)) fun s41 => some (.nx (s41.1, s41.2.1, s41.2.2)) else some (.bk (s.1, s.2.1, s.2.2))) :
  ∃ s6 y, whileB body (a, b, []) = some (.fin s6) ∧ appendL lim s6.2.2 s6.1 = some y ∧ appendL lim y s6.2.1 = some (O.mrg a b) := by
 have tl : ∀ (x : α) (l : List α), sliceL (x :: l) (some 1) none = some l := fun x l => by
  unfold sliceL bounds
  simp
  omega
 have fin : ∀ (p : List α × List α × List α), p.2.2 ++ O.mrg p.1 p.2.1 = O.mrg a b → p.2.2.length + p.1.length + p.2.1.length ≤ lim → (p.1 = [] ∨ p.2.1 = []) → ∃ y, appendL lim p.2.2 p.1 = some y ∧ appendL lim y p.2.1 = some (O.mrg a b) := by
  rintro ⟨u, v, t⟩ h1 h2 h3
  dsimp only at h1 h2 h3 ⊢
  unfold appendL
  refine ⟨t ++ u, if_pos (by omega), ?_⟩
  rw [if_pos (by rw [List.length_append]; omega)]
  rcases h3 with rfl | rfl
  ·rw [← h1, KeyOrd.mrg_nil, List.append_nil]
  ·rw [← h1, KeyOrd.mrg_nil2, List.append_nil]
 obtain ⟨o, ho, p, rfl, h1, h2, h3⟩ := whileB_spec (R := R) (body := body) (fun s => s.2.2 ++ O.mrg s.1 s.2.1 = O.mrg a b ∧ s.2.2.length + s.1.length + s.2.1.length ≤ lim) (fun s => s.1.length + s.2.1.length)
  (fun o => ∃ p, o = .fin p ∧ p.2.2 ++ O.mrg p.1 p.2.1 = O.mrg a b ∧ p.2.2.length + p.1.length + p.2.1.length ≤ lim ∧ (p.1 = [] ∨ p.2.1 = [])) (s := (a, b, [])) ⟨rfl, by simpa using hlen⟩ (by
  rintro ⟨u, v, t⟩ ⟨i1, i2⟩
  dsimp only at i1 i2
  rw [hbody]
  dsimp only
  cases u with
  | nil =>
   rw [if_neg (by simp)]
   exact ⟨_, rfl, _, rfl, i1, i2, .inl rfl⟩
  | cons x u =>
   cases v with
   | nil =>
    rw [if_neg (by simp)]
    exact ⟨_, rfl, _, rfl, i1, i2, .inr rfl⟩
   | cons y v =>
    rw [if_pos (by simp <;> omega)]
    have ix : idx (x :: u) 0 = some x := rfl
    have iy : idx (y :: v) 0 = some y := rfl
    obtain ⟨c, c1, c2, c3⟩ := hc x y
    simp only [List.length_cons] at i2
    have ap : ∀ z : α, appendL lim t [z] = some (t ++ [z]) := fun z => by
     unfold appendL
     rw [if_pos (by rw [List.length_singleton]; omega)]
    simp only [ix, iy, Option.bind_some, c1, tl, ap]
    by_cases h : c < 0
    ·rw [if_pos (decide_eq_true h)]
     refine ⟨_, rfl, ⟨?_, by simp <;> omega⟩, by simp <;> omega⟩
     dsimp only
     rw [← i1, KeyOrd.mrg, if_pos (c2.1 h)]
     simp
    ·rw [if_neg (by simpa using h)]
     by_cases h0 : c = 0
     ·have e0 : (c == 0) = true := by simpa using h0
      simp only [e0, if_true, Option.bind_some]
      refine ⟨_, rfl, ⟨?_, by simp <;> omega⟩, by simp <;> omega⟩
      dsimp only
      rw [← i1, KeyOrd.mrg, if_neg (fun h5 => h (c2.2 h5)), if_pos (c3.1 h0)]
      simp
     ·have e0 : (c == 0) = false := by simpa using h0
      simp only [e0, Bool.false_eq_true, if_false, Option.bind_some]
      refine ⟨_, rfl, ⟨?_, by simp <;> omega⟩, by simp <;> omega⟩
      dsimp only
      rw [← i1, KeyOrd.mrg, if_neg (fun h5 => h (c2.2 h5)), if_neg (fun h5 => h0 (c3.2 h5))]
      simp)
 obtain ⟨y, y1, y2⟩ := fin p h1 h2 h3
 exact ⟨p, y, ho, y1, y2⟩
end Go.Proofs.YtldkdabcdbgpbaaGreatDoor.M
namespace Go.Proofs.YtldkdabcdbgpbaaGreatDoor.M
open Go Go.Pu
set_option linter.unusedSimpArgs false
set_option linter.unusedVariables false
noncomputable def stemF (w : ByteArray) : ByteArray := (know_Stem w).getD w
theorem stemF_val (w : ByteArray) (hw : w.size ≤ 1000000000000) : know_Stem w = some (stemF w) ∧ portref2_StemOf w = some (stemF w) := by
 obtain ⟨r, h1, h2⟩ := stem_eq w hw
 have : stemF w = r := by unfold stemF; rw [h1]; rfl
 rw [this]
 exact ⟨h1, h2⟩
theorem wordsF_small : ∀ (n : Nat) (l : List UInt8), ∀ w ∈ wordsF n l, w.size ≤ 30
 | 0, _, w, h => by cases h
 | n + 1, [], w, h => by cases h
 | n + 1, b :: l, w, h => by
  rw [wordsF] at h
  rcases List.mem_append.1 h with h1 | h1
  ·unfold headW at h1
   split at h1
   ·rename_i hc
    rw [List.mem_singleton] at h1
    subst h1
    unfold lowL
    show (List.map low8 (List.takeWhile wb (b :: l))).toArray.size ≤ 30
    rw [List.size_toArray, List.length_map]
    exact hc.2
   ·cases h1
  ·exact wordsF_small n _ w h1
theorem words_small (l : List UInt8) : ∀ w ∈ wordsL l, w.size ≤ 30 := wordsF_small _ _
theorem words_len (l : List UInt8) : (wordsL l).length ≤ l.length := wordsF_length _ _
noncomputable def stemsL (s : ByteArray) : List ByteArray := (wordsL s.data.toList).map stemF
theorem stemsL_len (s : ByteArray) : (stemsL s).length ≤ s.size := by
 unfold stemsL
 rw [List.length_map]
 exact words_len _
open Classical in
noncomputable def pos (S : List ByteArray) (s : ByteArray) (k : Nat) : List Int := ((List.range k).filter fun i => S[i]? = some s).map fun (i : Nat) => (i : Int)
theorem pos_zero (S : List ByteArray) (s : ByteArray) : pos S s 0 = [] := rfl
theorem pos_succ (S : List ByteArray) (s : ByteArray) (k : Nat) : pos S s (k + 1) = if S[k]? = some s then pos S s k ++ [(k : Int)] else pos S s k := by
 unfold pos
 rw [List.range_succ, List.filter_append, List.map_append]
 by_cases h : S[k]? = some s
 ·rw [if_pos h]
  simp [h]
 ·rw [if_neg h]
  simp [h]
theorem pos_len (S : List ByteArray) (s : ByteArray) (k : Nat) : (pos S s k).length ≤ k := by
 unfold pos
 rw [List.length_map]
 exact Nat.le_trans (List.length_filter_le _ _) (by simp)
noncomputable def postAt (v : know_Entry) (kt kb : Nat) (s : ByteArray) : know_Posting := ⟨v.id_, pos (stemsL v.title) s kt, pos (stemsL v.body) s kb⟩
def postE (p : know_Posting) : Prop := p.title = [] ∧ p.body = []
instance (p : know_Posting) : Decidable (postE p) := inferInstanceAs (Decidable (p.title = [] ∧ p.body = []))
noncomputable def postOf (v : know_Entry) (s : ByteArray) : know_Posting := postAt v (stemsL v.title).length (stemsL v.body).length s
def hasS (v : know_Entry) (s : ByteArray) : Prop := ¬ postE (postOf v s)
theorem mapPut_keys {κ α : Type} [DecidableEq κ] (l : List (κ × α)) (k : κ) (v : α) : (mapPut l k v).map (·.1) = if (mapGet l k).isSome = true then l.map (·.1) else l.map (·.1) ++ [k] := by
 have hg : (mapGet l k).isSome = true ↔ ∃ p ∈ l, p.1 = k := by
  induction l with
  | nil => simp [mapGet]
  | cons p l ih =>
   rw [mapGet]
   by_cases h : p.1 = k
   ·rw [if_pos h]
    exact ⟨fun _ => ⟨p, List.mem_cons_self, h⟩, fun _ => rfl⟩
   ·rw [if_neg h, ih]
    constructor
    ·rintro ⟨q, hq, e⟩
     exact ⟨q, List.mem_cons_of_mem _ hq, e⟩
    ·rintro ⟨q, hq, e⟩
     rcases List.mem_cons.1 hq with rfl | hq
     ·exact absurd e h
     ·exact ⟨q, hq, e⟩
 unfold mapPut
 by_cases h : ∃ p ∈ l, p.1 = k
 ·rw [if_pos h, if_pos (hg.2 h), List.map_map]
  refine List.map_congr_left fun q _ => ?_
  by_cases hq : q.1 = k
  ·simp [hq]
  ·simp [hq]
 ·rw [if_neg h, if_neg fun e => h (hg.1 e), List.map_append]
  rfl
theorem mapGet_mem {κ α : Type} [DecidableEq κ] {l : List (κ × α)} {k : κ} : (mapGet l k).isSome = true ↔ k ∈ l.map (·.1) := by
 induction l with
 | nil => simp [mapGet]
 | cons p l ih =>
  rw [mapGet, List.map_cons, List.mem_cons]
  by_cases h : p.1 = k
  ·rw [if_pos h]
   exact ⟨fun _ => .inl h.symm, fun _ => rfl⟩
  ·rw [if_neg h, ih]
   exact ⟨.inr, fun h2 => h2.elim (fun e => absurd e.symm h) id⟩
theorem nodup_snoc {α : Type} {l : List α} {x : α} (h : l.Nodup) (hx : x ∉ l) : (l ++ [x]).Nodup := by
 rw [List.nodup_append]
 refine ⟨h, by simp, fun a ha b hb e => ?_⟩
 rw [List.mem_singleton] at hb
 subst hb
 exact hx (e ▸ ha)
structure Noted (v : know_Entry) (kt kb : Nat) (s : List (ByteArray × know_Posting) × List ByteArray) : Prop where
 get : ∀ t, mapGet s.1 t = if postE (postAt v kt kb t) then none else some (postAt v kt kb t)
 keys : s.2 = s.1.map (·.1)
 nod : s.2.Nodup
 len : s.2.length ≤ kt + kb
theorem Noted.getD {v : know_Entry} {kt kb : Nat} {s : List (ByteArray × know_Posting) × List ByteArray} (h : Noted v kt kb s) (t : ByteArray) : (mapGet s.1 t).getD ⟨v.id_, [], []⟩ = postAt v kt kb t := by
 rw [h.get]
 split
 ·rename_i he
  obtain ⟨h1, h2⟩ := he
  show (⟨v.id_, [], []⟩ : know_Posting) = postAt v kt kb t
  unfold postAt at h1 h2 ⊢
  dsimp only at h1 h2
  rw [h1, h2]
 ·rfl
theorem note_round (v : know_Entry) (title : Bool) (hl : (stemsL v.title).length ≤ 1000000 ∧ (stemsL v.body).length ≤ 1000000) (kt kb : Nat) (hkt : kt ≤ (stemsL v.title).length) (hkb : kb ≤ (stemsL v.body).length) (hlt : if title = true then kt < (stemsL v.title).length else kb < (stemsL v.body).length)
  (s : List (ByteArray × know_Posting) × List ByteArray) (hs : Noted v kt kb s) : ∃ s', idxNote v.id_ title (wordsL (if title = true then v.title else v.body).data.toList) (if title = true then kt else kb) s = some (.nx s') ∧ Noted v (if title = true then kt + 1 else kt) (if title = true then kb else kb + 1) s' := by
 unfold idxNote
 have key : ∀ (tx : ByteArray) (k : Nat), k < (stemsL tx).length → ∃ w, (wordsL tx.data.toList)[k]? = some w ∧ know_Stem w = some (stemF w) ∧ (stemsL tx)[k]? = some (stemF w) := fun tx k hk => by
  unfold stemsL at hk ⊢
  rw [List.length_map] at hk
  refine ⟨(wordsL tx.data.toList)[k], List.getElem?_eq_getElem hk, (stemF_val _ ?_).1, by simp [hk]⟩
  have := words_small tx.data.toList _ (List.getElem_mem hk)
  omega
 obtain ⟨w, h1, h2, h3⟩ := key (if title = true then v.title else v.body) (if title = true then kt else kb) (by cases title <;> simpa using hlt)
 generalize stemF w = t at h2 h3
 rw [idx_nat, h1, Option.bind_some, h2, Option.bind_some]
 have hq : ∃ q, (if (mapGet s.1 t).isSome = true then some s.2 else appendL 8796093022208 s.2 [t]) = some q ∧ q = (if (mapGet s.1 t).isSome = true then s.2 else s.2 ++ [t]) ∧ q.Nodup ∧ q.length ≤ kt + kb + 1 := by
  by_cases hi : (mapGet s.1 t).isSome = true
  ·rw [if_pos hi, if_pos hi]
   exact ⟨_, rfl, rfl, hs.nod, by have := hs.len; omega⟩
  ·rw [if_neg hi, if_neg hi]
   unfold appendL
   have := hs.len
   rw [if_pos (by rw [List.length_singleton]; omega)]
   refine ⟨_, rfl, rfl, nodup_snoc hs.nod ?_, by rw [List.length_append, List.length_singleton]; omega⟩
   rw [hs.keys]
   exact fun hm => hi (mapGet_mem.2 hm)
 obtain ⟨q, q1, q2, q3, q4⟩ := hq
 rw [q1, Option.bind_some]
 unfold idxPut
 rw [hs.getD t]
 have fin : ∀ (kt' kb' : Nat) (p : know_Posting), p = postAt v kt' kb' t → ¬ postE p → (∀ t', t' ≠ t → postAt v kt' kb' t' = postAt v kt kb t') → kt + kb + 1 ≤ kt' + kb' → Noted v kt' kb' (mapPut s.1 t p, q) := fun kt' kb' p hp hne ho hle => by
  refine ⟨fun t' => ?_, ?_, q3, by dsimp only; omega⟩
  ·dsimp only
   rw [mapGet_put_]
   by_cases he : t = t'
   ·subst he
    rw [if_pos rfl, ← hp, if_neg hne]
   ·rw [if_neg he, hs.get, ho t' (Ne.symm he)]
  ·dsimp only
   rw [mapPut_keys, q2, hs.keys]
 cases title with
 | true =>
  simp only [if_true] at h3 hlt ⊢
  have hlp := pos_len (stemsL v.title) t kt
  unfold appendL
  rw [if_pos (by show (pos (stemsL v.title) t kt).length + _ ≤ _; rw [List.length_singleton]; omega), Option.bind_some, Option.bind_some]
  refine ⟨_, rfl, fin (kt + 1) kb _ ?_ ?_ (fun t' hne => ?_) (by omega)⟩
  ·unfold postAt
   dsimp only
   rw [pos_succ, if_pos h3]
  ·rintro ⟨e, _⟩
   simp at e
  ·unfold postAt
   rw [pos_succ, if_neg]
   rw [h3]
   exact fun e => hne (Option.some.inj e).symm
 | false =>
  simp only [Bool.false_eq_true, if_false] at h3 hlt ⊢
  have hlp := pos_len (stemsL v.body) t kb
  unfold appendL
  rw [if_pos (by show (pos (stemsL v.body) t kb).length + _ ≤ _; rw [List.length_singleton]; omega), Option.bind_some, Option.bind_some]
  refine ⟨_, rfl, fin kt (kb + 1) _ ?_ ?_ (fun t' hne => ?_) (by omega)⟩
  ·unfold postAt
   dsimp only
   rw [pos_succ, if_pos h3]
  ·rintro ⟨_, e⟩
   simp at e
  ·unfold postAt
   rw [pos_succ (stemsL v.body), if_neg]
   rw [h3]
   exact fun e => hne (Option.some.inj e).symm
def Sorted (l : List ByteArray) : Prop := l.Pairwise fun a b => cmpS a b < 0
theorem le_cmp : ∀ a b : List UInt8, a ≤ b ↔ Go.Lib.compareBytes a b ≤ 0
 | [], [] => by simp [Go.Lib.compareBytes]
 | [], _ :: _ => by simp [Go.Lib.compareBytes]
 | _ :: _, [] => by simp [Go.Lib.compareBytes]
 | a :: x, b :: y => by
  rw [Go.Lib.compareBytes, List.cons_le_cons_iff, le_cmp x y]
  by_cases h1 : a < b
  ·simp [h1]
  ·rw [if_neg h1]
   by_cases h2 : b < a
   ·rw [if_pos h2]
    have : ¬ a = b := fun e => by rw [u8_lt, e] at h2; omega
    simp [h1, this]
   ·rw [if_neg h2]
    have : a = b := UInt8.toNat_inj.1 (by rw [u8_lt] at h1 h2; omega)
    simp [this]
theorem sortStrs_val {l : List ByteArray} (hl : l.length < 4611686018427387904) (hn : l.Nodup) : ∃ q, sortStrsL l = some q ∧ Sorted q ∧ ∀ s, s ∈ q ↔ s ∈ l := by
 unfold sortStrsL
 rw [if_pos hl]
 have hp := List.mergeSort_perm (bytesOf l) fun x y => decide (x ≤ y)
 have hw := List.pairwise_mergeSort (le := fun x y : List UInt8 => decide (x ≤ y)) (fun a b c h1 h2 => by simp only [decide_eq_true_eq] at *; exact List.le_trans h1 h2) (fun a b => by simp only [Bool.or_eq_true, decide_eq_true_eq]; exact List.le_total a b) (bytesOf l)
 generalize (bytesOf l).mergeSort (fun x y => decide (x ≤ y)) = m at hp hw
 have hps : (strsOf m).Perm l := by
  have := hp.map fun b => (⟨b.toArray⟩ : ByteArray)
  have h2 := strsOf_bytes l
  unfold strsOf at h2
  rw [h2] at this
  exact this
 refine ⟨_, rfl, ?_, fun s => hps.mem_iff⟩
 have hn2 := hps.nodup_iff.2 hn
 unfold Sorted
 have h3 : (strsOf m).Pairwise fun a b => cmpS a b ≤ 0 := by
  unfold strsOf
  rw [List.pairwise_map]
  refine hw.imp fun {a b} h => ?_
  have h4 : a ≤ b := by simpa using h
  have := (le_cmp a b).1 h4
  unfold cmpS
  simpa using this
 have := h3.and hn2
 refine this.imp fun {a b} h => ?_
 have h5 : cmpS a b ≠ 0 := fun e => h.2 ((cmpS_zero a b).1 e)
 have := h.1
 omega
theorem postings_val (v : know_Entry) (ht : v.title.size ≤ 200) (hb : v.body.size ≤ 20000) :
  ∃ q, know_postings v = some (q.map fun s => (⟨s, [postOf v s]⟩ : know_Term), ((stemsL v.title).length : Int) + ((stemsL v.body).length : Int)) ∧ Sorted q ∧ (∀ s, s ∈ q ↔ hasS v s) ∧ q.length ≤ 20200 := by
 have lt := stemsL_len v.title
 have lb := stemsL_len v.body
 have wl : ∀ s : ByteArray, (wordsL s.data.toList).length = (stemsL s).length := fun s => by unfold stemsL; rw [List.length_map]
 unfold know_postings know_postings_note
 obtain ⟨s1, h1, i1⟩ := rangeB_inv (R := Empty) (b := idxNote v.id_ true (wordsL v.title.data.toList)) (stemsL v.title).length (fun k s => k ≤ (stemsL v.title).length ∧ Noted v k 0 s) (s := ([], []))
  ⟨Nat.zero_le _, ⟨fun t => by unfold postE postAt; simp [mapGet, pos_zero], rfl, List.nodup_nil, Nat.zero_le _⟩⟩ (fun k s hk hI => by
   obtain ⟨s', e1, e2⟩ := note_round v true (by omega) k 0 (by omega) (by omega) (by simpa using hk) s hI.2
   exact ⟨s', by simpa using e1, by omega, by simpa using e2⟩)
 rw [know_Words_val v.title (by omega), Option.bind_some, wl, h1]
 simp only [Option.bind_some, Lp.andThen_fin]
 obtain ⟨s2, h2, i2⟩ := rangeB_inv (R := Empty) (b := idxNote v.id_ false (wordsL v.body.data.toList)) (stemsL v.body).length (fun k s => k ≤ (stemsL v.body).length ∧ Noted v (stemsL v.title).length k s) (s := s1)
  ⟨Nat.zero_le _, i1.2⟩ (fun k s hk hI => by
   obtain ⟨s', e1, e2⟩ := note_round v false (by omega) (stemsL v.title).length k (by omega) (by omega) (by simpa using hk) s hI.2
   exact ⟨s', by simpa using e1, by omega, by simpa using e2⟩)
 rw [know_Words_val v.body (by omega), Option.bind_some, wl, h2]
 simp only [Option.bind_some, Lp.andThen_fin]
 have hN := i2.2
 have hlen := hN.len
 obtain ⟨q, hq, q1, q2⟩ := sortStrs_val (by omega) hN.nod
 rw [hq, Option.bind_some]
 have hmem : ∀ s, s ∈ q ↔ hasS v s := fun s => by
  rw [q2, hN.keys, ← mapGet_mem, hN.get]
  unfold hasS postOf
  split <;> simp [*]
 have hql : q.length = s2.2.length := by
  unfold sortStrsL at hq
  rw [if_pos (by omega)] at hq
  have := congrArg List.length (Option.some.inj hq)
  rw [← this]
  unfold strsOf bytesOf
  rw [List.length_map, List.length_mergeSort, List.length_map]
 obtain ⟨L, h3, i3⟩ := rangeB_inv (R := Empty) (b := fun k s => Option.bind (idx q (k : Int)) fun t => Option.bind (mapGet s2.1 t) fun p => Option.bind (appendL 3518437208883 s [(⟨t, [p]⟩ : know_Term)]) fun x => some (.nx x)) q.length (fun k s => s = (q.take k).map fun s => (⟨s, [postOf v s]⟩ : know_Term)) (s := []) rfl (fun k s hk hI => by
  subst hI
  have hx : q[k]? = some q[k] := List.getElem?_eq_getElem hk
  have hm := (hmem q[k]).1 (List.getElem_mem hk)
  generalize q[k] = t at hx hm
  rw [idx_nat, hx, Option.bind_some, hN.get, show postAt v (stemsL v.title).length (stemsL v.body).length t = postOf v t from rfl, if_neg hm, Option.bind_some]
  unfold appendL
  rw [if_pos (by rw [List.length_map, List.length_take, List.length_singleton]; omega), Option.bind_some]
  refine ⟨_, rfl, ?_⟩
  rw [List.take_add_one, hx, List.map_append]
  rfl)
 rw [h3, Option.bind_some, Lp.andThen_fin, i3, List.take_length, w64_id (by omega) (by omega)]
 exact ⟨q, rfl, q1, hmem, by omega⟩
end Go.Proofs.YtldkdabcdbgpbaaGreatDoor.M
