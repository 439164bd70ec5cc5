/-
  TemplateFills: the values: plain part.
-/
import Derived.Test.YtfdhiclmjfkflaaDoorTemplateFillsTplBoth
import Derived.Test.YtfdhiclmjfkflaaDoorTemplateFillsNameBase
import Derived.Test.YtfdhiclmjfkflaaDoorTemplateFillsMapBase
import Derived.Shelf.GgClosure.StringsIndexFunc
namespace Go.Proofs.YtfdhiclmjfkflaaDoor.M
open Go Go.Pu
set_option linter.unusedSimpArgs false
set_option linter.unusedVariables false

def badn (b : UInt8) : Bool := !okB b
theorem bad_byte1 (b : UInt8) (h : b.toNat < 128) : know_checkPairs_1 (b.toNat : Int) = badn b := by
  have e : ((toU8 (b.toNat : Int)).toNat : Int) = (b.toNat : Int) := by
    rw [toU8_nat]
    simp only [IntKind.wrap, IntKind.bits, IntKind.signed]
    simp
    omega
  unfold know_checkPairs_1 know_nameByte know_digit badn okB
  rw [e, decide_eq_false (by omega), Bool.false_or]
  rw [bne]
  cases decide ((97 : Int) ≤ (b.toNat : Int)) <;> cases decide ((b.toNat : Int) ≤ 122) <;> cases decide ((48 : Int) ≤ (b.toNat : Int)) <;> cases decide ((b.toNat : Int) ≤ 57) <;> cases ((b.toNat : Int) == 95) <;> rfl
theorem bad_high (b : UInt8) (h : 128 ≤ b.toNat) : badn b = true := by
  unfold badn okB
  rw [decide_eq_true (show (97 : Int) ≤ (b.toNat : Int) by omega), decide_eq_false (show ¬ (b.toNat : Int) ≤ 122 by omega), decide_eq_false (show ¬ (b.toNat : Int) ≤ 57 by omega)]
  have : ((b.toNat : Int) != 95) = true := by simp; omega
  rw [this]
  cases decide ((48 : Int) ≤ (b.toNat : Int)) <;> rfl
theorem decode_first (s : ByteArray) (i : Nat) (h : i < s.size) : (know_checkPairs_1 (((Utf8.decode s i).1 : Nat) : Int) = badn (s.get! i)) ∧ 1 ≤ (Utf8.decode s i).2 ∧ (badn (s.get! i) = false → (Utf8.decode s i).2 = 1) := by
  unfold Utf8.decode
  simp only [Nat.add_zero]
  have hb := (s.get! i).toNat_lt
  by_cases h0 : (s.get! i).toNat < 0x80
  · rw [if_pos h0]
    exact ⟨bad_byte1 _ h0, Nat.le_refl _, fun _ => rfl⟩
  rw [if_neg h0]
  have hi : badn (s.get! i) = true := bad_high _ (by omega)
  have hr : ∀ r : Nat, 128 ≤ r → know_checkPairs_1 (r : Int) = badn (s.get! i) := by
    intro r hr
    rw [hi]
    unfold know_checkPairs_1
    rw [decide_eq_true (by omega), Bool.true_or]
  have he : 128 ≤ Utf8.runeError := by decide
  rw [hi]
  rw [hi] at hr
  split
  · split
    · exact ⟨hr _ (by omega), by omega, fun h => by cases h⟩
    · exact ⟨hr _ he, Nat.le_refl _, fun h => by cases h⟩
  · split
    · split
      · rename_i h2
        rw [Bool.and_eq_true, decide_eq_true_eq] at h2
        exact ⟨hr _ (by omega), by omega, fun h => by cases h⟩
      · exact ⟨hr _ he, Nat.le_refl _, fun h => by cases h⟩
    · split
      · split
        · rename_i h2
          rw [Bool.and_eq_true, decide_eq_true_eq] at h2
          exact ⟨hr _ (by omega), by omega, fun h => by cases h⟩
        · exact ⟨hr _ he, Nat.le_refl _, fun h => by cases h⟩
      · exact ⟨hr _ he, Nat.le_refl _, fun h => by cases h⟩
theorem idx_bad (s : ByteArray) : ∀ (f i : Nat), s.size ≤ i + f → (0 ≤ Go.Lib.idxFuncFrom (fun y => know_checkPairs_1 (y : Int)) true s f i ↔ ∃ j, i ≤ j ∧ j < s.size ∧ badn (s.get! j) = true)
  | 0, i, h => by
    constructor
    · intro h0
      exact absurd h0 (by show ¬ (0 : Int) ≤ -1; decide)
    · rintro ⟨j, h1, h2, _⟩
      omega
  | f + 1, i, h => by
    unfold Go.Lib.idxFuncFrom
    by_cases hi : i < s.size
    · rw [if_pos hi]
      obtain ⟨h1, h2, h3⟩ := decode_first s i hi
      by_cases hl : badn (s.get! i) = true
      · rw [if_pos (by rw [h1]; exact hl)]
        exact ⟨fun _ => ⟨i, Nat.le_refl _, hi, hl⟩, fun _ => by omega⟩
      · rw [if_neg (by rw [h1]; exact hl), idx_bad s f _ (by omega), h3 (by simpa using hl)]
        constructor
        · rintro ⟨j, k1, k2, k3⟩
          exact ⟨j, by omega, k2, k3⟩
        · rintro ⟨j, k1, k2, k3⟩
          rcases Nat.eq_or_lt_of_le k1 with rfl | k4
          · exact absurd k3 hl
          · exact ⟨j, k4, k2, k3⟩
    · rw [if_neg hi]
      constructor
      · intro h0
        exact absurd h0 (by decide)
      · rintro ⟨j, k1, k2, _⟩
        omega
theorem contains_val (s : ByteArray) : decide (0 ≤ Go.Lib.idxFunc (fun y => know_checkPairs_1 (y : Int)) true s) = !(s.data.toList.all okB) := by
  rw [Bool.eq_iff_iff, decide_eq_true_eq, Bool.not_eq_true']
  unfold Go.Lib.idxFunc
  rw [idx_bad s s.size 0 (by omega), List.all_eq_false]
  constructor
  · rintro ⟨j, _, h2, h3⟩
    exact ⟨_, List.mem_of_getElem? (get_byte s j h2), by unfold badn at h3; simpa using h3⟩
  · rintro ⟨b, hb, hl⟩
    obtain ⟨j, hj⟩ := List.getElem?_of_mem hb
    have hlt : j < s.size := (List.getElem?_eq_some_iff.1 hj).1
    rw [get_byte s j hlt] at hj
    cases hj
    exact ⟨j, Nat.zero_le _, hlt, by unfold badn; simpa using hl⟩
/-- may a name be -/
def nameOk (s : ByteArray) : Bool := s.data.toList.all okB && ((!(strEq s (⟨#[]⟩ : ByteArray))) && (decide ((s.size : Int) ≤ 20)))
/-- values by their names; or what is wrong -/
noncomputable def prsP : List know_Pair → List (ByteArray × ByteArray) → Except Int (List (ByteArray × ByteArray))
  | [], m => .ok m
  | p :: l, m => if (!(nameOk p.name)) = true then .error 3 else if (mapGet m p.name).isSome = true then .error 6 else if (decide ((20000 : Int) < (p.value.size : Int))) = true then .error 4 else prsP l (mapPut m p.name p.value)
theorem pairs_code (l : List know_Pair) : ∀ (k : Nat) (m : List (ByteArray × ByteArray)), forL (R := List (ByteArray × ByteArray) × Int) (fun (_ : Nat) (x31 : know_Pair) (s18 : List (ByteArray × ByteArray)) => Option.bind (if (!(know_within (x31.name.size : Int) 1 20)) = true then (some true) else (some (decide (0 ≤ Go.Lib.idxFunc (fun y => know_checkPairs_1 (y : Int)) true x31.name)))) fun s45 => if s45 = true then some (.rt (([] : (List (ByteArray × ByteArray))), 3)) else if ((mapGet s18 x31.name).isSome) = true then some (.rt (([] : (List (ByteArray × ByteArray))), 6)) else if (decide ((20000 : Int) < (x31.value.size : Int))) = true then some (.rt (([] : (List (ByteArray × ByteArray))), 4)) else some (.nx (mapPut s18 x31.name x31.value))) l k m = some (match prsP l m with | .ok m => .fin m | .error e => .rt ([], e)) := by
  induction l with
  | nil => intro k m; rfl
  | cons p l ih =>
    intro k m
    rw [forL, prsP]
    have e : (if (!(know_within (p.name.size : Int) 1 20)) = true then (some true) else (some (decide (0 ≤ Go.Lib.idxFunc (fun y => know_checkPairs_1 (y : Int)) true p.name)))) = some (!(nameOk p.name)) := by
      rw [contains_val]
      unfold know_within nameOk
      have hnil : strEq p.name (⟨#[]⟩ : ByteArray) = decide ((p.name.size : Int) = 0) := by
        rw [strEq_nil, Bool.eq_iff_iff, beq_iff_eq, decide_eq_true_eq]
        have hsz : p.name.data.toList.length = p.name.size := rfl
        constructor
        · intro h
          rw [h] at hsz
          simp at hsz
          omega
        · intro h
          exact List.eq_nil_of_length_eq_zero (by omega)
      rw [hnil]
      by_cases h1 : (1 : Int) ≤ (p.name.size : Int)
      · rw [decide_eq_true h1, decide_eq_false (show ¬ (p.name.size : Int) = 0 by omega)]
        by_cases h2 : (p.name.size : Int) ≤ 20
        · rw [decide_eq_true h2]; simp
        · rw [decide_eq_false h2]; simp
      · rw [decide_eq_false h1, decide_eq_true (show (p.name.size : Int) = 0 by omega)]; simp
    simp only [e, Option.bind_some]
    by_cases h1 : (!(nameOk p.name)) = true
    · rw [if_pos h1, if_pos h1]
    · rw [if_neg h1, if_neg h1]
      by_cases h2 : (mapGet m p.name).isSome = true
      · rw [if_pos h2, if_pos h2]
      · rw [if_neg h2, if_neg h2]
        by_cases h3 : (decide ((20000 : Int) < (p.value.size : Int))) = true
        · rw [if_pos h3, if_pos h3]
        · rw [if_neg h3, if_neg h3]
          exact ih _ _
theorem pairs_ref (l : List know_Pair) : ∀ (k : Nat) (m : List (ByteArray × ByteArray)), forL (R := ByteArray × Int) (fun (_ : Nat) (x38 : know_Pair) (s25 : List (ByteArray × ByteArray)) => Option.bind (portref2_IsName x38.name) fun x52 => if (!x52) = true then some (.rt ((⟨#[]⟩ : ByteArray), 3)) else if ((mapGet s25 x38.name).isSome) = true then some (.rt ((⟨#[]⟩ : ByteArray), 6)) else if (decide ((20000 : Int) < (x38.value.size : Int))) = true then some (.rt ((⟨#[]⟩ : ByteArray), 4)) else some (.nx (mapPut s25 x38.name x38.value))) l k m = some (match prsP l m with | .ok m => .fin m | .error e => .rt ((⟨#[]⟩ : ByteArray), e)) := by
  induction l with
  | nil => intro k m; rfl
  | cons p l ih =>
    intro k m
    rw [forL, prsP]
    have e : portref2_IsName p.name = some (nameOk p.name) := isName_val p.name
    simp only [e, Option.bind_some]
    by_cases h1 : (!(nameOk p.name)) = true
    · rw [if_pos h1, if_pos h1]
    · rw [if_neg h1, if_neg h1]
      by_cases h2 : (mapGet m p.name).isSome = true
      · rw [if_pos h2, if_pos h2]
      · rw [if_neg h2, if_neg h2]
        by_cases h3 : (decide ((20000 : Int) < (p.value.size : Int))) = true
        · rw [if_pos h3, if_pos h3]
        · rw [if_neg h3, if_neg h3]
          exact ih _ _
theorem pairs_error : ∀ (l : List know_Pair) (m : List (ByteArray × ByteArray)) (e : Int), prsP l m = .error e → e ≠ 0
  | [], m, e, h => by cases h
  | p :: l, m, e, h => by
    rw [prsP] at h
    split at h
    · cases h; decide
    · split at h
      · cases h; decide
      · split at h
        · cases h; decide
        · exact pairs_error l _ e h
theorem pairs_small : ∀ (l : List know_Pair) (m m' : List (ByteArray × ByteArray)), (∀ k v, mapGet m k = some v → v.size ≤ 20000) → prsP l m = .ok m' → ∀ k v, mapGet m' k = some v → v.size ≤ 20000
  | [], m, m', h, he => by cases he; exact h
  | p :: l, m, m', h, he => by
    rw [prsP] at he
    split at he
    · cases he
    · split at he
      · cases he
      · split at he
        · cases he
        · rename_i _ _ h3
          refine pairs_small l _ m' (fun k v hk => ?_) he
          rw [mapGet_put_] at hk
          split at hk
          · cases hk; simp at h3; omega
          · exact h k v hk
theorem checkPairs_val (l : List know_Pair) : know_checkPairs l = if (decide ((40 : Int) < (l.length : Int))) = true then some ([], 4) else some (match prsP l [] with | .ok m => (m, 0) | .error e => ([], e)) := by
  unfold know_checkPairs
  by_cases h : (decide ((40 : Int) < (l.length : Int))) = true
  · rw [if_pos h, if_pos h]
  · rw [if_neg h, if_neg h]
    rw [rangeB_forL (R := List (ByteArray × ByteArray) × Int) l (fun (_ : Nat) (x31 : know_Pair) (s18 : List (ByteArray × ByteArray)) => Option.bind (if (!(know_within (x31.name.size : Int) 1 20)) = true then (some true) else (some (decide (0 ≤ Go.Lib.idxFunc (fun y => know_checkPairs_1 (y : Int)) true x31.name)))) fun s45 => if s45 = true then some (.rt (([] : (List (ByteArray × ByteArray))), 3)) else if ((mapGet s18 x31.name).isSome) = true then some (.rt (([] : (List (ByteArray × ByteArray))), 6)) else if (decide ((20000 : Int) < (x31.value.size : Int))) = true then some (.rt (([] : (List (ByteArray × ByteArray))), 4)) else some (.nx (mapPut s18 x31.name x31.value))) _ (fun k s x hx => by rw [idx_nat, hx]; rfl), pairs_code, Option.bind_some]
    cases prsP l [] with
    | ok m => rfl
    | error e => rfl
end Go.Proofs.YtfdhiclmjfkflaaDoor.M
