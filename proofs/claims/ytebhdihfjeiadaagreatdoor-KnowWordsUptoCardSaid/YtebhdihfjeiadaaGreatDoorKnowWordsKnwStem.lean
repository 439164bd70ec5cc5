/-
  Stems: code and reference agree: plain part.
-/
import Derived.Test.YtebhdihfjeiadaaGreatDoorKnowWordsWrdWords
import Derived.Lib.SlTrimSet
import Derived.KernelRfl
namespace Go.Proofs.YtebhdihfjeiadaaGreatDoor.M
open Go Go.Pu
set_option linter.unusedSimpArgs false
set_option linter.unusedVariables false

def az (b : UInt8) : Bool := decide (97 ≤ b.toNat) && decide (b.toNat ≤ 122)
def azSet : List UInt8 := [97, 98, 99, 100, 101, 102, 103, 104, 105, 106, 107, 108, 109, 110, 111, 112, 113, 114, 115, 116, 117, 118, 119, 120, 121, 122]
theorem az_all : ((List.range 256).all fun i => az (UInt8.ofNat i) == azSet.contains (UInt8.ofNat i)) = true := by kernel_rfl
theorem az_set (b : UInt8) : az b = azSet.contains b := by
  have h := List.all_eq_true.1 az_all b.toNat (List.mem_range.2 b.toNat_lt)
  rw [UInt8.ofNat_toNat] at h
  exact beq_iff_eq.1 h
theorem dropW_nil {α : Type} (p : α → Bool) : ∀ l : List α, l.dropWhile p = [] ↔ ∀ x ∈ l, p x = true
  | [] => by simp
  | x :: l => by
    by_cases h : p x = true
    · simp [List.dropWhile, h, dropW_nil p l]
    · simp [List.dropWhile, h]
theorem trimS_none (l cs : List UInt8) : Go.Lib.trimS l cs = [] ↔ ∀ x ∈ l, cs.contains x = true := by
  unfold Go.Lib.trimS Go.Lib.trimLeftS Go.Lib.trimRightS
  rw [dropW_nil]
  constructor
  · intro h x hx
    by_cases hc : cs.contains x = true
    · exact hc
    · have hlr : x ∈ l.reverse := by simpa using hx
      have key : ∀ m : List UInt8, x ∈ m → x ∈ m.dropWhile (cs.contains ·) := by
        intro m
        induction m with
        | nil => intro h; cases h
        | cons y m ih =>
          intro hm
          by_cases hy : cs.contains y = true
          · rw [List.dropWhile_cons_of_pos hy]
            rcases List.mem_cons.1 hm with rfl | hm
            · exact absurd hy hc
            · exact ih hm
          · rw [List.dropWhile_cons_of_neg hy]
            exact hm
      exact h x (by simpa using key l.reverse hlr)
  · intro h x hx
    have : x ∈ l := by
      have h1 : x ∈ l.reverse.dropWhile (cs.contains ·) := by simpa using hx
      have := (List.dropWhile_sublist (cs.contains ·)).subset h1
      simpa using this
    exact h x this
theorem suf_some (w s : ByteArray) (hw : w.size ≤ 4611686018427387904) : ∃ b, strings_HasSuffix w s = some b := by
  unfold strings_HasSuffix internal_stringslite_HasSuffix
  by_cases h : (s.size : Int) ≤ (w.size : Int)
  · rw [if_pos (by simpa using h), w64_id (by omega) (by omega)]
    have e : ((w.size : Int) - (s.size : Int)) = ((w.size - s.size : Nat) : Int) := by omega
    rw [e, sliceS_from _ _ (by omega)]
    exact ⟨_, rfl⟩
  · rw [if_neg (by simpa using h)]
    exact ⟨_, rfl⟩
theorem cut_some (w : ByteArray) (hw : w.size ≤ 4611686018427387904) (k : Nat) (hk : k ≤ w.size) : ∃ r, sliceS w none (some (w64 ((w.size : Int) - (k : Int)))) = some r ∧ r.size ≤ w.size := by
  have e : w64 ((w.size : Int) - (k : Int)) = ((w.size - k : Nat) : Int) := by rw [w64_id (by omega) (by omega)]; omega
  rw [e]
  refine ⟨w.extract 0 (w.size - k), ?_, by rw [ByteArray.size_extract]; omega⟩
  have := sliceS_nat w 0 (w.size - k) (Nat.zero_le _) (by omega)
  rw [← this]
  unfold sliceS bounds
  simp
theorem stem_eq (w : ByteArray) (hw : w.size ≤ 1000000000000) : ∃ r, know_Stem w = some r ∧ portref2_StemOf w = some r := by
  -- the loop over the bytes
  have hloop : ∃ o, whileB (fun s8 => if (decide (s8 < (w.size : Int))) = true then Option.bind (idxS w s8) fun x18 => Option.bind (if (decide ((x18.toNat : Int) < 97)) = true then (some true) else (some (decide ((122 : Int) < (x18.toNat : Int))))) fun s20 => if s20 = true then some (.rt w) else some (.nx (w64 (s8 + 1))) else some (.bk s8)) 0 = some o ∧ ((o = .rt w ∧ ∃ b ∈ w.data.toList, az b = false) ∨ (o = .fin ((w.size : Nat) : Int) ∧ ∀ b ∈ w.data.toList, az b = true)) := by
    refine whileB_spec (fun s => ∃ k : Nat, s = (k : Int) ∧ k ≤ w.size ∧ ∀ j b, j < k → w.data.toList[j]? = some b → az b = true) (fun s => w.size - s.toNat) _ ⟨0, rfl, Nat.zero_le _, fun j b h => by omega⟩ ?_
    rintro _ ⟨k, rfl, hk, hI⟩
    by_cases hlt : k < w.size
    · have hx : w.data.toList[k]? = some (w.data.toList[k]'(by rw [data_size]; exact hlt)) := List.getElem?_eq_getElem (by rw [data_size]; exact hlt)
      generalize w.data.toList[k]'(by rw [data_size]; exact hlt) = b at hx
      rw [if_pos (by simpa using hlt), idxS_list, hx, Option.bind_some]
      have hb : (if (decide ((b.toNat : Int) < 97)) = true then (some true) else (some (decide ((122 : Int) < (b.toNat : Int))))) = some (!(az b)) := by
        unfold az
        by_cases h1 : b.toNat < 97
        · rw [if_pos (by rw [decide_eq_true_eq]; omega)]
          simp [Nat.not_le.2 h1]
        · rw [if_neg (by rw [decide_eq_true_eq]; omega)]
          have h2 : 97 ≤ b.toNat := by omega
          simp only [h2, decide_true, Bool.true_and]
          congr 1
          rw [Bool.eq_iff_iff]
          simp
          omega
      rw [hb, Option.bind_some]
      cases hz : az b with
      | false => exact ⟨_, rfl, Or.inl ⟨rfl, b, List.mem_of_getElem? hx, hz⟩⟩
      | true =>
        refine ⟨_, rfl, ⟨k + 1, ?_, by omega, fun j c hj hc => ?_⟩, ?_⟩
        · rw [w64_id (by omega) (by omega)]; rfl
        · rcases Nat.lt_or_eq_of_le (Nat.le_of_lt_succ hj) with h | rfl
          · exact hI j c h hc
          · rw [hx] at hc; cases hc; exact hz
        · rw [w64_id (by omega) (by omega)]; omega
    · rw [if_neg (by simpa using hlt)]
      obtain rfl : k = w.size := by omega
      refine ⟨_, rfl, Or.inr ⟨rfl, fun b hb => ?_⟩⟩
      obtain ⟨j, hj⟩ := List.mem_iff_getElem?.1 hb
      exact hI j b (by have := (List.getElem?_eq_some_iff.1 hj).1; rw [data_size] at this; exact this) hj
  have htrim : strings_Trim w (⟨#[97, 98, 99, 100, 101, 102, 103, 104, 105, 106, 107, 108, 109, 110, 111, 112, 113, 114, 115, 116, 117, 118, 119, 120, 121, 122]⟩ : ByteArray) = some ⟨(Go.Lib.trimS w.data.toList azSet).toArray⟩ := by
    unfold strings_Trim
    rw [if_pos ⟨by omega, by decide, by decide⟩]
    rfl
  have hne : (!(strEq (⟨(Go.Lib.trimS w.data.toList azSet).toArray⟩ : ByteArray) (⟨#[]⟩ : ByteArray))) = decide (∃ b ∈ w.data.toList, az b = false) := by
    have h1 : strEq (⟨(Go.Lib.trimS w.data.toList azSet).toArray⟩ : ByteArray) (⟨#[]⟩ : ByteArray) = decide (Go.Lib.trimS w.data.toList azSet = []) := by
      unfold strEq
      rw [ByteArray.toList_eq, ByteArray.toList_eq, Bool.eq_iff_iff, beq_iff_eq, decide_eq_true_eq]
    rw [h1, Bool.eq_iff_iff, Bool.not_eq_true', decide_eq_false_iff_not, decide_eq_true_eq, trimS_none]
    constructor
    · intro h
      refine Classical.byContradiction fun hn => h fun x hx => ?_
      rw [← az_set]
      cases hz : az x with
      | true => rfl
      | false => exact absurd ⟨x, hx, hz⟩ hn
    · rintro ⟨b, hb, hz⟩ h
      have := h b hb
      rw [← az_set, hz] at this
      cases this
  obtain ⟨o, ho, hq⟩ := hloop
  unfold know_Stem portref2_StemOf
  rw [ho, Option.bind_some, htrim]
  simp only [Option.bind_some, hne]
  rcases hq with ⟨rfl, hbad⟩ | ⟨rfl, hall⟩
  · refine ⟨w, rfl, ?_⟩
    by_cases h4 : (w.size : Int) < 4
    · rw [if_pos (by simpa using h4), Option.bind_some, if_pos rfl]
    · rw [if_neg (by simpa using h4), Option.bind_some, if_pos (by simpa using hbad)]
  · rw [Lp.andThen_fin]
    by_cases h4 : (w.size : Int) < 4
    · rw [if_pos (by simpa using h4), if_pos (by simpa using h4)]
      exact ⟨w, rfl, rfl⟩
    have hno : ¬ ∃ b ∈ w.data.toList, az b = false := fun ⟨b, hb, hz⟩ => by rw [hall b hb] at hz; cases hz
    rw [if_neg (by simpa using h4), if_neg (by simpa using h4), Option.bind_some, if_neg (by simpa using hall)]
    unfold portref2_StemOf_1
    obtain ⟨b1, e1⟩ := suf_some w (⟨#[105, 101, 115]⟩ : ByteArray) (by omega)
    obtain ⟨b2, e2⟩ := suf_some w (⟨#[115, 115, 101, 115]⟩ : ByteArray) (by omega)
    obtain ⟨b3, e3⟩ := suf_some w (⟨#[115, 115]⟩ : ByteArray) (by omega)
    obtain ⟨b4, e4⟩ := suf_some w (⟨#[115]⟩ : ByteArray) (by omega)
    obtain ⟨b5, e5⟩ := suf_some w (⟨#[105, 110, 103]⟩ : ByteArray) (by omega)
    obtain ⟨b6, e6⟩ := suf_some w (⟨#[101, 100]⟩ : ByteArray) (by omega)
    obtain ⟨c3, f3, g3⟩ := cut_some w (by omega) 3 (by omega)
    obtain ⟨c2, f2, _⟩ := cut_some w (by omega) 2 (by omega)
    obtain ⟨c1, f1, _⟩ := cut_some w (by omega) 1 (by omega)
    have hcat : ∃ r, catS c3 (⟨#[121]⟩ : ByteArray) = some r := by
      unfold catS
      rw [if_neg (by rw [show IntKind.i64.max = 9223372036854775807 by decide, show ((⟨#[121]⟩ : ByteArray).size) = 1 from rfl]; omega)]
      exact ⟨_, rfl⟩
    obtain ⟨r3, hr3⟩ := hcat
    have f3' : sliceS w none (some (w64 ((w.size : Int) - 3))) = some c3 := f3
    have f2' : sliceS w none (some (w64 ((w.size : Int) - 2))) = some c2 := f2
    have f1' : sliceS w none (some (w64 ((w.size : Int) - 1))) = some c1 := f1
    simp only [e1, e2, e3, e4, e5, e6, f3', f2', f1', hr3, Option.bind_some]
    cases b1 <;> cases b2 <;> cases b3 <;> cases b4 <;> simp only [Bool.false_eq_true, if_false, if_true] <;> (try exact ⟨_, rfl, rfl⟩)
    split
    · exact ⟨_, rfl, rfl⟩
    split
    · exact ⟨_, rfl, rfl⟩
    · exact ⟨_, rfl, rfl⟩
end Go.Proofs.YtebhdihfjeiadaaGreatDoor.M
