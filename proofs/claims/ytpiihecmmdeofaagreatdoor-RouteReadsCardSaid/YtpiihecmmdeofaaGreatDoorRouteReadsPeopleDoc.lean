/-
  A line with a person, by the document: plain part.
-/
import Derived.Test.YtpiihecmmdeofaaGreatDoorRouteReadsPeopleLine
namespace Go.Proofs.YtpiihecmmdeofaaGreatDoor.M
open Go Go.Pu
set_option linter.unusedSimpArgs false
set_option linter.unusedVariables false

/-- and by the document -/
theorem person_doc (l : List UInt8) (hl : l.length ≤ 400000) : ∃ p, portref2_readPerson (tb l) = some (p, (perW (spl 32 l)).isSome) ∧ ∀ q, perW (spl 32 l) = some q → p = q := by
  unfold portref2_readPerson
  have hs2 : strings_Split (tb l) (⟨#[32]⟩ : ByteArray) = _ := split_val 32 l (by omega)
  rw [hs2, Option.bind_some]
  have hlen := spl_len 32 l
  have hsm := spl_small 32 l
  generalize spl 32 l = ws at hlen hsm
  rw [List.length_map, tmod2]
  match ws, hlen, hsm with
  | [], hlen, hsm => exact ⟨p00, by simp [perW], fun q h => by cases h⟩
  | [_], hlen, hsm => exact ⟨p00, by simp [perW], fun q h => by cases h⟩
  | [_, _], hlen, hsm => exact ⟨p00, by simp [perW], fun q h => by cases h⟩
  | [_, _, _], hlen, hsm => exact ⟨p00, by simp [perW], fun q h => by cases h⟩
  | w0 :: a :: b :: c :: rest, hlen, hsm =>
    simp only [List.length_cons] at hlen
    have hi0 : idx ((w0 :: a :: b :: c :: rest).map tb) 0 = some (tb w0) := rfl
    have heq : strEq (tb w0) (⟨#[112, 101, 114, 115, 111, 110]⟩ : ByteArray) = decide (w0 = personW) := tb_eq w0 personW
    have hcond : (Option.bind (if (decide (((w0 :: a :: b :: c :: rest).length : Int) < 4)) = true then (some true) else (Option.bind (idx ((w0 :: a :: b :: c :: rest).map tb) 0) fun x14 => some (!(strEq x14 (⟨#[112, 101, 114, 115, 111, 110]⟩ : ByteArray)))) ) fun s13 => some (s13 || decide ((w0 :: a :: b :: c :: rest).length % 2 ≠ 0))) = some (decide (¬ (w0 = personW ∧ rest.length % 2 = 0))) := by
      have h4 : decide (((w0 :: a :: b :: c :: rest).length : Int) < 4) = false := by simp; omega
      rw [h4, if_neg (by simp), hi0, Option.bind_some, heq, Option.bind_some]
      congr 1
      have e2 : (w0 :: a :: b :: c :: rest).length % 2 = rest.length % 2 := by simp only [List.length_cons]; omega
      rw [e2, Bool.eq_iff_iff]
      simp
    obtain ⟨s13, g1, g2⟩ := Option.bind_eq_some_iff.1 hcond
    have g3 := Option.some.inj g2
    rw [g1, Option.bind_some, g3, perW]
    by_cases hc : w0 = personW ∧ rest.length % 2 = 0
    rotate_left
    · rw [decide_eq_true hc, if_pos rfl, if_neg fun h => hc ⟨h.1, h.2.1⟩]
      exact ⟨p00, rfl, fun q h => by cases h⟩
    rw [decide_eq_false (not_not_intro hc), if_neg (by simp)]
    have ha := doc_num a (Nat.le_trans (hsm a (by simp)) hl)
    have hb := doc_num b (Nat.le_trans (hsm b (by simp)) hl)
    have hcn := doc_num c (Nat.le_trans (hsm c (by simp)) hl)
    have i1 : idx ((w0 :: a :: b :: c :: rest).map tb) (w64 (((0 : Nat) : Int) + 1)) = some (tb a) := rfl
    have i2 : idx ((w0 :: a :: b :: c :: rest).map tb) (w64 (((1 : Nat) : Int) + 1)) = some (tb b) := rfl
    have i3 : idx ((w0 :: a :: b :: c :: rest).map tb) (w64 (((2 : Nat) : Int) + 1)) = some (tb c) := rfl
    simp only [List.length_cons, List.length_nil, rangeB, Nat.zero_add, i1, i2, i3, Option.bind_some, ha, hb, hcn, show (((0 : Nat) : Int) = 0) = True by simp, show (((0 + 1 : Nat) : Int) = 0) = False by simp, show (((1 : Nat) : Int) = 0) = False by simp, show (((1 : Nat) : Int) = 1) = True by simp, show (((1 + 1 : Nat) : Int) = 0) = False by simp, show (((1 + 1 : Nat) : Int) = 1) = False by simp, decide_true, decide_false, if_true, Bool.false_eq_true, if_false]
    cases h1 : canB 9 a with
    | false =>
      refine ⟨p00, ?_, fun q h => ?_⟩
      · simp [h1, Lp.andThen]
      · simp [h1] at h
    | true =>
    cases h2 : canB 9 b with
    | false =>
      refine ⟨p00, ?_, fun q h => ?_⟩
      · simp [h1, h2, Lp.andThen]
      · simp [h2] at h
    | true =>
    have i3' : idx ((w0 :: a :: b :: c :: rest).map tb) (w64 (((1 + 1 : Nat) : Int) + 1)) = some (tb c) := rfl
    cases h3 : canB 9 c with
    | false =>
      refine ⟨p00, ?_, fun q h => ?_⟩
      · simp only [if_true, Bool.not_true, Bool.false_eq_true, if_false, i3', Option.bind_some, hcn, h3]
        simp [Lp.andThen]
      · simp [h3] at h
    | true =>
    simp only [if_true, Bool.not_true, Bool.false_eq_true, if_false, i3', Option.bind_some, hcn, h3, Lp.andThen_fin]
    rw [if_pos ⟨hc.1, hc.2, trivial, trivial, trivial⟩]
    obtain ⟨o, ho, hq⟩ := doc_skills w0 a b c rest (fun w hw => Nat.le_trans (hsm w (by simp [hw])) hl) (by omega) hc.2 (numOf a) (numOf b) (numOf c) p00
    simp only [List.length_map, List.length_cons] at ho
    rw [ho, Option.bind_some]
    rcases hq with ⟨q, h5, rfl⟩ | ⟨sk, q, h5, rfl⟩
    · rw [h5]
      exact ⟨q, rfl, fun q' h => by cases h⟩
    · rw [h5]
      exact ⟨⟨numOf a, numOf b, numOf c, sk⟩, rfl, fun q' h => by cases h; rfl⟩
end Go.Proofs.YtpiihecmmdeofaaGreatDoor.M
