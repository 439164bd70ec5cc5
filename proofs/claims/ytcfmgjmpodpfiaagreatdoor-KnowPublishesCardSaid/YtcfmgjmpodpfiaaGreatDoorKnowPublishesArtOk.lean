/-
  Articles that may be: their order: plain part.
-/
import Derived.Test.YtcfmgjmpodpfiaaGreatDoorKnowPublishesKnowChecks
namespace Go.Proofs.YtcfmgjmpodpfiaaGreatDoor.M
open Go Go.Pu
set_option linter.unusedSimpArgs false
set_option linter.unusedVariables false

theorem rangeB_rt {R : Type} {b : Nat → Unit → Option (Ctl Unit R)} {P : R → Prop} (h : ∀ k r, b k () = some (.rt r) → P r) : ∀ (n k : Nat) (r : R), rangeB b n k () = some (.rt r) → P r
  | 0, k, r, e => by cases e
  | n + 1, k, r, e => by
    rw [rangeB] at e
    rcases hb : b k () with _ | (s | s | q)
    · rw [hb] at e; cases e
    · rw [hb] at e
      exact rangeB_rt h n (k + 1) r e
    · rw [hb] at e; cases e
    · rw [hb] at e
      cases e
      exact h k r hb
theorem rangeB_all {R : Type} {b : Nat → Unit → Option (Ctl Unit R)} (hbk : ∀ k s, b k () ≠ some (.bk s)) : ∀ (n k : Nat), rangeB b n k () = some (.fin ()) → ∀ j, k ≤ j → j < k + n → b j () = some (.nx ())
  | 0, k, e => fun j h1 h2 => by omega
  | n + 1, k, e => by
    rw [rangeB] at e
    rcases hb : b k () with _ | (s | s | q)
    · rw [hb] at e; cases e
    · rw [hb] at e
      intro j h1 h2
      by_cases hj : j = k
      · subst hj; exact hb
      · exact rangeB_all hbk n (k + 1) e j (by omega) (by omega)
    · exact absurd hb (hbk k s)
    · rw [hb] at e; cases e
theorem versionFault_body {v : know_Version} (h : portref2_versionFault v = some 0) : v.body.size ≤ 20000 := by
  by_cases hb : v.body.size ≤ 20000
  · exact hb
  · unfold portref2_versionFault at h
    have e : (if (decide ((200 : Int) < (v.title.size : Int))) = true then (if true = true then (some true) else (Option.bind (portref2_bodyLines v.body) fun x20 => some (decide ((2000 : Int) < (x20.length : Int))))) else (if (decide ((20000 : Int) < (v.body.size : Int))) = true then (some true) else (Option.bind (portref2_bodyLines v.body) fun x31 => some (decide ((2000 : Int) < (x31.length : Int)))))) = some true := by
      split
      · rfl
      · rw [if_pos (by simp; omega)]
    rw [e, Option.bind_some, if_pos rfl] at h
    cases h
theorem articles_ok {l : List know_Article} (h : portref2_ArticlesFault l = some 0) : l.length ≤ 200 ∧ (∀ k (hk : k + 1 < l.length), l[k].id_ < l[k + 1].id_) ∧ ∀ a ∈ l, ∀ v ∈ a.versions, v.body.size ≤ 20000 := by
  unfold portref2_ArticlesFault at h
  by_cases h200 : decide ((200 : Int) < (l.length : Int)) = true
  · rw [if_pos h200] at h; cases h
  rw [if_neg h200] at h
  have hlen : l.length ≤ 200 := by simp at h200; omega
  obtain ⟨o, ho, h⟩ := Option.bind_eq_some_iff.1 h
  have inner : ∀ (vs : List know_Version) (r : Int), rangeB (R := Int) (fun k93 (_ : Unit) => Option.bind (idx vs (k93 : Int)) fun x112 => if (!(portref2_IsMoment x112.at_)) = true then some (.rt 2) else Option.bind (if (decide ((0 : Int) < (k93 : Int))) = true then (Option.bind (idx vs (w64 ((k93 : Int) - 1))) fun x134 => some (decide (x112.at_ < x134.at_))) else (some false)) fun s128 => if s128 = true then some (.rt 5) else Option.bind (portref2_versionFault x112) fun x144 => if (x144 != 0) = true then some (.rt x144) else some (.nx ())) vs.length 0 () = some (.rt r) → r ≠ 0 := by
    intro vs r hr
    refine rangeB_rt (P := fun r => r ≠ 0) (fun k r hb => ?_) _ _ r hr
    obtain ⟨x, hx, hb⟩ := Option.bind_eq_some_iff.1 hb
    split at hb
    · cases hb; decide
    · obtain ⟨s, hs, hb⟩ := Option.bind_eq_some_iff.1 hb
      split at hb
      · cases hb; decide
      · obtain ⟨e, he, hb⟩ := Option.bind_eq_some_iff.1 hb
        split at hb
        · rename_i hne; cases hb; simpa using hne
        · cases hb
  cases o with
  | rt r =>
    exfalso
    have hr : r = 0 := Option.some.inj h
    refine absurd hr (rangeB_rt (P := fun r => r ≠ 0) (fun k r hb => ?_) _ _ r ho)
    obtain ⟨o1, h1, hb⟩ := Option.bind_eq_some_iff.1 hb
    cases o1 with
    | fin s => cases hb
    | rt y =>
      have hy : y = r := by simpa [Lp.andThen] using hb
      subst hy
      obtain ⟨x, hx, h1⟩ := Option.bind_eq_some_iff.1 h1
      split at h1
      · cases h1; decide
      · obtain ⟨s, hs, h1⟩ := Option.bind_eq_some_iff.1 h1
        split at h1
        · cases h1; decide
        · split at h1
          · cases h1; decide
          · split at h1
            · cases h1; decide
            · obtain ⟨o2, h2, h1⟩ := Option.bind_eq_some_iff.1 h1
              cases o2 with
              | fin s => cases h1
              | rt z =>
                have hz : z = y := by simpa [Lp.andThen] using h1
                subst hz
                exact inner _ _ h2
  | fin u =>
    have hall := rangeB_all (fun k s hb => by
      obtain ⟨o1, h1, hb⟩ := Option.bind_eq_some_iff.1 hb
      cases o1 <;> cases hb) _ _ ho
    have each : ∀ k (hk : k < l.length), (∀ j, j + 1 = k → ∀ (hj : j < l.length), l[j].id_ < l[k].id_) ∧ ∀ v ∈ l[k].versions, v.body.size ≤ 20000 := by
      intro k hk
      have hb := hall k (by omega) (by omega)
      obtain ⟨o1, h1, hb⟩ := Option.bind_eq_some_iff.1 hb
      cases o1 with
      | rt y => cases hb
      | fin s0 =>
        rw [idx_lt _ _ hk, Option.bind_some] at h1
        split at h1
        · cases h1
        obtain ⟨s, hs, h1⟩ := Option.bind_eq_some_iff.1 h1
        split at h1
        · cases h1
        rename_i hs5
        split at h1
        · cases h1
        split at h1
        · cases h1
        obtain ⟨o2, h2, h1⟩ := Option.bind_eq_some_iff.1 h1
        refine ⟨fun j hj hjl => ?_, fun v hv => ?_⟩
        · have hw : w64 ((k : Int) - 1) = (j : Int) := by rw [w64_id (by omega) (by omega)]; omega
          rw [if_pos (by simp; omega), hw, idx_lt _ _ hjl, Option.bind_some] at hs
          cases hs
          simpa using hs5
        · cases o2 with
          | rt z => cases h1
          | fin u2 =>
            obtain ⟨j, hj, rfl⟩ := List.getElem_of_mem hv
            have hv2 := rangeB_all (fun k s hb => by
              obtain ⟨x, hx, hb⟩ := Option.bind_eq_some_iff.1 hb
              split at hb
              · cases hb
              · obtain ⟨s, hs, hb⟩ := Option.bind_eq_some_iff.1 hb
                split at hb
                · cases hb
                · obtain ⟨e, he, hb⟩ := Option.bind_eq_some_iff.1 hb
                  split at hb <;> cases hb) _ _ h2 j (by omega) (by omega)
            rw [idx_lt _ _ hj, Option.bind_some] at hv2
            split at hv2
            · cases hv2
            obtain ⟨s3, _, hv2⟩ := Option.bind_eq_some_iff.1 hv2
            split at hv2
            · cases hv2
            obtain ⟨e, he, hv2⟩ := Option.bind_eq_some_iff.1 hv2
            split at hv2
            · cases hv2
            · rename_i hc
              simp at hc
              exact versionFault_body (by rw [he, hc])
    refine ⟨hlen, fun k hk => (each (k + 1) hk).1 k rfl (by omega), fun a ha => ?_⟩
    obtain ⟨k, hk, rfl⟩ := List.getElem_of_mem ha
    exact (each k hk).2
end Go.Proofs.YtcfmgjmpodpfiaaGreatDoor.M
