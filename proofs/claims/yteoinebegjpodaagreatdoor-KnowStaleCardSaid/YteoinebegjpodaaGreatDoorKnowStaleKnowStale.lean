/-
  Stale and its document agree: plain part.
-/
import Derived.Test.YteoinebegjpodaaGreatDoorKnowStaleStaleRef
import Derived.Test.YteoinebegjpodaaGreatDoorKnowStaleMapBase
namespace Go.Proofs.YteoinebegjpodaaGreatDoor.M
open Go Go.Pu
set_option linter.unusedSimpArgs false
set_option linter.unusedVariables false

theorem rangeB_rt {R : Type} {b : Nat → Unit → Option (Ctl Unit R)} {P : R → Prop} (h : ∀ k r, b k () = some (.rt r) → P r) : ∀ (n k : Nat) (r : R), rangeB b n k () = some (.rt r) → P r
  | 0, k, r, e => by cases e
  | n + 1, k, r, e => by
    rw [rangeB] at e
    rcases hb : b k () with _ | (s | s | q)
    · rw [hb] at e; cases e
    · rw [hb] at e
      exact rangeB_rt h n (k + 1) r e
    · rw [hb] at e; cases e
    · rw [hb] at e
      cases e
      exact h k r hb
theorem rangeB_all {R : Type} {b : Nat → Unit → Option (Ctl Unit R)} (hbk : ∀ k s, b k () ≠ some (.bk s)) : ∀ (n k : Nat), rangeB b n k () = some (.fin ()) → ∀ j, k ≤ j → j < k + n → b j () = some (.nx ())
  | 0, k, e => fun j h1 h2 => by omega
  | n + 1, k, e => by
    rw [rangeB] at e
    rcases hb : b k () with _ | (s | s | q)
    · rw [hb] at e; cases e
    · rw [hb] at e
      intro j h1 h2
      by_cases hj : j = k
      · subst hj; exact hb
      · exact rangeB_all hbk n (k + 1) e j (by omega) (by omega)
    · exact absurd hb (hbk k s)
    · rw [hb] at e; cases e
theorem versionFault_body {v : know_Version} (h : portref2_versionFault v = some 0) : v.body.size ≤ 20000 := by
  by_cases hb : v.body.size ≤ 20000
  · exact hb
  · unfold portref2_versionFault at h
    have e : (if (decide ((200 : Int) < (v.title.size : Int))) = true then (if true = true then (some true) else (Option.bind (portref2_bodyLines v.body) fun x20 => some (decide ((2000 : Int) < (x20.length : Int))))) else (if (decide ((20000 : Int) < (v.body.size : Int))) = true then (some true) else (Option.bind (portref2_bodyLines v.body) fun x31 => some (decide ((2000 : Int) < (x31.length : Int)))))) = some true := by
      split
      · rfl
      · rw [if_pos (by simp; omega)]
    rw [e, Option.bind_some, if_pos rfl] at h
    cases h
theorem articles_ok {l : List know_Article} (h : portref2_ArticlesFault l = some 0) : l.length ≤ 200 ∧ (∀ k (hk : k + 1 < l.length), l[k].id_ < l[k + 1].id_) ∧ ∀ a ∈ l, ∀ v ∈ a.versions, v.body.size ≤ 20000 := by
  unfold portref2_ArticlesFault at h
  by_cases h200 : decide ((200 : Int) < (l.length : Int)) = true
  · rw [if_pos h200] at h; cases h
  rw [if_neg h200] at h
  have hlen : l.length ≤ 200 := by simp at h200; omega
  obtain ⟨o, ho, h⟩ := Option.bind_eq_some_iff.1 h
  have inner : ∀ (vs : List know_Version) (r : Int), rangeB (R := Int) (fun k93 (_ : Unit) => Option.bind (idx vs (k93 : Int)) fun x112 => if (!(portref2_IsMoment x112.at_)) = true then some (.rt 2) else Option.bind (if (decide ((0 : Int) < (k93 : Int))) = true then (Option.bind (idx vs (w64 ((k93 : Int) - 1))) fun x134 => some (decide (x112.at_ < x134.at_))) else (some false)) fun s128 => if s128 = true then some (.rt 5) else Option.bind (portref2_versionFault x112) fun x144 => if (x144 != 0) = true then some (.rt x144) else some (.nx ())) vs.length 0 () = some (.rt r) → r ≠ 0 := by
    intro vs r hr
    refine rangeB_rt (P := fun r => r ≠ 0) (fun k r hb => ?_) _ _ r hr
    obtain ⟨x, hx, hb⟩ := Option.bind_eq_some_iff.1 hb
    split at hb
    · cases hb; decide
    · obtain ⟨s, hs, hb⟩ := Option.bind_eq_some_iff.1 hb
      split at hb
      · cases hb; decide
      · obtain ⟨e, he, hb⟩ := Option.bind_eq_some_iff.1 hb
        split at hb
        · rename_i hne; cases hb; simpa using hne
        · cases hb
  cases o with
  | rt r =>
    exfalso
    have hr : r = 0 := Option.some.inj h
    refine absurd hr (rangeB_rt (P := fun r => r ≠ 0) (fun k r hb => ?_) _ _ r ho)
    obtain ⟨o1, h1, hb⟩ := Option.bind_eq_some_iff.1 hb
    cases o1 with
    | fin s => cases hb
    | rt y =>
      have hy : y = r := by simpa [Lp.andThen] using hb
      subst hy
      obtain ⟨x, hx, h1⟩ := Option.bind_eq_some_iff.1 h1
      split at h1
      · cases h1; decide
      · obtain ⟨s, hs, h1⟩ := Option.bind_eq_some_iff.1 h1
        split at h1
        · cases h1; decide
        · split at h1
          · cases h1; decide
          · split at h1
            · cases h1; decide
            · obtain ⟨o2, h2, h1⟩ := Option.bind_eq_some_iff.1 h1
              cases o2 with
              | fin s => cases h1
              | rt z =>
                have hz : z = y := by simpa [Lp.andThen] using h1
                subst hz
                exact inner _ _ h2
  | fin u =>
    have hall := rangeB_all (fun k s hb => by
      obtain ⟨o1, h1, hb⟩ := Option.bind_eq_some_iff.1 hb
      cases o1 <;> cases hb) _ _ ho
    have each : ∀ k (hk : k < l.length), (∀ j, j + 1 = k → ∀ (hj : j < l.length), l[j].id_ < l[k].id_) ∧ ∀ v ∈ l[k].versions, v.body.size ≤ 20000 := by
      intro k hk
      have hb := hall k (by omega) (by omega)
      obtain ⟨o1, h1, hb⟩ := Option.bind_eq_some_iff.1 hb
      cases o1 with
      | rt y => cases hb
      | fin s0 =>
        rw [idx_lt _ _ hk, Option.bind_some] at h1
        split at h1
        · cases h1
        obtain ⟨s, hs, h1⟩ := Option.bind_eq_some_iff.1 h1
        split at h1
        · cases h1
        rename_i hs5
        split at h1
        · cases h1
        split at h1
        · cases h1
        obtain ⟨o2, h2, h1⟩ := Option.bind_eq_some_iff.1 h1
        refine ⟨fun j hj hjl => ?_, fun v hv => ?_⟩
        · have hw : w64 ((k : Int) - 1) = (j : Int) := by rw [w64_id (by omega) (by omega)]; omega
          rw [if_pos (by simp; omega), hw, idx_lt _ _ hjl, Option.bind_some] at hs
          cases hs
          simpa using hs5
        · cases o2 with
          | rt z => cases h1
          | fin u2 =>
            obtain ⟨j, hj, rfl⟩ := List.getElem_of_mem hv
            have hv2 := rangeB_all (fun k s hb => by
              obtain ⟨x, hx, hb⟩ := Option.bind_eq_some_iff.1 hb
              split at hb
              · cases hb
              · obtain ⟨s, hs, hb⟩ := Option.bind_eq_some_iff.1 hb
                split at hb
                · cases hb
                · obtain ⟨e, he, hb⟩ := Option.bind_eq_some_iff.1 hb
                  split at hb <;> cases hb) _ _ h2 j (by omega) (by omega)
            rw [idx_lt _ _ hj, Option.bind_some] at hv2
            split at hv2
            · cases hv2
            obtain ⟨s3, _, hv2⟩ := Option.bind_eq_some_iff.1 hv2
            split at hv2
            · cases hv2
            obtain ⟨e, he, hv2⟩ := Option.bind_eq_some_iff.1 hv2
            split at hv2
            · cases hv2
            · rename_i hc
              simp at hc
              exact versionFault_body (by rw [he, hc])
    refine ⟨hlen, fun k hk => (each (k + 1) hk).1 k rfl (by omega), fun a ha => ?_⟩
    obtain ⟨k, hk, rfl⟩ := List.getElem_of_mem ha
    exact (each k hk).2

abbrev curV (m : Int) (a : know_Article) : Bool × know_Version := verAt a.versions m a.versions.length
def seenA (m : Int) (a : know_Article) : Bool := (curV m a).1 && !(strEq (curV m a).2.title (⟨#[]⟩ : ByteArray))
def entA (m : Int) (a : know_Article) : know_Entry := ⟨a.id_, (curV m a).2.title, (curV m a).2.body⟩
theorem take_filter {α : Type} (p : α → Bool) (l : List α) (k : Nat) (hk : k < l.length) : (l.take (k + 1)).filter p = (l.take k).filter p ++ if p l[k] = true then [l[k]] else [] := by
  rw [List.take_add_one, List.getElem?_eq_getElem hk, List.filter_append]
  congr 1
  by_cases h : p l[k] = true
  · simp [h]
  · simp [h]
theorem current_val (l : List know_Article) (m : Int) (hl : l.length ≤ 200) : know_current l m (fun y11 => some (know_Stale_1 y11)) = some ((l.filter (seenA m)).map (entA m), (l.filter (seenA m)).map fun a => (curV m a).2) := by
  unfold know_current
  obtain ⟨t, h1, rfl⟩ := rangeB_inv (R := (List know_Entry) × (List know_Version)) (b := fun k6 s16 => Option.bind (Option.bind (idx l (k6 : Int)) fun x45 => Option.bind (rangeB (R := Empty) (fun k70 s76 => Option.bind (Option.bind (idx x45.versions (k70 : Int)) fun x97 => Option.bind (if (decide (x97.at_ ≤ m)) = true then some (k70 : Int) else some s76) fun s112 => some s112) fun s90 => some (.nx s90)) x45.versions.length 0 (-1)) fun o67 => o67.andThen (fun y => y.elim) fun s68 => Option.bind ((fun y11 => some (know_Stale_1 y11)) x45.group) fun x125 => Option.bind (if ((!x125) || (decide (s68 < 0))) = true then (some true) else (Option.bind (idx x45.versions s68) fun x137 => some (strEq x137.title (⟨#[]⟩ : ByteArray)))) fun s132 => if s132 = true then some (s16.1, s16.2) else Option.bind (idx x45.versions s68) fun x148 => Option.bind (appendL 3518437208883 s16.1 ([(⟨x45.id_, x148.title, x148.body⟩ : know_Entry)] : List know_Entry)) fun x169 => Option.bind (appendL 3518437208883 s16.2 ([x148] : List know_Version)) fun x181 => some (x169, x181)) fun s34 => some (.nx (s34.1, s34.2))) l.length (fun k s => s = (((l.take k).filter (seenA m)).map (entA m), ((l.take k).filter (seenA m)).map fun a => (curV m a).2)) (s := ([], [])) rfl (by
    rintro k _ hk rfl
    have hfl := List.length_filter_le (seenA m) (l.take k)
    rw [List.length_take] at hfl
    rw [take_filter _ _ _ hk]
    simp only [idx_lt _ _ hk, Option.bind_some]
    generalize l[k] = a
    rw [last_loop]
    simp only [Option.bind_some, Lp.andThen_fin, know_Stale_1, Bool.not_true, Bool.false_or]
    rcases lastAt_range a.versions m a.versions.length with hn | ⟨j, v, hj, hv⟩
    · have hs : seenA m a = false := by unfold seenA curV verAt; rw [if_neg (by omega)]; rfl
      rw [hn, hs]
      rw [if_pos (by decide), Option.bind_some, if_pos rfl, Option.bind_some]
      exact ⟨_, rfl, by simp⟩
    · have hcv : curV m a = (true, v) := by unfold curV verAt; rw [if_pos (by omega), hj, Int.toNat_natCast, hv]; rfl
      have hs : seenA m a = !(strEq v.title (⟨#[]⟩ : ByteArray)) := by unfold seenA; rw [hcv]; rfl
      rw [hj, hs, if_neg (by simp), idx_nat, hv, Option.bind_some, Option.bind_some]
      cases ht : strEq v.title (⟨#[]⟩ : ByteArray) with
      | true =>
        rw [if_pos rfl, Option.bind_some]
        exact ⟨_, rfl, by simp⟩
      | false =>
        rw [if_neg (by simp), Option.bind_some, appendL, if_pos (by simp; omega), Option.bind_some, appendL, if_pos (by simp; omega), Option.bind_some, Option.bind_some]
        exact ⟨_, rfl, by simp [entA, hcv]⟩)
  rw [h1, List.take_length]
  rfl
theorem version_mem (m : Int) (a : know_Article) (h : seenA m a = true) : (curV m a).2 ∈ a.versions := by
  unfold seenA at h
  rcases lastAt_range a.versions m a.versions.length with hn | ⟨j, v, hj, hv⟩
  · exfalso
    have : (curV m a).1 = false := by unfold curV verAt; rw [if_neg (by omega)]
    rw [this] at h
    cases h
  · have hcv : curV m a = (true, v) := by unfold curV verAt; rw [if_pos (by omega), hj, Int.toNat_natCast, hv]; rfl
    rw [hcv]
    exact List.mem_of_getElem? hv
theorem contains_int (s : List Int) (q : Int → Bool) : slices_ContainsFunc_Lint_int s (fun x => some (q x)) = some (s.any q) := by
  have key : ∀ (m : List Int) (k : Nat), forL (R := Int) (fun k x (_ : Unit) => if q x = true then some (.rt (k : Int)) else some (.nx ())) m k () = some (.fin ()) ∧ m.any q = false ∨ ∃ j : Nat, forL (R := Int) (fun k x (_ : Unit) => if q x = true then some (.rt (k : Int)) else some (.nx ())) m k () = some (.rt (j : Int)) ∧ m.any q = true := by
    intro m
    induction m with
    | nil => intro k; exact .inl ⟨rfl, rfl⟩
    | cons x m ih =>
      intro k
      rw [forL]
      cases hq : q x with
      | true => exact .inr ⟨k, by simp, by simp [hq]⟩
      | false =>
        simp only [Bool.false_eq_true, if_false, List.any_cons, hq, Bool.false_or]
        exact ih (k + 1)
  unfold slices_ContainsFunc_Lint_int slices_IndexFunc_Lint_int
  have e : rangeB (R := Int) (fun k6 (_ : Unit) => Option.bind (idx s (k6 : Int)) fun x25 => Option.bind (some (q x25)) fun x29 => if x29 = true then some (.rt (k6 : Int)) else some (.nx ())) s.length 0 () = forL (R := Int) (fun k x (_ : Unit) => if q x = true then some (.rt (k : Int)) else some (.nx ())) s 0 () := by
    refine rangeB_forL s _ _ ?_ _
    intro k _ x hx
    rw [idx_nat, hx]
    rfl
  rw [e]
  rcases key s 0 with ⟨h1, h2⟩ | ⟨j, h1, h2⟩
  · rw [h1, h2]
    rfl
  · rw [h1, h2]
    simp [Lp.andThen]
/-- whether an article counts, where one knows what is there -/
noncomputable def oldA (m age : Int) (there : Int → Bool) (a : know_Article) : Bool := decide (age < w64 (m - (curV m a).2.at_)) || (((know_Links (curV m a).2.body).getD []).any fun n => !(there n))
theorem old_val (m age : Int) (there : Int → Bool) (a : know_Article) (hb : (curV m a).2.body.size ≤ 20000) (f : Int → Option Bool) (hf : f = fun n => some (!(there n))) (g : ByteArray → Option (List Int)) (hg : ∀ s : ByteArray, s.size ≤ 20000 → ∃ r, g s = some r ∧ know_Links s = some r) : (if (decide (age < w64 (m - (curV m a).2.at_))) = true then (some true) else (Option.bind (g (curV m a).2.body) fun x => Option.bind (slices_ContainsFunc_Lint_int x f) fun y => some y)) = some (oldA m age there a) := by
  unfold oldA
  obtain ⟨r, h1, h2⟩ := hg _ hb
  rw [h1, h2]
  by_cases h : age < w64 (m - (curV m a).2.at_)
  · rw [if_pos (by simpa using h), decide_eq_true h]; rfl
  · rw [if_neg (by simpa using h), decide_eq_false h, Option.bind_some, hf, contains_int, Option.bind_some]
    rfl
theorem ids_lt {l : List know_Article} (h : ∀ k (hk : k + 1 < l.length), l[k].id_ < l[k + 1].id_) : ∀ (d j : Nat) (hj : j + d + 1 < l.length), l[j].id_ < l[j + d + 1].id_
  | 0, j, hj => h j hj
  | d + 1, j, hj => by
    have h1 := ids_lt h d j (by omega)
    have h2 := h (j + d + 1) (by omega)
    exact Int.lt_trans h1 h2
theorem equal_ints (l : List Int) : slices_Equal_Lint_int l l = some true := by
  unfold slices_Equal_Lint_int
  simp only [bne_self_eq_false, Bool.false_eq_true, if_false]
  obtain ⟨t, h, _⟩ := rangeB_inv (R := Bool) (b := fun k9 (_ : Unit) => Option.bind (idx l (k9 : Int)) fun x29 => Option.bind (idx l (k9 : Int)) fun x33 => if (x29 != x33) = true then some (.rt false) else some (.nx ())) l.length (fun _ _ => True) (s := ()) trivial
    (fun k s hk _ => by rw [idx_lt _ _ hk]; simp)
  rw [h]
  rfl
theorem stale_eq (l : List know_Article) (m age : Int) : ∃ r, know_Stale l m age = some r ∧ portref2_StaleOf l m age = some r := by
  obtain ⟨e, h1, h2, _⟩ := articles_eq l
  unfold know_Stale portref2_StaleOf
  rw [h1, h2, Option.bind_some, Option.bind_some]
  by_cases he : e = 0
  rotate_left
  · have : (e != 0) = true := by simpa using he
    rw [if_pos this, if_pos this]
    exact ⟨_, rfl, rfl⟩
  subst he
  simp only [bne_self_eq_false, Bool.false_eq_true, if_false]
  have hm : (!(know_within m 0 3000000)) = (!(portref2_IsMoment m)) := rfl
  rw [hm]
  by_cases hc : ((!(portref2_IsMoment m)) || (decide (age < 0))) = true
  · rw [if_pos hc, if_pos hc]
    exact ⟨_, rfl, rfl⟩
  rw [if_neg hc, if_neg hc]
  obtain ⟨hlen, hids, hbody⟩ := articles_ok h2
  rw [current_val l m hlen, Option.bind_some]
  simp only
  -- the code's map
  generalize hS : l.filter (seenA m) = S
  have hSl : S.length ≤ 200 := by rw [← hS]; have := List.length_filter_le (seenA m) l; omega
  have hSm : ∀ a ∈ S, seenA m a = true ∧ a ∈ l := by
    intro a ha
    rw [← hS] at ha
    have := List.mem_filter.1 ha
    exact ⟨this.2, this.1⟩
  obtain ⟨mp, c1, c2⟩ := rangeB_inv (R := (List Int) × Int) (b := fun k45 s51 => Option.bind (idx (S.map (entA m)) (k45 : Int)) fun x64 => some (.nx (mapPut s51 x64.id_ true))) (S.map (entA m)).length (fun k s => ∀ n, (mapGet s n).getD false = (S.take k).any fun a => decide (a.id_ = n)) (s := ([] : List (Int × Bool))) (fun n => by simp [mapGet]) (by
    intro k s hk hI
    rw [List.length_map] at hk
    rw [idx_nat, List.getElem?_map, List.getElem?_eq_getElem hk, Option.map_some, Option.bind_some]
    refine ⟨_, rfl, fun n => ?_⟩
    rw [mapGet_put_, List.take_add_one, List.getElem?_eq_getElem hk, List.any_append]
    have hid : (entA m S[k]).id_ = S[k].id_ := rfl
    rw [hid]
    by_cases hn : S[k].id_ = n
    · rw [if_pos hn]; simp [hn]
    · rw [if_neg hn, hI n]; simp [hn])
  rw [c1, Option.bind_some, Lp.andThen_fin]
  rw [List.length_map, List.take_of_length_le (Nat.le_refl _)] at c2
  obtain ⟨out, d1, rfl⟩ := rangeB_inv (R := (List Int) × Int) (b := fun k92 s100 => Option.bind (Option.bind (idx (S.map (entA m)) (k92 : Int)) fun x125 => Option.bind (Option.bind (idx (S.map fun a => (curV m a).2) (k92 : Int)) fun x147 => if (decide (age < (w64 (m - x147.at_)))) = true then (some true) else (Option.bind (know_Links x125.body) fun x156 => Option.bind (slices_ContainsFunc_Lint_int x156 (fun y164 => know_Stale_2 y164 (⟨mp⟩ : (Fmap Int Bool)))) fun x165 => some x165)) fun s140 => Option.bind (if s140 = true then Option.bind (appendL 17592186044416 s100 ([x125.id_] : List Int)) fun x195 => some x195 else some s100) fun s179 => some s179) fun s116 => some (.nx s116)) (S.map (entA m)).length (fun k s => s = ((S.take k).filter (oldA m age fun n => S.any fun a => decide (a.id_ = n))).map (·.id_)) (s := ([] : List Int)) rfl (by
    rintro k _ hk rfl
    rw [List.length_map] at hk
    have hfl := List.length_filter_le (oldA m age fun n => S.any fun a => decide (a.id_ = n)) (S.take k)
    rw [List.length_take] at hfl
    have hmem := hSm S[k] (List.getElem_mem hk)
    rw [take_filter _ _ _ hk, idx_nat, List.getElem?_map, List.getElem?_eq_getElem hk, Option.map_some, Option.bind_some, idx_nat, List.getElem?_map, List.getElem?_eq_getElem hk, Option.map_some, Option.bind_some]
    have hv := old_val m age (fun n => S.any fun a => decide (a.id_ = n)) S[k] (hbody _ hmem.2 _ (version_mem m _ hmem.1)) (fun y164 => know_Stale_2 y164 (⟨mp⟩ : (Fmap Int Bool))) (by funext n; unfold know_Stale_2; rw [c2 n]) know_Links (fun s hs => by obtain ⟨r, q1, _⟩ := links_eq s hs; exact ⟨r, q1, q1⟩)
    have hv2 : (if (decide (age < (w64 (m - (curV m S[k]).2.at_)))) = true then (some true) else (Option.bind (know_Links (entA m S[k]).body) fun x156 => Option.bind (slices_ContainsFunc_Lint_int x156 (fun y164 => know_Stale_2 y164 (⟨mp⟩ : (Fmap Int Bool)))) fun x165 => some x165)) = some (oldA m age (fun n => S.any fun a => decide (a.id_ = n)) S[k]) := hv
    rw [hv2, Option.bind_some]
    by_cases ho : oldA m age (fun n => S.any fun a => decide (a.id_ = n)) S[k] = true
    · rw [if_pos ho, if_pos ho, appendL, if_pos (by simp; omega), Option.bind_some, Option.bind_some, Option.bind_some]
      exact ⟨_, rfl, by simp [entA]⟩
    · rw [if_neg ho, if_neg ho, Option.bind_some, Option.bind_some]
      exact ⟨_, rfl, by simp⟩)
  rw [d1, Option.bind_some, Lp.andThen_fin, List.length_map, List.take_of_length_le (Nat.le_refl _)]
  -- the document's map
  have hat : ∀ a, portref2_versionAt a m = some ((curV m a).2, seenA m a) := fun a => at_loop a m
  obtain ⟨mq, e1, e2⟩ := rangeB_inv (R := (List Int) × Int) (b := fun k27 s33 => Option.bind (idx l (k27 : Int)) fun x46 => Option.bind (portref2_versionAt x46 m) fun x67 => some (.nx (mapPut s33 x46.id_ x67.2))) l.length (fun k s => ∀ n, (mapGet s n).getD false = (l.take k).any fun a => seenA m a && decide (a.id_ = n)) (s := ([] : List (Int × Bool))) (fun n => by simp [mapGet]) (by
    intro k s hk hI
    rw [idx_lt _ _ hk, Option.bind_some, hat, Option.bind_some]
    refine ⟨_, rfl, fun n => ?_⟩
    rw [mapGet_put_, List.take_add_one, List.getElem?_eq_getElem hk, List.any_append]
    by_cases hn : l[k].id_ = n
    · rw [if_pos hn]
      have h0 : ((l.take k).any fun a => seenA m a && decide (a.id_ = n)) = false := by
        rw [Bool.eq_false_iff]
        intro ht
        obtain ⟨a, ha, hb⟩ := List.any_eq_true.1 ht
        obtain ⟨j, hj, rfl⟩ := List.getElem_of_mem ha
        rw [List.length_take] at hj
        rw [List.getElem_take] at hb
        simp only [Bool.and_eq_true, decide_eq_true_eq] at hb
        have hlt := ids_lt hids (k - j - 1) j (by omega)
        have ek : j + (k - j - 1) + 1 = k := by omega
        simp only [ek] at hlt
        omega
      rw [h0]
      simp [hn]
    · rw [if_neg hn, hI n]; simp [hn])
  rw [e1, Option.bind_some, Lp.andThen_fin]
  rw [List.take_length] at e2
  have hth : ∀ n, (mapGet mq n).getD false = S.any fun a => decide (a.id_ = n) := by
    intro n
    rw [e2 n, ← hS, List.any_filter]
  obtain ⟨out, f1, rfl⟩ := rangeB_inv (R := (List Int) × Int) (b := fun k93 s101 => Option.bind (Option.bind (idx l (k93 : Int)) fun x126 => Option.bind (portref2_versionAt x126 m) fun x147 => Option.bind (if x147.2 = true then (if (decide (age < (w64 (m - x147.1.at_)))) = true then (some true) else (Option.bind (portref2_LinksOf x147.1.body) fun x172 => Option.bind (slices_ContainsFunc_Lint_int x172 (fun y180 => portref2_StaleOf_1 y180 (⟨mq⟩ : (Fmap Int Bool)))) fun x181 => some x181)) else (some false)) fun s160 => Option.bind (if s160 = true then Option.bind (appendL 17592186044416 s101 ([x126.id_] : List Int)) fun x212 => some x212 else some s101) fun s196 => some s196) fun s117 => some (.nx s117)) l.length (fun k s => s = (((l.take k).filter (seenA m)).filter (oldA m age fun n => S.any fun a => decide (a.id_ = n))).map (·.id_)) (s := ([] : List Int)) rfl (by
    rintro k _ hk rfl
    have hfl := List.length_filter_le (oldA m age fun n => S.any fun a => decide (a.id_ = n)) ((l.take k).filter (seenA m))
    have hfl2 := List.length_filter_le (seenA m) (l.take k)
    rw [List.length_take] at hfl2
    rw [take_filter _ _ _ hk, List.filter_append, idx_lt _ _ hk, Option.bind_some, hat, Option.bind_some]
    by_cases hs : seenA m l[k] = true
    · have hv := old_val m age (fun n => S.any fun a => decide (a.id_ = n)) l[k] (hbody _ (List.getElem_mem hk) _ (version_mem m _ hs)) (fun y180 => portref2_StaleOf_1 y180 (⟨mq⟩ : (Fmap Int Bool))) (by funext n; unfold portref2_StaleOf_1; rw [hth n]) portref2_LinksOf (fun s hs => by obtain ⟨r, q1, q2⟩ := links_eq s hs; exact ⟨r, q2, q1⟩)
      simp only [hs, if_true]
      rw [hv, Option.bind_some]
      by_cases ho : oldA m age (fun n => S.any fun a => decide (a.id_ = n)) l[k] = true
      · rw [if_pos ho, appendL, if_pos (by rw [List.length_map, List.length_singleton]; omega), Option.bind_some, Option.bind_some, Option.bind_some]
        exact ⟨_, rfl, by simp [ho]⟩
      · rw [if_neg ho, Option.bind_some, Option.bind_some]
        exact ⟨_, rfl, by simp [ho]⟩
    · have hs' : seenA m l[k] = false := by simpa using hs
      simp only [hs', Bool.false_eq_true, if_false, Option.bind_some]
      exact ⟨_, rfl, by simp⟩)
  rw [f1, Option.bind_some, Lp.andThen_fin, List.take_length, hS]
  exact ⟨_, rfl, rfl⟩
theorem stale_true (l : List know_Article) (m age : Int) : portlaw2_KnowStale l m age = some true := by
  obtain ⟨r, h1, h2⟩ := stale_eq l m age
  unfold portlaw2_KnowStale
  rw [h1, h2]
  simp [equal_ints]
end Go.Proofs.YteoinebegjpodaaGreatDoor.M
