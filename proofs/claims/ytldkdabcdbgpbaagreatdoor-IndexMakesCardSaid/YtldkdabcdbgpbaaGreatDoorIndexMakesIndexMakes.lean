/-
  IndexMakes: plain part.
-/
import Derived.Test.YtldkdabcdbgpbaaGreatDoorIndexMakesKixOf
namespace Go.Proofs.YtldkdabcdbgpbaaGreatDoor.M
open Go Go.Pu
set_option linter.unusedSimpArgs false
set_option linter.unusedVariables false

theorem KeyOrd.mrg_snoc {α κ : Type} {O : KeyOrd α κ} (b : α) : ∀ a : List α, (∀ x ∈ a, O.lt (O.key x) (O.key b)) → O.mrg a [b] = a ++ [b]
  | [], _ => KeyOrd.mrg_nil [b]
  | x :: a, h => by
    rw [KeyOrd.mrg, if_pos (h x List.mem_cons_self), KeyOrd.mrg_snoc b a fun y hy => h y (List.mem_cons_of_mem _ hy)]
    rfl

/-- what is wrong with an entry -/
def badAt (l : List know_Entry) (k : Nat) : Int := match l[k]? with
  | none => 0
  | some v => if v.id_ < 1 ∨ 3000000 < v.id_ then 2 else if ∃ u ∈ (l.take k).getLast?, v.id_ ≤ u.id_ then 5 else textBad v
/-- the first fault -/
def First (l : List know_Entry) (c : Int) : Prop := (c = 0 ∧ ∀ k, badAt l k = 0) ∨ ∃ k, (∀ j, j < k → badAt l j = 0) ∧ badAt l k ≠ 0 ∧ c = badAt l k
theorem First.uniq {l : List know_Entry} {c c' : Int} (h : First l c) (h' : First l c') : c = c' := by
  rcases h with ⟨rfl, h⟩ | ⟨k, h1, h2, rfl⟩
  · rcases h' with ⟨rfl, _⟩ | ⟨k', _, h2', _⟩
    · rfl
    · exact absurd (h k') h2'
  · rcases h' with ⟨_, h'⟩ | ⟨k', h1', h2', rfl⟩
    · exact absurd (h' k) h2
    · rcases Nat.lt_trichotomy k k' with h | rfl | h
      · exact absurd (h1' k h) h2
      · rfl
      · exact absurd (h1 k' h) h2'
theorem badAt_out {l : List know_Entry} {k : Nat} (h : l.length ≤ k) : badAt l k = 0 := by
  unfold badAt
  rw [List.getElem?_eq_none h]
/-- a loop that stops at the first fault -/
theorem fault_loop {S R : Type} (l : List know_Entry) (b : Nat → S → Option (Ctl S R)) (E : Int → R) (I : Nat → S → Prop) (s : S) (h0 : I 0 s)
    (hb : ∀ k s, k < l.length → (∀ j, j < k → badAt l j = 0) → I k s → (badAt l k = 0 ∧ ∃ s', b k s = some (.nx s') ∧ I (k + 1) s') ∨ (badAt l k ≠ 0 ∧ b k s = some (.rt (E (badAt l k))))) :
    ∃ r, rangeB b l.length 0 s = some r ∧ ((First l 0 ∧ ∃ s', r = .fin s' ∧ I l.length s') ∨ ∃ c, c ≠ 0 ∧ First l c ∧ r = .rt (E c)) := by
  refine rangeB_spec l.length (fun k s => (∀ j, j < k → badAt l j = 0) ∧ I k s) _ ⟨fun j hj => absurd hj (Nat.not_lt_zero _), h0⟩ (fun k s hk hI => ?_) fun s hI => ?_
  · rcases hb k s hk hI.1 hI.2 with ⟨h1, s', h2, h3⟩ | ⟨h1, h2⟩
    · refine ⟨_, h2, fun j hj => ?_, h3⟩
      by_cases e : j = k
      · rw [e]; exact h1
      · exact hI.1 j (by omega)
    · exact ⟨_, h2, .inr ⟨_, h1, .inr ⟨k, hI.1, h1, rfl⟩, rfl⟩⟩
  · refine .inl ⟨.inl ⟨rfl, fun k => ?_⟩, s, rfl, hI.2⟩
    by_cases h : k < l.length
    · exact hI.1 k h
    · exact badAt_out (by omega)
theorem last_take {l : List know_Entry} {k : Nat} (hk : k < l.length) : ((l.take (k + 1)).getLast?) = some l[k] := by
  rw [List.take_add_one, List.getElem?_eq_getElem hk, Option.toList_some, List.getLast?_concat]
theorem good_of {l : List know_Entry} (h : First l 0) : (l.Pairwise fun a b => a.id_ < b.id_) ∧ ∀ v ∈ l, v.title.size ≤ 200 ∧ v.body.size ≤ 20000 := by
  have h0 : ∀ k, badAt l k = 0 := by
    rcases h with ⟨_, h⟩ | ⟨k, _, h2, h3⟩
    · exact h
    · exact absurd h3.symm h2
  have step : ∀ k (hk : k < l.length), textBad l[k] = 0 ∧ ∀ j (hj : j + 1 = k), l[j].id_ < l[k].id_ := fun k hk => by
    have := h0 k
    unfold badAt at this
    rw [List.getElem?_eq_getElem hk] at this
    dsimp only at this
    split at this
    · cases this
    · split at this
      · cases this
      · rename_i h1 h2
        refine ⟨this, fun j hj => ?_⟩
        subst hj
        rcases Int.lt_or_le l[j].id_ l[j + 1].id_ with h | h
        · exact h
        · exact absurd ⟨l[j], by rw [last_take (by omega)]; rfl, h⟩ h2
  have mono : ∀ d i (h : i + d + 1 < l.length), l[i].id_ < l[i + d + 1].id_ := fun d => by
    induction d with
    | zero => exact fun i h => (step (i + 1) h).2 i rfl
    | succ d ih =>
      intro i h
      have h1 := ih i (by omega)
      have h2 := (step (i + (d + 1) + 1) h).2 (i + d + 1) (by omega)
      omega
  refine ⟨List.pairwise_iff_getElem.2 fun i j hi hj hij => ?_, fun v hv => ?_⟩
  · obtain ⟨d, rfl⟩ : ∃ d, j = i + d + 1 := ⟨j - i - 1, by omega⟩
    exact mono d i hj
  · obtain ⟨k, hk, rfl⟩ := List.mem_iff_getElem.1 hv
    exact textBad_size (step k hk).1

def noX : know_Index := ⟨[], [], []⟩
/-- a list with its entries added one by one -/
theorem adds_val (l : List know_Entry) (hr : l.Pairwise fun a b => a.id_ < b.id_) (hsz : ∀ v ∈ l, v.title.size ≤ 200 ∧ v.body.size ≤ 20000) (hlen : l.length ≤ 200) :
    ∃ T, rangeB (R := know_Index × Int) (fun k s => Option.bind (idx l (k : Int)) fun x => Option.bind (know_Index_with s x) fun y => some (.nx y)) l.length 0 noX = some (.fin ⟨l.map (·.id_), l.map sizeOfE, T⟩) ∧ Terms (anyS l) (lstOf l) T := by
  obtain ⟨s, h1, i1, i2, i3, _⟩ := rangeB_inv (R := know_Index × Int) (b := fun k s => Option.bind (idx l (k : Int)) fun x => Option.bind (know_Index_with s x) fun y => some (.nx y)) l.length
    (fun k s => s.ids = (l.take k).map (·.id_) ∧ s.sizes = (l.take k).map sizeOfE ∧ Terms (anyS (l.take k)) (lstOf (l.take k)) s.terms ∧ s.terms.length ≤ 20200 * k) (s := noX)
    ⟨rfl, rfl, ⟨List.Pairwise.nil, fun t => ⟨(fun h => by cases h), fun h => by rw [List.take_zero] at h; obtain ⟨⟨v, hv, _⟩, _⟩ := h; cases hv⟩⟩, Nat.zero_le _⟩ (fun k s hk hI => by
      obtain ⟨i1, i2, i3, i4⟩ := hI
      have hx : l[k]? = some l[k] := List.getElem?_eq_getElem hk
      have htk : l.take (k + 1) = l.take k ++ [l[k]] := by rw [List.take_add_one, hx]; rfl
      have hid : ∀ u ∈ l.take k, u.id_ < l[k].id_ := fun u hu => by
        obtain ⟨i, hi, rfl⟩ := List.mem_iff_getElem.1 hu
        rw [List.length_take] at hi
        rw [List.getElem_take]
        exact List.pairwise_iff_getElem.1 hr i k (by omega) hk (by omega)
      obtain ⟨ht, hb⟩ := hsz l[k] (List.getElem_mem hk)
      have hlk : (l.take k).length = k := by rw [List.length_take]; omega
      have hrk : (l.take k).Pairwise fun a b => a.id_ < b.id_ := List.Pairwise.sublist (List.take_sublist _ _) hr
      rw [htk]
      generalize l[k] = v at hx hid ht hb
      generalize l.take k = m at i1 i2 i3 hid hlk hrk
      have hil : s.ids.length = k := by rw [i1, List.length_map, hlk]
      obtain ⟨j, T', j1, j2, j3, j4, j5, j6⟩ := with_val (x := s) (v := v) (has := anyS m) (lst := lstOf m) i3 (fun t ht => lst_nil ht) (by rw [i1, List.pairwise_map]; exact hrk) (by omega) (fun t ht => by
        rw [((i3.mem t).1 ht).2]
        have := lst_len m t.word
        omega) (by omega) (by rw [i1, i2, List.length_map, List.length_map]) ht hb
      have hj : j = s.ids.length := by
        rcases Nat.lt_or_ge j s.ids.length with h | h
        · exfalso
          have h2 := j3 j s.ids[j] (Nat.le_refl _) (List.getElem?_eq_getElem h)
          have h3 : s.ids[j] ∈ m.map (·.id_) := i1 ▸ List.getElem_mem h
          obtain ⟨u, hu, e⟩ := List.mem_map.1 h3
          have := hid u hu
          rw [e] at this
          omega
        · omega
      have hsl : s.sizes.length = s.ids.length := by rw [i1, i2, List.length_map, List.length_map]
      rw [idx_nat, hx, Option.bind_some, j4, Option.bind_some, hj, List.take_length, List.drop_length, ← hsl, List.take_length, List.drop_length, List.append_nil, List.append_nil]
      refine ⟨_, rfl, by rw [List.map_append, ← i1]; rfl, by rw [List.map_append, ← i2]; rfl, j5.cong (fun t => (any_snoc m v t).symm) (fun t _ => ?_), by show T'.length ≤ _; omega⟩
      rw [lst_snoc]
      by_cases h : hasS v t
      · rw [if_pos h, if_neg (show ¬ postE (postOf v t) from h)]
        refine KeyOrd.mrg_snoc _ _ fun x hx => ?_
        unfold lstOf at hx
        obtain ⟨p, hp, rfl⟩ := List.mem_map.1 hx
        obtain ⟨u, hu, _, e⟩ := pairs_id hp
        rw [e]
        exact hid u hu
      · rw [if_neg h, if_pos (Classical.not_not.1 h), List.append_nil])
  rw [List.take_length] at i1 i2 i3
  refine ⟨s.terms, ?_, i3⟩
  rw [h1, ← i1, ← i2]

theorem eqI_self (l : List Int) : slices_Equal_Lint_int l l = some true := by
  unfold slices_Equal_Lint_int
  obtain ⟨t, ht, _⟩ := rangeB_inv (R := Bool) (b := fun k9 (_ : Unit) => Option.bind (idx l (k9 : Int)) fun x29 => Option.bind (idx l (k9 : Int)) fun x33 => if (x29 != x33) = true then some (.rt false) else some (.nx ())) l.length (fun _ _ => True) (s := ()) trivial
    (fun k s hk _ => ⟨(), by simp [idx_nat, hk], trivial⟩)
  rw [ht]
  simp
  rfl
theorem eqP_self (l : List know_Posting) : slices_EqualFunc_Lknow_Posting_Lknow_Posting_know_Posting_know_Posting l l (fun y36 y37 => portref2_Alike_4_1 y36 y37) = some true := by
  have h : ∀ p : know_Posting, portref2_Alike_4_1 p p = some true := fun p => by
    unfold portref2_Alike_4_1
    simp [eqI_self]
  unfold slices_EqualFunc_Lknow_Posting_Lknow_Posting_know_Posting_know_Posting
  obtain ⟨t, ht, _⟩ := rangeB_inv (R := Bool) (b := fun k9 (_ : Unit) => Option.bind (idx l (k9 : Int)) fun x29 => Option.bind (idx l (k9 : Int)) fun x52 => Option.bind ((fun y36 y37 => portref2_Alike_4_1 y36 y37) x29 x52) fun x86 => if (!x86) = true then some (.rt false) else some (.nx ())) l.length (fun _ _ => True) (s := ()) trivial
    (fun k s hk _ => ⟨(), by simp [idx_nat, hk, h], trivial⟩)
  rw [ht]
  simp
  rfl
theorem eqT_self (l : List know_Term) : slices_EqualFunc_Lknow_Term_Lknow_Term_know_Term_know_Term l l (fun y92 y93 => portref2_Alike_4 y92 y93) = some true := by
  have h : ∀ p : know_Term, portref2_Alike_4 p p = some true := fun p => by
    unfold portref2_Alike_4
    simp [eqP_self, strEq_cmp]
  unfold slices_EqualFunc_Lknow_Term_Lknow_Term_know_Term_know_Term
  obtain ⟨t, ht, _⟩ := rangeB_inv (R := Bool) (b := fun k9 (_ : Unit) => Option.bind (idx l (k9 : Int)) fun x29 => Option.bind (idx l (k9 : Int)) fun x47 => Option.bind ((fun y92 y93 => portref2_Alike_4 y92 y93) x29 x47) fun x71 => if (!x71) = true then some (.rt false) else some (.nx ())) l.length (fun _ _ => True) (s := ()) trivial
    (fun k s hk _ => ⟨(), by simp [idx_nat, hk, h], trivial⟩)
  rw [ht]
  simp
  rfl
theorem alike_self (x : know_Index) : portref2_Alike x x = some true := by
  unfold portref2_Alike
  simp [eqI_self, eqT_self]

theorem new_val (l : List know_Entry) (hlen : l.length ≤ 200) : ∃ x c, know_NewIndex l = some (x, c) ∧ First l c ∧ (c ≠ 0 → x = noX) ∧ (c = 0 → ∃ T, x = ⟨l.map (·.id_), l.map sizeOfE, T⟩ ∧ Terms (anyS l) (lstOf l) T) := by
  obtain ⟨r, hr, hq⟩ := fault_loop (R := know_Index × Int) l (fun k15 s28 => Option.bind (idx l (k15 : Int)) fun x47 => Option.bind (know_checkEntry x47 s28.1) fun x61 => if (x61 != 0) = true then some (.rt ((⟨([] : (List Int)), ([] : (List Int)), ([] : (List know_Term))⟩ : know_Index), x61)) else some (.nx (x47.id_, s28.2)))
    (fun c => (noX, c)) (fun k s => s.2 = noX ∧ s.1 = if k = 0 then 0 else (l[k - 1]?.map (·.id_)).getD 0) ((0, (⟨([] : (List Int)), ([] : (List Int)), ([] : (List know_Term))⟩ : know_Index)) : Int × know_Index) ⟨rfl, rfl⟩ (fun k s hk _ hI => by
      have hx : l[k]? = some l[k] := List.getElem?_eq_getElem hk
      have hc : know_checkEntry l[k] s.1 = some (badAt l k) := by
        unfold know_checkEntry know_within badAt
        rw [hx]
        dsimp only
        by_cases h1 : l[k].id_ < 1 ∨ 3000000 < l[k].id_
        · rw [if_pos h1, if_pos (by simp; omega)]
        · rw [if_neg h1, if_neg (by simp; omega)]
          have h2 : l[k].id_ ≤ s.1 ↔ ∃ u ∈ (l.take k).getLast?, l[k].id_ ≤ u.id_ := by
            rw [hI.2]
            cases k with
            | zero =>
              rw [if_pos rfl]
              simp
              omega
            | succ k =>
              rw [if_neg (by omega), last_take (by omega), Nat.add_sub_cancel, List.getElem?_eq_getElem (by omega)]
              simp
          by_cases h3 : l[k].id_ ≤ s.1
          · rw [if_pos (decide_eq_true h3), if_pos (h2.1 h3)]
          · rw [if_neg (by simpa using h3), if_neg fun e => h3 (h2.2 e), textBad_code]
            rfl
      rw [idx_nat, hx, Option.bind_some, hc, Option.bind_some]
      by_cases h : badAt l k = 0
      · rw [h]
        refine .inl ⟨rfl, _, rfl, hI.1, ?_⟩
        rw [if_neg (by omega), Nat.add_sub_cancel, hx]
        rfl
      · rw [if_pos (by simpa using h)]
        exact .inr ⟨h, rfl⟩)
  unfold know_NewIndex
  rw [if_neg (by simp; omega), hr, Option.bind_some]
  rcases hq with ⟨hF, s', rfl, _⟩ | ⟨c, hc, hF, rfl⟩
  · rw [Lp.andThen_fin]
    obtain ⟨g1, g2⟩ := good_of hF
    obtain ⟨T, h1, h2⟩ := adds_val l g1 g2 hlen
    refine ⟨_, 0, ?_, hF, fun h => absurd rfl h, fun _ => ⟨T, rfl, h2⟩⟩
    have h3 : rangeB (R := know_Index × Int) (fun k81 s93 => Option.bind (idx l (k81 : Int)) fun x112 => Option.bind (know_Index_with s93 x112) fun x126 => some (.nx x126)) l.length 0 (⟨([] : (List Int)), ([] : (List Int)), ([] : (List know_Term))⟩ : know_Index) = _ := h1
    rw [h3, Option.bind_some, Lp.andThen_fin]
  · exact ⟨noX, c, rfl, hF, fun _ => rfl, fun h => absurd h hc⟩
theorem ref_val (l : List know_Entry) (hlen : l.length ≤ 200) : ∃ x c, portref2_IndexOf l = some (x, c) ∧ First l c ∧ (c ≠ 0 → x = noX) ∧ (c = 0 → ∃ T, x = ⟨l.map (·.id_), l.map sizeOfE, T⟩ ∧ Terms (anyS l) (lstOf l) T) := by
  obtain ⟨r, hr, hq⟩ := fault_loop (R := know_Index × Int) l (fun k15 s28 => Option.bind (idx l (k15 : Int)) fun x47 => if ((decide (x47.id_ < 1)) || (decide ((3000000 : Int) < x47.id_))) = true then some (.rt ((⟨([] : (List Int)), ([] : (List Int)), ([] : (List know_Term))⟩ : know_Index), 2)) else Option.bind (if (decide ((0 : Int) < (k15 : Int))) = true then (Option.bind (idx l (w64 ((k15 : Int) - 1))) fun x71 => some (decide (x47.id_ ≤ x71.id_))) else (some false)) fun s69 => if s69 = true then some (.rt ((⟨([] : (List Int)), ([] : (List Int)), ([] : (List know_Term))⟩ : know_Index), 5)) else Option.bind (portref2_entryFault x47) fun x84 => if (x84 != 0) = true then some (.rt ((⟨([] : (List Int)), ([] : (List Int)), ([] : (List know_Term))⟩ : know_Index), x84)) else some (.nx s28))
    (fun c => (noX, c)) (fun _ _ => True) (⟨([] : (List Int)), ([] : (List Int)), ([] : (List know_Term))⟩ : know_Index) trivial (fun k s hk _ _ => by
      have hx : l[k]? = some l[k] := List.getElem?_eq_getElem hk
      rw [idx_nat, hx, Option.bind_some]
      by_cases h1 : l[k].id_ < 1 ∨ 3000000 < l[k].id_
      · have e : badAt l k = 2 := by
          unfold badAt
          rw [hx]
          exact if_pos h1
        rw [if_pos (by simpa using h1), e]
        exact .inr ⟨by decide, rfl⟩
      · rw [if_neg (by simpa using h1)]
        have h2 : ∃ b, (if (decide ((0 : Int) < (k : Int))) = true then (Option.bind (idx l (w64 ((k : Int) - 1))) fun x71 => some (decide (l[k].id_ ≤ x71.id_))) else (some false)) = some b ∧ (b = true ↔ ∃ u ∈ (l.take k).getLast?, l[k].id_ ≤ u.id_) := by
          cases k with
          | zero => exact ⟨false, rfl, by simp⟩
          | succ k =>
            have e : w64 (((k + 1 : Nat) : Int) - 1) = (k : Int) := by rw [w64_id (by omega) (by omega)]; omega
            rw [if_pos (decide_eq_true (by omega)), e, idx_nat, List.getElem?_eq_getElem (by omega), Option.bind_some, last_take (by omega)]
            exact ⟨_, rfl, by simp⟩
        obtain ⟨b, hb, hb2⟩ := h2
        rw [hb, Option.bind_some]
        cases b with
        | true =>
          have e : badAt l k = 5 := by
            unfold badAt
            rw [hx]
            dsimp only
            rw [if_neg h1, if_pos (hb2.1 rfl)]
          rw [if_pos rfl, e]
          exact .inr ⟨by decide, rfl⟩
        | false =>
          have e : badAt l k = textBad l[k] := by
            unfold badAt
            rw [hx]
            dsimp only
            rw [if_neg h1, if_neg fun h => by have := hb2.2 h; cases this]
          rw [if_neg (by decide), textBad_ref, Option.bind_some, e]
          by_cases h : textBad l[k] = 0
          · rw [h]
            exact .inl ⟨rfl, _, rfl, trivial⟩
          · rw [if_pos (by simpa using h)]
            exact .inr ⟨h, rfl⟩)
  unfold portref2_IndexOf
  rw [if_neg (by simp; omega), hr, Option.bind_some]
  rcases hq with ⟨hF, s', rfl, _⟩ | ⟨c, hc, hF, rfl⟩
  · rw [Lp.andThen_fin]
    obtain ⟨g1, g2⟩ := good_of hF
    obtain ⟨T, h1, h2⟩ := indexOf_val l g1 g2 hlen
    rw [h1, Option.bind_some]
    exact ⟨_, 0, rfl, hF, fun h => absurd rfl h, fun _ => ⟨T, rfl, h2⟩⟩
  · exact ⟨noX, c, rfl, hF, fun _ => rfl, fun h => absurd h hc⟩

theorem makes_true (l : List know_Entry) : portlaw2_IndexMakes l = some true := by
  unfold portlaw2_IndexMakes
  by_cases hlen : l.length ≤ 200
  · obtain ⟨x, c, h1, f1, z1, g1⟩ := new_val l hlen
    obtain ⟨y, d, h2, f2, z2, g2⟩ := ref_val l hlen
    obtain rfl := f1.uniq f2
    have e : x = y := by
      by_cases hc : c = 0
      · obtain ⟨T, rfl, t1⟩ := g1 hc
        obtain ⟨T', rfl, t2⟩ := g2 hc
        rw [t1.uniq t2]
      · rw [z1 hc, z2 hc]
    subst e
    rw [h1, Option.bind_some, h2, Option.bind_some]
    simp [alike_self]
  · have a : know_NewIndex l = some (noX, 4) := by
      unfold know_NewIndex
      rw [if_pos (by simp; omega)]
      rfl
    have b : portref2_IndexOf l = some (noX, 4) := by
      unfold portref2_IndexOf
      rw [if_pos (by simp; omega)]
      rfl
    rw [a, Option.bind_some, b, Option.bind_some]
    simp [alike_self]
end Go.Proofs.YtldkdabcdbgpbaaGreatDoor.M
