import Derived.Test.YtldkdabcdbgpbaaGreatDoorIndexChangesKxD
namespace Go.Proofs.YtldkdabcdbgpbaaGreatDoor.M
open Go Go.Pu
set_option linter.unusedSimpArgs false
set_option linter.unusedVariables false
theorem eqI_self (l : List Int) : slices_Equal_Lint_int l l = some true := by
 unfold slices_Equal_Lint_int
 obtain ⟨t, ht, _⟩ := rangeB_inv (R := Bool) (b := fun k9 (_ : Unit) => Option.bind (idx l (k9 : Int)) fun x29 => Option.bind (idx l (k9 : Int)) fun x33 => if (x29 != x33) = true then some (.rt false) else some (.nx ())) l.length (fun _ _ => True) (s := ()) trivial
  (fun k s hk _ => ⟨(), by simp [idx_nat, hk], trivial⟩)
 rw [ht]
 simp
 rfl
theorem eqP_self (l : List know_Posting) : slices_EqualFunc_Lknow_Posting_Lknow_Posting_know_Posting_know_Posting l l (fun y36 y37 => portref2_Alike_4_1 y36 y37) = some true := by
 have h : ∀ p : know_Posting, portref2_Alike_4_1 p p = some true := fun p => by
  unfold portref2_Alike_4_1
  simp [eqI_self]
 unfold slices_EqualFunc_Lknow_Posting_Lknow_Posting_know_Posting_know_Posting
 obtain ⟨t, ht, _⟩ := rangeB_inv (R := Bool) (b := fun k9 (_ : Unit) => Option.bind (idx l (k9 : Int)) fun x29 => Option.bind (idx l (k9 : Int)) fun x52 => Option.bind ((fun y36 y37 => portref2_Alike_4_1 y36 y37) x29 x52) fun x86 => if (!x86) = true then some (.rt false) else some (.nx ())) l.length (fun _ _ => True) (s := ()) trivial
  (fun k s hk _ => ⟨(), by simp [idx_nat, hk, h], trivial⟩)
 rw [ht]
 simp
 rfl
theorem eqT_self (l : List know_Term) : slices_EqualFunc_Lknow_Term_Lknow_Term_know_Term_know_Term l l (fun y92 y93 => portref2_Alike_4 y92 y93) = some true := by
 have h : ∀ p : know_Term, portref2_Alike_4 p p = some true := fun p => by
  unfold portref2_Alike_4
  simp [eqP_self, strEq_cmp]
 unfold slices_EqualFunc_Lknow_Term_Lknow_Term_know_Term_know_Term
 obtain ⟨t, ht, _⟩ := rangeB_inv (R := Bool) (b := fun k9 (_ : Unit) => Option.bind (idx l (k9 : Int)) fun x29 => Option.bind (idx l (k9 : Int)) fun x47 => Option.bind ((fun y92 y93 => portref2_Alike_4 y92 y93) x29 x47) fun x71 => if (!x71) = true then some (.rt false) else some (.nx ())) l.length (fun _ _ => True) (s := ()) trivial
  (fun k s hk _ => ⟨(), by simp [idx_nat, hk, h], trivial⟩)
 rw [ht]
 simp
 rfl
theorem alike_self (x : know_Index) : portref2_Alike x x = some true := by
 unfold portref2_Alike
 simp [eqI_self, eqT_self]
theorem sum_mem {α : Type} (f : α → Nat) : ∀ (l : List α), ∀ x ∈ l, f x ≤ (l.map f).sum
 | y :: l, x, h => by
  rw [List.map_cons, List.sum_cons]
  rcases List.mem_cons.1 h with rfl | h
  ·omega
  ·have := sum_mem f l x h; omega
theorem sum_len {α : Type} (f : α → Nat) (hf : ∀ x, 1 ≤ f x) : ∀ l : List α, l.length ≤ (l.map f).sum
 | [] => Nat.zero_le _
 | y :: l => by
  rw [List.map_cons, List.sum_cons, List.length_cons]
  have := sum_len f hf l
  have := hf y
  omega
def bpost (p : know_Posting) : Nat := 1 + (((p.title.map fun _ => 1).sum + 1) + ((p.body.map fun _ => 1).sum + 1))
def bterm (t : know_Term) : Nat := (t.word.size + 1) + ((t.list_.map bpost).sum + 1)
def bindex (x : know_Index) : Nat := ((x.ids.map fun _ => 1).sum + 1) + (((x.sizes.map fun _ => 1).sum + 1) + ((x.terms.map bterm).sum + 1))
theorem small_of (x : know_Index) (h : bindex x ≤ 1048576) : Small x := by
 unfold bindex at h
 have hp : ∀ p, 1 ≤ bpost p := fun p => by unfold bpost; omega
 have ht : ∀ t, 1 ≤ bterm t := fun t => by unfold bterm; omega
 have h1 := sum_len bterm ht x.terms
 have h2 : ∀ t ∈ x.terms, bterm t ≤ 1048576 := fun t htm => by have := sum_mem bterm x.terms t htm; omega
 refine ⟨by omega, fun t htm => ?_, fun t htm => ?_, fun t htm p hpm => ?_⟩
 ·have := h2 t htm
  unfold bterm at this
  omega
 ·have := h2 t htm
  have h3 := sum_len bpost hp t.list_
  unfold bterm at this
  omega
 ·have := h2 t htm
  have h3 := sum_mem bpost t.list_ p hpm
  unfold bterm at this
  have h4 := sum_len (fun _ : Int => 1) (fun _ => Nat.le_refl _) p.title
  have h5 := sum_len (fun _ : Int => 1) (fun _ => Nat.le_refl _) p.body
  have h6 : bpost p = 1 + (((p.title.map fun _ => 1).sum + 1) + ((p.body.map fun _ => 1).sum + 1)) := rfl
  rw [h6] at h3
  omega
theorem mem_dropT {id : Int} {t : know_Term} : ∀ {T : List know_Term}, t ∈ dropT id T → ∃ u ∈ T, t.word = u.word ∧ t.list_ = keepP id u.list_
 | [], h => by cases h
 | u :: T, h => by
  unfold dropT at h
  split at h
  ·obtain ⟨z, hz, e⟩ := mem_dropT h
   exact ⟨z, List.mem_cons_of_mem _ hz, e⟩
  ·rcases List.mem_cons.1 h with rfl | h
   ·exact ⟨u, List.mem_cons_self, rfl, rfl⟩
   ·obtain ⟨z, hz, e⟩ := mem_dropT h
    exact ⟨z, List.mem_cons_of_mem _ hz, e⟩
theorem rise_dropT {id : Int} : ∀ {T : List know_Term}, wordO.Rise T → wordO.Rise (dropT id T)
 | [], _ => List.Pairwise.nil
 | u :: T, h => by
  obtain ⟨h1, h2⟩ := List.pairwise_cons.1 h
  unfold dropT
  split
  ·exact rise_dropT h2
  ·refine List.pairwise_cons.2 ⟨fun z hz => ?_, rise_dropT h2⟩
   obtain ⟨y, hy, e, _⟩ := mem_dropT hz
   have := h1 y hy
   show cmpS u.word z.word < 0
   rw [e]
   exact this
def entBad (v : know_Entry) : Int := if v.id_ < 1 ∨ 3000000 < v.id_ then 2 else textBad v
theorem entry_val (v : know_Entry) : know_checkEntry v 0 = some (entBad v) := by
 unfold know_checkEntry entBad know_within
 by_cases h : v.id_ < 1 ∨ 3000000 < v.id_
 ·rw [if_pos h, if_pos (by simp; omega)]
 ·rw [if_neg h, if_neg (by simp; omega), if_neg (by rw [decide_eq_true_eq]; omega), textBad_code]
  rfl
theorem lstOf_one (v : know_Entry) (s : ByteArray) (h : hasS v s) : lstOf [v] s = [postOf v s] := by
 have := lst_snoc [] v s
 rw [List.nil_append, if_neg (show ¬ postE (postOf v s) from h)] at this
 rw [this, lst_nil (fun h => by obtain ⟨u, hu, _⟩ := h; cases hu), List.nil_append]
theorem anyS_one (v : know_Entry) (s : ByteArray) : anyS [v] s ↔ hasS v s := by
 unfold anyS
 simp
theorem put_good {x : know_Index} {v : know_Entry} (hx : IndexOk x) (hs : Small x) (hv : textBad v = 0) :
  ∃ y z, know_Index_without x v.id_ = some y ∧ know_Index_with y v = some z ∧ portref2_without x v.id_ = some y ∧ y.ids.length ≤ 200 ∧ z.ids.length = y.ids.length + 1 ∧
   ∃ o a b, portref2_indexOf [v] = some o ∧ slices_BinarySearch_Lint_int y.ids v.id_ = some (a, b) ∧ idx o.sizes 0 = some (sizeOfE v) ∧ slices_Insert_Lint_int y.ids a ([v.id_] : List Int) = some z.ids ∧ slices_Insert_Lint_int y.sizes a ([sizeOfE v] : List Int) = some z.sizes ∧
   ∃ S, rangeB (R := know_Index × Int) (fun k198 s210 => Option.bind (Option.bind (idx o.terms (k198 : Int)) fun x243 => Option.bind (slices_IndexFunc_Lknow_Term_know_Term s210.terms (fun y264 => portref2_PutOf_1 y264 x243)) fun x265 => if (decide (x265 < 0)) = true then Option.bind (appendL 3518437208883 s210.terms ([x243] : List know_Term)) fun x291 => some (⟨s210.ids, s210.sizes, x291⟩ : know_Index) else Option.bind (idx s210.terms x265) fun x307 => Option.bind (slices_Clone_Lknow_Posting_know_Posting x307.list_) fun x320 => Option.bind (appendL 2513169434916 x320 x243.list_) fun x330 => Option.bind (sortFuncL (fun y340 y341 => portref2_PutOf_2 y340 y341) x330) fun x336 => Option.bind (setI s210.terms x265 ({ (x307 : know_Term) with list_ := x336 })) fun x371 => some (⟨s210.ids, s210.sizes, x371⟩ : know_Index)) fun s230 => some (.nx s230)) o.terms.length 0 ⟨z.ids, z.sizes, y.terms⟩ = some (.fin ⟨z.ids, z.sizes, S⟩) ∧ sortFuncL (fun y386 y387 => portref2_PutOf_3 y386 y387) S = some z.terms := by
 obtain ⟨ht, hb⟩ := textBad_size hv
 have hlen := hx.len
 have hTr : wordO.Rise x.terms := List.pairwise_iff_getElem.2 fun i j hi hj hij => hx.words i j _ _ hij (List.getElem?_eq_getElem hi) (List.getElem?_eq_getElem hj)
 have hyr := rise_dropT (id := v.id_) hTr
 have hyl := dropT_len v.id_ x.terms
 have htl := hs.terms
 have hyt : ∀ t ∈ dropT v.id_ x.terms, t.list_.length ≤ 1048576 ∧ (∀ p ∈ t.list_, p.id_ ≠ v.id_) ∧ idO.Rise t.list_ := fun t h => by
  obtain ⟨u, hu, _, e⟩ := mem_dropT h
  rw [e]
  refine ⟨Nat.le_trans (List.length_filter_le _ _) (hs.list u hu), fun p hp => ?_, ?_⟩
  ·have := (List.mem_filter.1 hp).2
   simpa using this
  ·refine List.Pairwise.sublist List.filter_sublist ?_
   exact List.pairwise_iff_getElem.2 fun i j hi hj hij => (hx.terms u hu).rise i j _ _ hij (List.getElem?_eq_getElem hi) (List.getElem?_eq_getElem hj)
 have hir : x.ids.Pairwise (· < ·) := List.pairwise_iff_getElem.2 fun i j hi hj hij => hx.rise i j _ _ hij (List.getElem?_eq_getElem hi) (List.getElem?_eq_getElem hj)
 have hyi : (x.ids.filter (· != v.id_)).Pairwise (· < ·) := List.Pairwise.sublist List.filter_sublist hir
 have hyil : (x.ids.filter (· != v.id_)).length ≤ 200 := Nat.le_trans (List.length_filter_le _ _) hlen
 have hysl := dropZ_len v.id_ x.ids x.sizes hx.sizes.symm
 obtain ⟨k, T', k1, k2, k3, k4, k5, _⟩ := with_val (x := withoutL x v.id_) (v := v) (has := hasT (dropT v.id_ x.terms)) (lst := lstT (dropT v.id_ x.terms)) (terms_self hyr) (fun s h => lstT_none h) hyi (by show (dropT v.id_ x.terms).length ≤ _; omega)
  (fun t h => by have := (hyt t h).1; omega) (by show (x.ids.filter (· != v.id_)).length ≤ _; omega) hysl ht hb
 obtain ⟨Tv, w1, w2⟩ := indexOf_val [v] (List.pairwise_singleton _ _) (fun u hu => by rw [List.mem_singleton.1 hu]; exact ⟨ht, hb⟩) (by simp)
 obtain ⟨q, _, q1, q2, q3⟩ := postings_val v ht hb
 have hTv : Tv = q.map fun s => (⟨s, [postOf v s]⟩ : know_Term) := w2.uniq ⟨by
  show List.Pairwise _ _
  rw [List.pairwise_map]
  exact q1, fun t => by
  rw [List.mem_map, anyS_one]
  constructor
  ·rintro ⟨s, hs, rfl⟩
   exact ⟨(q2 s).1 hs, (lstOf_one v s ((q2 s).1 hs)).symm⟩
  ·rintro ⟨h1, h2⟩
   rw [lstOf_one v _ h1] at h2
   exact ⟨t.word, (q2 _).2 h1, by rw [← h2]⟩⟩
 subst hTv
 obtain ⟨a, b, a1, a2, a3, a4, _⟩ := bint_val (l := x.ids.filter (· != v.id_)) (by omega) hyi v.id_
 have hak : a = k := by
  rcases Nat.lt_trichotomy a k with h | h | h
  ·have h2 : a < (x.ids.filter (· != v.id_)).length := Nat.lt_of_lt_of_le h k1
   have h3 := k2 a _ h (List.getElem?_eq_getElem h2)
   have h4 := a4 a _ (Nat.le_refl _) (List.getElem?_eq_getElem h2)
   exact absurd (Int.lt_of_lt_of_le h3 h4) (Int.lt_irrefl _)
  ·exact h
  ·have h2 : k < (x.ids.filter (· != v.id_)).length := Nat.lt_of_lt_of_le h a2
   have h3 := a3 k _ h (List.getElem?_eq_getElem h2)
   have h4 := k3 k _ (Nat.le_refl _) (List.getElem?_eq_getElem h2)
   exact absurd (Int.lt_of_lt_of_le h3 h4) (Int.lt_irrefl _)
 subst hak
 have hins : ∀ (l : List Int) (z : Int), l.length = (x.ids.filter (· != v.id_)).length → slices_Insert_Lint_int l (a : Int) [z] = some (l.take a ++ [z] ++ l.drop a) := fun l z h => by
  unfold slices_Insert_Lint_int
  rw [if_pos ⟨by omega, by omega, by simp, by rw [List.length_singleton]; omega⟩, Int.toNat_natCast]
 obtain ⟨S, s1, S', s2, s3, s4⟩ := put_loop (T := dropT v.id_ x.terms) (v := v) hyr (by omega) (fun t h => (hyt t h).1) (fun t h => (hyt t h).2.1) (fun t h => (hyt t h).2.2) q1 q3 ((x.ids.filter (· != v.id_)).take a ++ [v.id_] ++ (x.ids.filter (· != v.id_)).drop a) ((dropZ v.id_ x.ids x.sizes).take a ++ [sizeOfE v] ++ (dropZ v.id_ x.ids x.sizes).drop a)
 have hST : S' = T' := Terms.uniq (has := fun s => hasT (dropT v.id_ x.terms) s ∨ hasS v s) (lst := newT (dropT v.id_ x.terms) v q) ⟨s3, fun t => by rw [s4, q2]⟩ (k5.cong (fun s => Iff.rfl) fun s _ => by
  unfold newT
  by_cases h : hasS v s
  ·rw [if_pos h, if_pos ((q2 s).2 h)]
  ·rw [if_neg h, if_neg fun h2 => h ((q2 s).1 h2)])
 subst hST
 refine ⟨withoutL x v.id_, _, code_without hx.toIdsOk hs v.id_, k4, ref_without hx.toIdsOk hs v.id_, hyil, ?_, _, (a : Int), b, w1, a1, rfl, hins _ _ rfl, hins _ _ hysl, S, ?_, s2⟩
 ·show ((x.ids.filter (· != v.id_)).take a ++ [v.id_] ++ (x.ids.filter (· != v.id_)).drop a).length = _
  rw [List.length_append, List.length_append, List.length_take, List.length_drop, List.length_singleton]
  show _ = (x.ids.filter (· != v.id_)).length + 1
  omega
 ·dsimp only
  rw [List.length_map]
  exact s1
theorem put_val {x : know_Index} (hs : Small x) {c : Int} (h1 : know_CheckIndex x = some c) (h2 : portref2_IndexFault x = some c) (h3 : c = 0 → IndexOk x) (v : know_Entry) : ∃ r, know_Put x v = some r ∧ portref2_PutOf x v = some r := by
 unfold know_Put portref2_PutOf
 rw [h1, h2, Option.bind_some, Option.bind_some, entry_val, Option.bind_some, or_er, Option.bind_some]
 by_cases hc : c = 0
 rotate_left
 ·rw [if_pos hc, if_pos (by simpa using hc), if_pos (by simpa using hc)]
  exact ⟨_, rfl, rfl⟩
 subst hc
 rw [if_neg (c := (0 : Int) ≠ 0) (by decide), if_neg (c := ((0 : Int) != 0) = true) (by decide)]
 unfold entBad
 by_cases hid : v.id_ < 1 ∨ 3000000 < v.id_
 ·rw [if_pos hid, if_pos (by decide), if_pos (by simpa using hid)]
  exact ⟨_, rfl, rfl⟩
 rw [if_neg hid, if_neg (c := ((decide (v.id_ < 1)) || (decide ((3000000 : Int) < v.id_))) = true) (by simpa using hid), textBad_ref, Option.bind_some]
 by_cases hv : textBad v = 0
 rotate_left
 ·rw [if_pos (by simpa using hv), if_pos (by simpa using hv)]
  exact ⟨_, rfl, rfl⟩
 rw [if_neg (by simpa using hv), if_neg (by simpa using hv)]
 obtain ⟨y, z, g1, g2, g3, g4, g5, o, a, b, g6, g7, g8, g9, g10, S, g11, g12⟩ := put_good (h3 rfl) hs hv
 rw [g1, Option.bind_some, g2, Option.bind_some, g3, Option.bind_some, g6, Option.bind_some]
 by_cases hl : y.ids.length = 200
 ·rw [if_pos (by rw [decide_eq_true_eq]; omega), if_pos (by simp [hl])]
  exact ⟨_, rfl, rfl⟩
 ·rw [if_neg (by rw [decide_eq_true_eq]; omega), if_neg (by simp; omega), g7, Option.bind_some, g8, Option.bind_some, g9, Option.bind_some, g10, Option.bind_some, g11, Option.bind_some, Lp.andThen_fin]
  dsimp only
  rw [g12, Option.bind_some]
  exact ⟨_, rfl, rfl⟩
theorem drop_val {x : know_Index} (hs : Small x) {c : Int} (h1 : know_CheckIndex x = some c) (h2 : portref2_IndexFault x = some c) (h3 : c = 0 → IndexOk x) (id : Int) : ∃ r, know_Drop x id = some r ∧ portref2_DropOf x id = some r := by
 unfold know_Drop portref2_DropOf
 rw [h1, h2, Option.bind_some, Option.bind_some]
 by_cases hc : c = 0
 rotate_left
 ·rw [if_pos (by simpa using hc), if_pos (by simpa using hc)]
  exact ⟨_, rfl, rfl⟩
 subst hc
 have hx := h3 rfl
 have hlen := hx.len
 rw [if_neg (by decide), if_neg (by decide)]
 obtain ⟨a, b1, b2, b3⟩ := bsearch_val (l := x.ids) (by omega) hx.rise id
 unfold slices_Contains_Lint_int
 rw [b1, Option.bind_some]
 by_cases hin : id ∈ x.ids
 ·obtain ⟨_, e⟩ := b2 hin
  rw [e, Option.bind_some, Option.bind_some, code_without hx.toIdsOk hs, ref_without hx.toIdsOk hs]
  rw [if_neg (by simp [hin]), if_neg (by simp)]
  exact ⟨_, rfl, rfl⟩
 ·rw [b3 hin, Option.bind_some, Option.bind_some, if_pos (by simp [hin]), if_pos (by decide)]
  exact ⟨_, rfl, rfl⟩
theorem changes_true (x : know_Index) (v : know_Entry) (id : Int) (b1 b2 : Nat) (hb : bindex x + b1 + b2 ≤ 1048576) : portlaw2_IndexChanges x v id = some true := by
 have hs := small_of x (by omega)
 obtain ⟨c, h1, h2, h3⟩ := index_eq x hs
 obtain ⟨r, r1, r2⟩ := put_val hs h1 h2 h3 v
 obtain ⟨d, d1, d2⟩ := drop_val hs h1 h2 h3 id
 unfold portlaw2_IndexChanges
 rw [r1, r2, d1, d2, h1, h2]
 simp [alike_self]
end Go.Proofs.YtldkdabcdbgpbaaGreatDoor.M
