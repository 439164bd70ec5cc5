/-
  The index of the law: plain part.
-/
import Derived.Test.YtldkdabcdbgpbaaGreatDoorIndexMakesKixWith
namespace Go.Proofs.YtldkdabcdbgpbaaGreatDoor.M
open Go Go.Pu
set_option linter.unusedSimpArgs false
set_option linter.unusedVariables false

open Classical in
/-- the postings of a stem -/
noncomputable def pairsOf (l : List know_Entry) (s : ByteArray) : List (Int × know_Posting) := (l.filter fun v => decide (hasS v s)).map fun v => (v.id_, postOf v s)
noncomputable def lstOf (l : List know_Entry) (s : ByteArray) : List know_Posting := (pairsOf l s).map (·.2)
def anyS (l : List know_Entry) (s : ByteArray) : Prop := ∃ v ∈ l, hasS v s
theorem pairs_snoc (l : List know_Entry) (v : know_Entry) (s : ByteArray) : pairsOf (l ++ [v]) s = pairsOf l s ++ (if postE (postOf v s) then [] else [(v.id_, postOf v s)]) := by
  unfold pairsOf
  rw [List.filter_append, List.map_append]
  congr 1
  by_cases h : postE (postOf v s)
  · have h2 : ¬ hasS v s := fun e => e h
    rw [if_pos h]
    simp [h2]
  · have h2 : hasS v s := h
    rw [if_neg h]
    simp [h2]
theorem lst_snoc (l : List know_Entry) (v : know_Entry) (s : ByteArray) : lstOf (l ++ [v]) s = lstOf l s ++ (if postE (postOf v s) then [] else [postOf v s]) := by
  unfold lstOf
  rw [pairs_snoc, List.map_append]
  congr 1
  split <;> rfl
theorem any_snoc (l : List know_Entry) (v : know_Entry) (s : ByteArray) : anyS (l ++ [v]) s ↔ anyS l s ∨ hasS v s := by
  unfold anyS
  constructor
  · rintro ⟨u, hu, h⟩
    rcases List.mem_append.1 hu with hu | hu
    · exact .inl ⟨u, hu, h⟩
    · rw [List.mem_singleton] at hu
      subst hu
      exact .inr h
  · rintro (⟨u, hu, h⟩ | h)
    · exact ⟨u, List.mem_append_left _ hu, h⟩
    · exact ⟨v, List.mem_append_right _ (List.mem_singleton.2 rfl), h⟩
theorem pairs_len (l : List know_Entry) (s : ByteArray) : (pairsOf l s).length ≤ l.length := by
  unfold pairsOf
  rw [List.length_map]
  exact List.length_filter_le _ _
theorem lst_len (l : List know_Entry) (s : ByteArray) : (lstOf l s).length ≤ l.length := by
  unfold lstOf
  rw [List.length_map]
  exact pairs_len l s
theorem pairs_nil {l : List know_Entry} {s : ByteArray} : pairsOf l s = [] ↔ ¬ anyS l s := by
  unfold pairsOf anyS
  rw [List.map_eq_nil_iff, List.filter_eq_nil_iff]
  simp
theorem lst_nil {l : List know_Entry} {s : ByteArray} (h : ¬ anyS l s) : lstOf l s = [] := by
  unfold lstOf
  rw [pairs_nil.2 h]
  rfl
theorem pairs_id {l : List know_Entry} {s : ByteArray} {p : Int × know_Posting} (h : p ∈ pairsOf l s) : ∃ v ∈ l, p.1 = v.id_ ∧ p.2 = postOf v s := by
  unfold pairsOf at h
  obtain ⟨v, hv, rfl⟩ := List.mem_map.1 h
  exact ⟨v, (List.mem_filter.1 hv).1, rfl, rfl⟩
theorem lst_rise {l : List know_Entry} (hl : l.Pairwise fun a b => a.id_ < b.id_) (s : ByteArray) : (lstOf l s).Pairwise fun a b : know_Posting => a.id_ < b.id_ := by
  unfold lstOf pairsOf
  rw [List.map_map, List.pairwise_map]
  exact hl.filter _

theorem mapGet_app {κ α : Type} [DecidableEq κ] {l m : List (κ × α)} {k : κ} (h : ∀ p ∈ l, p.1 ≠ k) : mapGet (l ++ m) k = mapGet m k := by
  induction l with
  | nil => rfl
  | cons p l ih =>
    rw [List.cons_append, mapGet, if_neg (h p List.mem_cons_self)]
    exact ih fun q hq => h q (List.mem_cons_of_mem _ hq)
theorem mapPut_app {κ α : Type} [DecidableEq κ] {l : List (κ × α)} {k : κ} (e : Prop) [Decidable e] (x y : α) (h : ∀ p ∈ l, p.1 ≠ k) : mapPut (l ++ if e then [] else [(k, x)]) k y = l ++ [(k, y)] := by
  by_cases he : e
  · rw [if_pos he, List.append_nil]
    unfold mapPut
    rw [if_neg]
    rintro ⟨p, hp, h2⟩
    exact h p hp h2
  · rw [if_neg he]
    unfold mapPut
    rw [if_pos ⟨(k, x), by simp, rfl⟩, List.map_append]
    congr 1
    · conv => rhs; rw [← List.map_id l]
      refine List.map_congr_left fun q hq => ?_
      rw [if_neg (h q hq)]
      rfl
    · simp

/-- where an entry's postings stand -/
noncomputable def curOf (l : List know_Entry) (v : know_Entry) (kt kb : Nat) (s : ByteArray) : List (Int × know_Posting) := pairsOf l s ++ (if postE (postAt v kt kb s) then [] else [(v.id_, postAt v kt kb s)])
structure Atd (l : List know_Entry) (v : know_Entry) (kt kb : Nat) (m : List (ByteArray × List (Int × know_Posting))) : Prop where
  get : ∀ s, mapGet m s = if curOf l v kt kb s = [] then none else some (curOf l v kt kb s)
  nod : (m.map (·.1)).Nodup
  len : m.length ≤ 20200 * l.length + kt + kb
theorem Atd.getD {l : List know_Entry} {v : know_Entry} {kt kb : Nat} {m : List (ByteArray × List (Int × know_Posting))} (h : Atd l v kt kb m) (s : ByteArray) : (mapGet m s).getD [] = curOf l v kt kb s := by
  rw [h.get]
  split
  · rename_i he
    exact he.symm
  · rfl
theorem cur_get {l : List know_Entry} {v : know_Entry} {kt kb : Nat} {s : ByteArray} (hl : ∀ u ∈ l, u.id_ ≠ v.id_) : (mapGet (curOf l v kt kb s) v.id_).getD ⟨v.id_, [], []⟩ = postAt v kt kb s := by
  unfold curOf
  rw [mapGet_app (fun p hp => by obtain ⟨u, hu, e, _⟩ := pairs_id hp; rw [e]; exact hl u hu)]
  by_cases he : postE (postAt v kt kb s)
  · rw [if_pos he]
    obtain ⟨h1, h2⟩ := he
    show (⟨v.id_, [], []⟩ : know_Posting) = _
    unfold postAt at h1 h2 ⊢
    dsimp only at h1 h2
    rw [h1, h2]
  · rw [if_neg he, mapGet, if_pos rfl]
    rfl
theorem cur_put {l : List know_Entry} {v : know_Entry} {kt kb : Nat} {s : ByteArray} (hl : ∀ u ∈ l, u.id_ ≠ v.id_) (y : know_Posting) : mapPut (curOf l v kt kb s) v.id_ y = pairsOf l s ++ [(v.id_, y)] := by
  unfold curOf
  exact mapPut_app _ _ _ (fun p hp => by obtain ⟨u, hu, e, _⟩ := pairs_id hp; rw [e]; exact hl u hu)
theorem mapPut_len {κ α : Type} [DecidableEq κ] (l : List (κ × α)) (k : κ) (v : α) : (mapPut l k v).length ≤ l.length + 1 := by
  unfold mapPut
  split
  · rw [List.length_map]; omega
  · rw [List.length_append, List.length_singleton]; omega
theorem mapPut_nodup {κ α : Type} [DecidableEq κ] {l : List (κ × α)} (k : κ) (v : α) (h : (l.map (·.1)).Nodup) : ((mapPut l k v).map (·.1)).Nodup := by
  rw [mapPut_keys]
  split
  · exact h
  · rename_i hn
    exact nodup_snoc h fun hm => hn (mapGet_mem.2 hm)

theorem at_round (l : List know_Entry) (v : know_Entry) (hl : ∀ u ∈ l, u.id_ ≠ v.id_) (title : Bool) (hn : (stemsL v.title).length ≤ 1000000 ∧ (stemsL v.body).length ≤ 1000000) (kt kb : Nat) (hkt : kt ≤ (stemsL v.title).length) (hkb : kb ≤ (stemsL v.body).length) (hlt : if title = true then kt < (stemsL v.title).length else kb < (stemsL v.body).length)
    (m : List (ByteArray × List (Int × know_Posting))) (hs : Atd l v kt kb m) : ∃ m', idxAtWord v.id_ title (wordsL (if title = true then v.title else v.body).data.toList) (if title = true then kt else kb) m = some (.nx m') ∧ Atd l v (if title = true then kt + 1 else kt) (if title = true then kb else kb + 1) m' := by
  unfold idxAtWord
  have key : ∀ (tx : ByteArray) (k : Nat), k < (stemsL tx).length → ∃ w, (wordsL tx.data.toList)[k]? = some w ∧ portref2_StemOf w = some (stemF w) ∧ (stemsL tx)[k]? = some (stemF w) := fun tx k hk => by
    unfold stemsL at hk ⊢
    rw [List.length_map] at hk
    refine ⟨(wordsL tx.data.toList)[k], List.getElem?_eq_getElem hk, (stemF_val _ ?_).2, by simp [hk]⟩
    have := words_small tx.data.toList _ (List.getElem_mem hk)
    omega
  obtain ⟨w, h1, h2, h3⟩ := key (if title = true then v.title else v.body) (if title = true then kt else kb) (by cases title <;> simpa using hlt)
  generalize stemF w = t at h2 h3
  rw [idx_nat, h1, Option.bind_some, h2, Option.bind_some]
  unfold idxAtPut
  rw [hs.getD t, cur_get hl]
  have fin : ∀ (kt' kb' : Nat) (p : know_Posting), p = postAt v kt' kb' t → ¬ postE p → (∀ t', t' ≠ t → postAt v kt' kb' t' = postAt v kt kb t') → kt + kb + 1 ≤ kt' + kb' → Atd l v kt' kb' (mapPut m t (mapPut (curOf l v kt kb t) v.id_ p)) := fun kt' kb' p hp hne ho hle => by
    refine ⟨fun t' => ?_, mapPut_nodup _ _ hs.nod, by have := mapPut_len m t (mapPut (curOf l v kt kb t) v.id_ p); have := hs.len; omega⟩
    rw [mapGet_put_, cur_put hl]
    by_cases he : t = t'
    · subst he
      rw [if_pos rfl]
      have e : curOf l v kt' kb' t = pairsOf l t ++ [(v.id_, p)] := by
        unfold curOf
        rw [← hp, if_neg hne]
      rw [e, if_neg (by simp)]
    · rw [if_neg he, hs.get]
      have e : curOf l v kt' kb' t' = curOf l v kt kb t' := by
        unfold curOf
        rw [ho t' (Ne.symm he)]
      rw [e]
  cases title with
  | true =>
    simp only [if_true] at h3 hlt ⊢
    have hlp := pos_len (stemsL v.title) t kt
    unfold appendL
    rw [if_pos (by show (pos (stemsL v.title) t kt).length + _ ≤ _; rw [List.length_singleton]; omega), Option.bind_some, Option.bind_some]
    refine ⟨_, rfl, fin (kt + 1) kb _ ?_ ?_ (fun t' hne => ?_) (by omega)⟩
    · unfold postAt
      dsimp only
      rw [pos_succ, if_pos h3]
    · rintro ⟨e, _⟩
      simp at e
    · unfold postAt
      rw [pos_succ, if_neg]
      rw [h3]
      exact fun e => hne (Option.some.inj e).symm
  | false =>
    simp only [Bool.false_eq_true, if_false] at h3 hlt ⊢
    have hlp := pos_len (stemsL v.body) t kb
    unfold appendL
    rw [if_pos (by show (pos (stemsL v.body) t kb).length + _ ≤ _; rw [List.length_singleton]; omega), Option.bind_some, Option.bind_some]
    refine ⟨_, rfl, fin kt (kb + 1) _ ?_ ?_ (fun t' hne => ?_) (by omega)⟩
    · unfold postAt
      dsimp only
      rw [pos_succ, if_pos h3]
    · rintro ⟨_, e⟩
      simp at e
    · unfold postAt
      rw [pos_succ (stemsL v.body), if_neg]
      rw [h3]
      exact fun e => hne (Option.some.inj e).symm

/-- how many words an entry has -/
noncomputable def sizeOfE (v : know_Entry) : Int := ((stemsL v.title).length : Int) + ((stemsL v.body).length : Int)
/-- where the table stands between two entries -/
structure Table (l : List know_Entry) (m : List (ByteArray × List (Int × know_Posting))) : Prop where
  get : ∀ s, mapGet m s = if pairsOf l s = [] then none else some (pairsOf l s)
  nod : (m.map (·.1)).Nodup
  len : m.length ≤ 20200 * l.length
theorem post_zero (v : know_Entry) (s : ByteArray) : postE (postAt v 0 0 s) := ⟨pos_zero (stemsL v.title) s, pos_zero (stemsL v.body) s⟩
theorem Table.start {l : List know_Entry} {v : know_Entry} {m : List (ByteArray × List (Int × know_Posting))} (h : Table l m) : Atd l v 0 0 m := by
  have e : ∀ s, curOf l v 0 0 s = pairsOf l s := fun s => by
    unfold curOf
    rw [if_pos (post_zero v s), List.append_nil]
  exact ⟨fun s => by rw [e]; exact h.get s, h.nod, by have := h.len; omega⟩
theorem Atd.done {l : List know_Entry} {v : know_Entry} {m : List (ByteArray × List (Int × know_Posting))} (h : Atd l v (stemsL v.title).length (stemsL v.body).length m) (hs : (stemsL v.title).length + (stemsL v.body).length ≤ 20200) : Table (l ++ [v]) m := by
  have e : ∀ s, curOf l v (stemsL v.title).length (stemsL v.body).length s = pairsOf (l ++ [v]) s := fun s => by
    rw [pairs_snoc]
    rfl
  refine ⟨fun s => by rw [← e]; exact h.get s, h.nod, ?_⟩
  have := h.len
  rw [List.length_append, List.length_singleton]
  omega
theorem at_entry (l : List know_Entry) (hr : l.Pairwise fun a b => a.id_ < b.id_) (hsz : ∀ v ∈ l, v.title.size ≤ 200 ∧ v.body.size ≤ 20000) (hlen : l.length ≤ 200) (k : Nat) (hk : k < l.length) (s : List Int × List Int × List (ByteArray × List (Int × know_Posting)))
    (hs : s.1 = (l.take k).map (·.id_) ∧ s.2.1 = (l.take k).map sizeOfE ∧ Table (l.take k) s.2.2) :
    ∃ s', idxAtEntry l k s = some (.nx s') ∧ s'.1 = (l.take (k + 1)).map (·.id_) ∧ s'.2.1 = (l.take (k + 1)).map sizeOfE ∧ Table (l.take (k + 1)) s'.2.2 := by
  obtain ⟨hs1, hs2, hs3⟩ := hs
  have hx : l[k]? = some l[k] := List.getElem?_eq_getElem hk
  have htk : l.take (k + 1) = l.take k ++ [l[k]] := by rw [List.take_add_one, hx]; rfl
  have hid : ∀ u ∈ l.take k, u.id_ ≠ l[k].id_ := fun u hu => by
    obtain ⟨i, hi, rfl⟩ := List.mem_iff_getElem.1 hu
    rw [List.length_take] at hi
    rw [List.getElem_take]
    have := List.pairwise_iff_getElem.1 hr i k (by omega) hk (by omega)
    omega
  obtain ⟨ht, hb⟩ := hsz l[k] (List.getElem_mem hk)
  have hlk : (l.take k).length = k := by rw [List.length_take]; omega
  rw [htk]
  generalize l[k] = v at hx hid ht hb
  have lt := stemsL_len v.title
  have lb := stemsL_len v.body
  have wl : ∀ s : ByteArray, (wordsL s.data.toList).length = (stemsL s).length := fun s => by unfold stemsL; rw [List.length_map]
  unfold idxAtEntry
  rw [idx_nat, hx, Option.bind_some, portref2_WordsOf_val _ (by omega), Option.bind_some, portref2_WordsOf_val _ (by omega), Option.bind_some, hs1, hs2]
  unfold appendL
  rw [if_pos (by rw [List.length_map, List.length_singleton, hlk]; omega), Option.bind_some, if_pos (by rw [List.length_map, List.length_singleton, hlk]; omega), Option.bind_some, wl, wl, w64_id (by omega) (by omega)]
  obtain ⟨m1, h1, i1⟩ := rangeB_inv (R := Empty) (b := idxAtWord v.id_ true (wordsL v.title.data.toList)) (stemsL v.title).length (fun j m => j ≤ (stemsL v.title).length ∧ Atd (l.take k) v j 0 m) (s := s.2.2)
    ⟨Nat.zero_le _, hs3.start⟩ (fun j m hj hI => by
      obtain ⟨m', e1, e2⟩ := at_round (l.take k) v hid true (by omega) j 0 (by omega) (by omega) (by simpa using hj) m hI.2
      exact ⟨m', by simpa using e1, by omega, by simpa using e2⟩)
  rw [h1]
  simp only [Option.bind_some, Lp.andThen_fin]
  obtain ⟨m2, h2, i2⟩ := rangeB_inv (R := Empty) (b := idxAtWord v.id_ false (wordsL v.body.data.toList)) (stemsL v.body).length (fun j m => j ≤ (stemsL v.body).length ∧ Atd (l.take k) v (stemsL v.title).length j m) (s := m1)
    ⟨Nat.zero_le _, i1.2⟩ (fun j m hj hI => by
      obtain ⟨m', e1, e2⟩ := at_round (l.take k) v hid false (by omega) (stemsL v.title).length j (by omega) (by omega) (by simpa using hj) m hI.2
      exact ⟨m', by simpa using e1, by omega, by simpa using e2⟩)
  rw [h2]
  simp only [Option.bind_some, Lp.andThen_fin]
  exact ⟨_, rfl, by rw [List.map_append]; rfl, by rw [List.map_append]; rfl, i2.2.done (by omega)⟩

theorem byId2_lt (a b : know_Posting) : cmpLt (fun x y => portref2_indexOf_2 x y) a b = decide (a.id_ < b.id_) := by
  have h := (int_ord a.id_ b.id_).1
  show decide (cmp_Compare_int a.id_ b.id_ < 0) = _
  by_cases h2 : a.id_ < b.id_
  · rw [decide_eq_true h2, decide_eq_true (h.2 h2)]
  · rw [decide_eq_false h2, decide_eq_false fun e => h2 (h.1 e)]
/-- postings in order stay as they are -/
theorem sortP_val {m : List know_Posting} (hm : m.Pairwise fun a b => a.id_ < b.id_) (hl : m.length ≤ 1000000) : sortFuncL (fun x y => portref2_indexOf_2 x y) m = some m := by
  have ok : SortOk (fun x y => portref2_indexOf_2 x y) m := by
    refine ⟨by omega, fun x _ y _ => ⟨_, rfl⟩, fun x _ => ?_, fun x _ y _ z _ h1 h2 => ?_, fun x _ y _ z _ h1 h2 => ?_, fun x hx y hy h1 h2 => ?_⟩
    · rw [byId2_lt]; simp
    · rw [byId2_lt, decide_eq_true_eq] at *; omega
    · rw [byId2_lt, decide_eq_false_iff_not] at *; omega
    · rw [byId2_lt, decide_eq_false_iff_not] at h1 h2
      obtain ⟨i, hi, rfl⟩ := List.mem_iff_getElem.1 hx
      obtain ⟨j, hj, rfl⟩ := List.mem_iff_getElem.1 hy
      rcases Nat.lt_trichotomy i j with h | rfl | h
      · exact absurd (List.pairwise_iff_getElem.1 hm i j hi hj h) h1
      · rfl
      · exact absurd (List.pairwise_iff_getElem.1 hm j i hj hi h) h2
  unfold sortFuncL
  rw [if_pos ok]
  refine congrArg some (List.mergeSort_of_pairwise ?_)
  refine hm.imp fun {a b} h => ?_
  rw [byId2_lt, decide_eq_false (by omega)]
  rfl

/-- the index of the law -/
theorem indexOf_val (l : List know_Entry) (hr : l.Pairwise fun a b => a.id_ < b.id_) (hsz : ∀ v ∈ l, v.title.size ≤ 200 ∧ v.body.size ≤ 20000) (hlen : l.length ≤ 200) :
    ∃ T, portref2_indexOf l = some ⟨l.map (·.id_), l.map sizeOfE, T⟩ ∧ Terms (anyS l) (lstOf l) T := by
  unfold portref2_indexOf
  obtain ⟨s, h1, i1, i2, i3⟩ := rangeB_inv (R := Empty) (b := idxAtEntry l) l.length (fun k s => s.1 = (l.take k).map (·.id_) ∧ s.2.1 = (l.take k).map sizeOfE ∧ Table (l.take k) s.2.2) (s := ([], [], []))
    ⟨rfl, rfl, ⟨fun s => by rw [List.take_zero]; rfl, List.nodup_nil, Nat.zero_le _⟩⟩ (fun k s hk hI => at_entry l hr hsz hlen k hk s hI)
  rw [List.take_length] at i1 i2 i3
  have hml := i3.len
  rw [h1, Option.bind_some, Lp.andThen_fin, if_pos (by omega), i1, i2]
  obtain ⟨q, hq, q1, q2⟩ := sortStrs_val (l := s.2.2.map (·.1)) (by rw [List.length_map]; omega) i3.nod
  rw [hq, Option.bind_some]
  have hmem : ∀ t, t ∈ q ↔ anyS l t := fun t => by
    rw [q2, ← mapGet_mem, i3.get]
    by_cases h : pairsOf l t = []
    · rw [if_pos h]
      simp [pairs_nil.1 h]
    · rw [if_neg h]
      have := fun e => h (pairs_nil.2 e)
      simp only [Option.isSome_some, true_iff]
      exact Classical.not_not.1 this
  have hql : q.length = s.2.2.length := by
    unfold sortStrsL at hq
    rw [if_pos (by rw [List.length_map]; omega)] at hq
    have := congrArg List.length (Option.some.inj hq)
    rw [← this]
    unfold strsOf bytesOf
    rw [List.length_map, List.length_mergeSort, List.length_map, List.length_map]
  obtain ⟨L, h3, h4⟩ := rangeB_inv (R := Empty) (b := idxTerm s.2.2 q) q.length (fun k s => s = (q.take k).map fun t => (⟨t, lstOf l t⟩ : know_Term)) (s := []) rfl (fun k u hk hI => by
    subst hI
    have hx : q[k]? = some q[k] := List.getElem?_eq_getElem hk
    have hm := (hmem q[k]).1 (List.getElem_mem hk)
    generalize q[k] = t at hx hm
    have hpl := pairs_len l t
    unfold idxTerm
    rw [idx_nat, hx, Option.bind_some, i3.get, if_neg (fun e => pairs_nil.1 e hm), Option.bind_some, if_pos (by omega), show (pairsOf l t).map (·.2) = lstOf l t from rfl, sortP_val (lst_rise hr t) (by have := lst_len l t; omega), Option.bind_some]
    unfold appendL
    rw [if_pos (by rw [List.length_map, List.length_take, List.length_singleton]; omega), Option.bind_some]
    refine ⟨_, rfl, ?_⟩
    rw [List.take_add_one, hx, List.map_append]
    rfl)
  rw [List.take_length] at h4
  rw [h3, Option.bind_some, Lp.andThen_fin, h4]
  refine ⟨_, rfl, ?_, fun t => ?_⟩
  · show List.Pairwise _ _
    rw [List.pairwise_map]
    exact q1
  · rw [List.mem_map]
    constructor
    · rintro ⟨u, hu, rfl⟩
      exact ⟨(hmem u).1 hu, rfl⟩
    · rintro ⟨h1, h2⟩
      exact ⟨t.word, (hmem _).2 h1, by rw [← h2]⟩
end Go.Proofs.YtldkdabcdbgpbaaGreatDoor.M
