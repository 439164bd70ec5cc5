/-
  KnowPublishes: a version more of an article: plain part.
-/
import Derived.Test.YtcfmgjmpodpfiaaGreatDoorKnowPublishesArtOk
import Derived.Test.YtcfmgjmpodpfiaaGreatDoorKnowPublishesSrchLoop
import Derived.Test.YtcfmgjmpodpfiaaGreatDoorKnowPublishesRngBase
namespace Go.Proofs.YtcfmgjmpodpfiaaGreatDoor.M
open Go Go.Pu
set_option linter.unusedSimpArgs false
set_option linter.unusedVariables false

def Asc (l : List know_Article) : Prop := l.Pairwise fun x y => x.id_ < y.id_
theorem asc_of {l : List know_Article} (h : ∀ k (hk : k + 1 < l.length), l[k].id_ < l[k + 1].id_) : Asc l := by
  unfold Asc
  rw [List.pairwise_iff_getElem]
  intro i j hi hj hij
  induction j with
  | zero => omega
  | succ j ih =>
    have h1 := h j hj
    rcases Nat.lt_or_eq_of_le (Nat.le_of_lt_succ hij) with h2 | rfl
    · have := ih (by omega) h2
      omega
    · exact h1
theorem asc_at {l : List know_Article} (h : Asc l) {p q : Nat} {x y : know_Article} (hpq : p < q) (hx : l[p]? = some x) (hy : l[q]? = some y) : x.id_ < y.id_ := by
  obtain ⟨h1, rfl⟩ := List.getElem?_eq_some_iff.1 hx
  obtain ⟨h2, rfl⟩ := List.getElem?_eq_some_iff.1 hy
  exact List.pairwise_iff_getElem.1 h p q h1 h2 hpq
theorem compare_ii (x y : Int) : cmp_Compare_int x y = (if x < y then -1 else if y < x then 1 else 0) := by
  unfold cmp_Compare_int cmp_isNaN_int
  simp

/-- where an article lies, or would lie -/
theorem find_art {l : List know_Article} (hs : Asc l) (hl : l.length ≤ 200) (id : Int) :
    ∃ a : Nat, a ≤ l.length ∧ know_find l id = some ((a : Int), decide (∃ x, l[a]? = some x ∧ x.id_ = id)) ∧ (∀ q x, q < a → l[q]? = some x → x.id_ < id) ∧ (∀ q x, a ≤ q → l[q]? = some x → id ≤ x.id_) ∧ portref2_articleAt l id = some (if (∃ x, l[a]? = some x ∧ x.id_ = id) then (a : Int) else -1) := by
  obtain ⟨a, ha, e, hlo, hhi⟩ := search_loop (R := Int × Bool) (l := l) (by omega) (fun x => some (decide (x.id_ < id))) (fun x => decide (x.id_ < id)) (fun _ _ => rfl) (fun p q x y hpq hx hy h => by
    have := asc_at hs hpq hx hy
    simp at h ⊢
    omega) (fun s12 => if (decide (s12.1 < s12.2)) = true then Option.bind (Option.bind (shr .u64 (IntKind.wrap .u64 (w64 (s12.1 + s12.2))) 1) fun x32 => Option.bind (idx l (IntKind.wrap .i64 x32)) fun x33 => Option.bind (know_find_1 x33 id) fun x40 => Option.bind (if (decide (x40 < 0)) = true then some (w64 ((IntKind.wrap .i64 x32) + 1), s12.2) else some (s12.1, IntKind.wrap .i64 x32)) fun s45 => some (s45.1, s45.2)) fun s25 => some (.nx (s25.1, s25.2)) else some (.bk (s12.1, s12.2))) (fun s => by
    split
    · cases shr .u64 (IntKind.wrap .u64 (w64 (s.1 + s.2))) 1 with
      | none => rfl
      | some u =>
        simp only [Option.bind_some]
        cases idx l (IntKind.wrap .i64 u) with
        | none => rfl
        | some x =>
          have e1 : decide ((if x.id_ < id then (-1 : Int) else if id < x.id_ then 1 else 0) < 0) = decide (x.id_ < id) := by
            rw [Bool.eq_iff_iff, decide_eq_true_eq, decide_eq_true_eq]
            split
            · simp_all
            · split <;> simp_all
          simp only [Option.bind_some, know_find_1, compare_ii, e1]
          split <;> rfl
    · rfl)
  refine ⟨a, ha, ?_, fun q x h hx => of_decide_eq_true (hlo q x h hx), fun q x h hx => by have := of_decide_eq_false (hhi q x h hx); omega, ?_⟩
  · unfold know_find slices_BinarySearchFunc_Lknow_Article_know_Article_int
    rw [e, Option.bind_some, Lp.andThen_fin]
    by_cases hal : a < l.length
    · have hx : l[a]? = some l[a] := List.getElem?_eq_getElem hal
      rw [if_pos (by rw [decide_eq_true_eq]; simp only; omega)]
      simp only [idx_nat, hx, Option.bind_some, know_find_1, compare_ii]
      congr 2
      have h1 := of_decide_eq_false (hhi a _ (Nat.le_refl _) hx)
      rw [Bool.eq_iff_iff]
      simp only [beq_iff_eq, decide_eq_true_eq, Option.some.injEq, exists_eq_left']
      split
      · omega
      · split <;> omega
    · rw [if_neg (by rw [decide_eq_true_eq]; simp only; omega)]
      have : l[a]? = none := List.getElem?_eq_none (by omega)
      simp [this]
  · unfold portref2_articleAt slices_IndexFunc_Lknow_Article_know_Article
    have hr := rangeB_index l (fun x => x.id_ == id)
    have hb : rangeB (fun k6 (_ : Unit) => Option.bind (idx l (k6 : Int)) fun x25 => Option.bind ((fun y9 => portref2_articleAt_1 y9 id) x25) fun x32 => if x32 = true then some (Ctl.rt (S := Unit) (k6 : Int)) else some (.nx ())) l.length 0 () = _ := hr
    rw [hb]
    by_cases hf : ∃ x, l[a]? = some x ∧ x.id_ = id
    · obtain ⟨x, hx, rfl⟩ := hf
      have hal := (List.getElem?_eq_some_iff.1 hx).1
      have : l.findIdx? (fun y => y.id_ == x.id_) = some a := by
        rw [List.findIdx?_eq_some_iff_getElem]
        refine ⟨hal, ?_, fun j hj => ?_⟩
        · have := (List.getElem?_eq_some_iff.1 hx).2
          simp [this]
        · have := of_decide_eq_true (hlo j _ hj (List.getElem?_eq_getElem (by omega)))
          simp
          omega
      rw [this, if_pos ⟨x, hx, rfl⟩]
      rfl
    · have : l.findIdx? (fun y => y.id_ == id) = none := by
        rw [List.findIdx?_eq_none_iff]
        intro y hy
        obtain ⟨q, hq⟩ := List.mem_iff_getElem?.1 hy
        simp only [beq_eq_false_iff_ne]
        intro hyi
        rcases Nat.lt_trichotomy q a with h | h | h
        · have := of_decide_eq_true (hlo q y h hq); omega
        · exact hf ⟨y, by rw [← h]; exact hq, hyi⟩
        · have hal : a < l.length := by have := (List.getElem?_eq_some_iff.1 hq).1; omega
          have h1 := of_decide_eq_false (hhi a _ (Nat.le_refl _) (List.getElem?_eq_getElem hal))
          have h2 := asc_at hs h (List.getElem?_eq_getElem hal) hq
          omega
      rw [this, if_neg hf]
      rfl

/-- a new article behind all others comes to its place -/
theorem sort_art {l : List know_Article} (hs : Asc l) (hl : l.length ≤ 200) (n : know_Article) {a : Nat} (ha : a ≤ l.length) (h1 : ∀ q x, q < a → l[q]? = some x → x.id_ < n.id_) (h2 : ∀ q x, a ≤ q → l[q]? = some x → n.id_ < x.id_) :
    sortFuncL (fun y154 y155 => portref2_PublishOf_1 y154 y155) (l ++ [n]) = some (l.take a ++ [n] ++ l.drop a) := by
  have hc : ∀ x y : know_Article, portref2_PublishOf_1 x y = some (if x.id_ < y.id_ then -1 else if y.id_ < x.id_ then 1 else 0) := fun x y => by unfold portref2_PublishOf_1; rw [compare_ii]
  have hlt : ∀ x y : know_Article, cmpLt (fun y154 y155 => portref2_PublishOf_1 y154 y155) x y = true ↔ x.id_ < y.id_ := fun x y => by
    unfold cmpLt
    simp only [hc, decide_eq_true_eq]
    split
    · simp_all
    · split <;> simp_all
  have hnl : ∀ x y : know_Article, cmpLt (fun y154 y155 => portref2_PublishOf_1 y154 y155) x y = false ↔ y.id_ ≤ x.id_ := fun x y => by
    rw [← Bool.not_eq_true, hlt]; omega
  have hp : (l.take a ++ [n] ++ l.drop a).Perm (l ++ [n]) := by
    have : (l.take a ++ [n] ++ l.drop a).Perm (l.take a ++ l.drop a ++ [n]) := by
      rw [List.append_assoc, List.append_assoc]
      exact List.Perm.append_left _ List.perm_append_comm
    rwa [List.take_append_drop] at this
  have hsort : Asc (l.take a ++ [n] ++ l.drop a) := by
    unfold Asc
    rw [List.append_assoc, List.pairwise_append]
    refine ⟨List.Pairwise.sublist (List.take_sublist _ _) hs, ?_, fun x hx y hy => ?_⟩
    · rw [List.singleton_append, List.pairwise_cons]
      refine ⟨fun y hy => ?_, List.Pairwise.sublist (List.drop_sublist _ _) hs⟩
      obtain ⟨q, hq⟩ := List.mem_iff_getElem?.1 hy
      rw [List.getElem?_drop] at hq
      exact h2 _ _ (Nat.le_add_right _ _) hq
    · obtain ⟨q, hq⟩ := List.mem_iff_getElem?.1 hx
      rw [List.getElem?_take] at hq
      split at hq
      case isFalse => cases hq
      rename_i hqa
      rcases List.mem_append.1 hy with hy | hy
      · simp at hy
        subst hy
        exact h1 _ _ hqa hq
      · obtain ⟨p, hp⟩ := List.mem_iff_getElem?.1 hy
        rw [List.getElem?_drop] at hp
        exact asc_at hs (by omega) hq hp
  have huniq : ∀ x ∈ l ++ [n], ∀ y ∈ l ++ [n], x.id_ = y.id_ → x = y := by
    intro x hx y hy hxy
    obtain ⟨i, hi⟩ := List.mem_iff_getElem?.1 (hp.mem_iff.2 hx)
    obtain ⟨j, hj⟩ := List.mem_iff_getElem?.1 (hp.mem_iff.2 hy)
    rcases Nat.lt_trichotomy i j with h | h | h
    · have := asc_at hsort h hi hj; omega
    · subst h; rw [hi] at hj; exact Option.some.inj hj
    · have := asc_at hsort h hj hi; omega
  have hok : SortOk (fun y154 y155 => portref2_PublishOf_1 y154 y155) (l ++ [n]) := by
    refine ⟨by simp; omega, fun x _ y _ => ⟨_, hc x y⟩, fun x _ => ?_, fun x _ y _ z _ => ?_, fun x _ y _ z _ => ?_, fun x hx y hy => ?_⟩
    · rw [hnl]; exact Int.le_refl _
    · rw [hlt, hlt, hlt]; omega
    · rw [hnl, hnl, hnl]; omega
    · rw [hnl, hnl]
      intro h3 h4
      exact huniq x hx y hy (by omega)
  unfold sortFuncL
  rw [if_pos hok]
  congr 1
  have hm := List.pairwise_mergeSort (le := fun x y => !(cmpLt (fun y154 y155 => portref2_PublishOf_1 y154 y155) y x)) (by
    intro x y z h3 h4
    simp only [Bool.not_eq_true', hnl] at h3 h4 ⊢
    omega) (by
    intro x y
    simp only [Bool.or_eq_true, Bool.not_eq_true', hnl]
    omega) (l ++ [n])
  have hpm := List.mergeSort_perm (l ++ [n]) fun x y => !(cmpLt (fun y154 y155 => portref2_PublishOf_1 y154 y155) y x)
  generalize (l ++ [n]).mergeSort (fun x y => !(cmpLt (fun y154 y155 => portref2_PublishOf_1 y154 y155) y x)) = ms at hm hpm
  refine uniq_sorted (fun x y => x.id_ < y.id_ ∨ x = y) (fun x y h3 h4 => ?_) _ _ (hpm.trans hp.symm) (hm.imp_of_mem fun {x y} hx hy h3 => ?_) (hsort.imp Or.inl)
  · rcases h3 with h3 | h3
    · rcases h4 with h4 | h4
      · omega
      · exact h4.symm
    · exact h3
  · simp only [Bool.not_eq_true', hnl] at h3
    by_cases h4 : x.id_ = y.id_
    · exact Or.inr (huniq x (hpm.mem_iff.1 hx) y (hpm.mem_iff.1 hy) h4)
    · exact Or.inl (by omega)

theorem setI_same {l : List know_Article} {k : Nat} {x : know_Article} (h : l[k]? = some x) : setI l (k : Int) x = some l := by
  unfold setI
  have hk := (List.getElem?_eq_some_iff.1 h).1
  rw [if_pos (by omega), Int.toNat_natCast]
  congr 1
  apply List.ext_getElem?
  intro m
  by_cases hm : k = m
  · subst hm; rw [List.getElem?_set_self hk, h]
  · rw [List.getElem?_set_ne hm]

theorem publish_eq (l : List know_Article) (id : Int) (v : know_Version) : ∃ x, know_Publish l id v = some x ∧ portref2_PublishOf l id v = some x := by
  obtain ⟨r, e1, e2, e3⟩ := articles_eq l
  unfold know_Publish portref2_PublishOf
  rw [e1, e2, Option.bind_some, Option.bind_some]
  by_cases hr : r = 0
  rotate_left
  · rw [if_pos (by simpa using hr), if_pos (by simpa using hr)]
    exact ⟨_, rfl, rfl⟩
  subst hr
  simp only [bne_self_eq_false, Bool.false_eq_true, if_false]
  obtain ⟨hlen, hver⟩ := e3 rfl
  obtain ⟨_, hids, _⟩ := articles_ok e2
  have hasc := asc_of hids
  have c1 : (!(know_within id 1 3000000)) = ((decide (id < 1)) || (decide ((3000000 : Int) < id))) := by
    rw [Bool.eq_iff_iff]; simp [know_within]
  rw [c1]
  by_cases hid : ((decide (id < 1)) || (decide ((3000000 : Int) < id))) = true
  · rw [if_pos hid, if_pos hid]
    exact ⟨_, rfl, rfl⟩
  rw [if_neg hid, if_neg hid]
  have hcl : slices_Clone_Lknow_Article_know_Article l = some l := by
    unfold slices_Clone_Lknow_Article_know_Article appendL
    rw [if_pos (by simp; omega)]
    rfl
  have hcv : ∀ vs : List know_Version, vs.length ≤ 40 → slices_Clone_Lknow_Version_know_Version vs = some vs := fun vs h => by
    unfold slices_Clone_Lknow_Version_know_Version appendL
    rw [if_pos (by simp; omega)]
    rfl
  rw [hcl, Option.bind_some, Option.bind_some]
  obtain ⟨t, hloop, rfl⟩ := rangeB_inv (R := (List know_Article) × Int) (b := fun k25 s33 => Option.bind (idx s33 (k25 : Int)) fun x48 => Option.bind (slices_Clone_Lknow_Version_know_Version x48.versions) fun x57 => Option.bind (setI s33 (k25 : Int) ({ (x48 : know_Article) with versions := x57 })) fun x70 => some (.nx x70)) l.length (fun _ s => s = l) (s := l) rfl (by
    rintro k s hk rfl
    have hx : s[k]? = some s[k] := List.getElem?_eq_getElem hk
    rw [idx_nat, hx, Option.bind_some, hcv _ (hver _ (List.getElem_mem hk)), Option.bind_some, setI_same hx]
    exact ⟨_, rfl, rfl⟩)
  rw [hloop, Option.bind_some, Lp.andThen_fin]
  obtain ⟨a, ha, hf, hlo, hhi, hat⟩ := find_art hasc hlen id
  by_cases hex : ∃ x, t[a]? = some x ∧ x.id_ = id
  · rw [decide_eq_true hex] at hf
    rw [if_pos hex] at hat
    rw [hf, hat, Option.bind_some, Option.bind_some]
    obtain ⟨x, hx, hxi⟩ := hex
    have hal := (List.getElem?_eq_some_iff.1 hx).1
    have hvl := hver x (List.mem_of_getElem? hx)
    have hset : ∀ z : know_Article, setI t (a : Int) z = some (t.set a z) := fun z => by
      unfold setI
      rw [if_pos (by omega), Int.toNat_natCast]
    have hap : appendL 3518437208883 x.versions [v] = some (x.versions ++ [v]) := by unfold appendL; rw [if_pos (by simp; omega)]
    simp only [Bool.not_true, Bool.false_eq_true, if_false, Option.bind_some, idx_nat, hx, hap, hset, hcv _ hvl, decide_eq_true (show (0 : Int) ≤ (a : Int) by omega), if_true]
    obtain ⟨r2, q1, q2, _⟩ := articles_eq (t.set a { x with versions := x.versions ++ [v] })
    simp only [q1, q2, Option.bind_some]
    split <;> exact ⟨_, rfl, rfl⟩
  · rw [decide_eq_false hex] at hf
    rw [if_neg hex] at hat
    rw [hf, hat, Option.bind_some, Option.bind_some]
    have hins : slices_Insert_Lknow_Article_know_Article t (a : Int) [(⟨id, 0, []⟩ : know_Article)] = some (t.take a ++ [⟨id, 0, []⟩] ++ t.drop a) := by
      unfold slices_Insert_Lknow_Article_know_Article
      rw [if_pos ⟨by omega, by omega, by simp, by simp; omega⟩, Int.toNat_natCast]
    have hx : (t.take a ++ [(⟨id, 0, []⟩ : know_Article)] ++ t.drop a)[a]? = some ⟨id, 0, []⟩ := by
      rw [List.append_assoc, List.getElem?_append_right (by simp; omega)]
      simp [Nat.min_eq_left ha]
    have hset : setI (t.take a ++ [(⟨id, 0, []⟩ : know_Article)] ++ t.drop a) (a : Int) ⟨id, 0, [v]⟩ = some (t.take a ++ [⟨id, 0, [v]⟩] ++ t.drop a) := by
      unfold setI
      rw [if_pos (by simp; omega), Int.toNat_natCast, List.append_assoc, List.set_append_right _ _ (by simp; omega)]
      simp [Nat.min_eq_left ha]
    have hap0 : appendL 3518437208883 ([] : List know_Version) [v] = some [v] := rfl
    have hap : appendL 3518437208883 t [(⟨id, 0, [v]⟩ : know_Article)] = some (t ++ [⟨id, 0, [v]⟩]) := by unfold appendL; rw [if_pos (by simp; omega)]
    have hsrt := sort_art hasc hlen ⟨id, 0, [v]⟩ ha hlo (fun q x h hq => by
      have h1 := hhi q x h hq
      rcases Int.lt_or_eq_of_le h1 with h2 | h2
      · exact h2
      · exfalso
        rcases Nat.lt_or_eq_of_le h with h3 | h3
        · have hal : a < t.length := by have := (List.getElem?_eq_some_iff.1 hq).1; omega
          have h4 := hhi a _ (Nat.le_refl _) (List.getElem?_eq_getElem hal)
          have h5 := asc_at hasc h3 (List.getElem?_eq_getElem hal) hq
          omega
        · subst h3
          exact hex ⟨x, hq, h2.symm⟩)
    simp only [Bool.not_false, if_true, hins, Option.bind_some, idx_nat, hx, hap0, hset, show decide ((0 : Int) ≤ -1) = false from rfl, Bool.false_eq_true, if_false, hap, hsrt]
    obtain ⟨r2, q1, q2, _⟩ := articles_eq (t.take a ++ [⟨id, 0, [v]⟩] ++ t.drop a)
    simp only [q1, q2, Option.bind_some]
    split <;> exact ⟨_, rfl, rfl⟩

theorem revert_eq (l : List know_Article) (id number m : Int) : ∃ x, know_Revert l id number m = some x ∧ portref2_RevertOf l id number m = some x := by
  obtain ⟨r, e1, e2, e3⟩ := articles_eq l
  unfold know_Revert portref2_RevertOf
  rw [e1, e2, Option.bind_some, Option.bind_some]
  by_cases hr : r = 0
  rotate_left
  · rw [if_pos (by simpa using hr), if_pos (by simpa using hr)]
    exact ⟨_, rfl, rfl⟩
  subst hr
  simp only [bne_self_eq_false, Bool.false_eq_true, if_false]
  obtain ⟨hlen, hver⟩ := e3 rfl
  obtain ⟨_, hids, _⟩ := articles_ok e2
  obtain ⟨a, ha, hf, hlo, hhi, hat⟩ := find_art (asc_of hids) hlen id
  by_cases hex : ∃ x, l[a]? = some x ∧ x.id_ = id
  · rw [decide_eq_true hex] at hf
    rw [if_pos hex] at hat
    rw [hf, hat, Option.bind_some, Option.bind_some]
    obtain ⟨x, hx, hxi⟩ := hex
    have hvl := hver x (List.mem_of_getElem? hx)
    simp only [Bool.not_true, Bool.false_eq_true, if_false, Option.bind_some, idx_nat, hx]
    rw [w64_id (by omega) (by omega)]
    have ha0 : decide ((a : Int) < 0) = false := decide_eq_false (by omega)
    rw [ha0, Bool.false_or]
    by_cases hn : 0 ≤ number ∧ number < (x.versions.length : Int)
    · have h1 : know_within number 0 ((x.versions.length : Int) - 1) = true := by unfold know_within; simp; omega
      have h2 : decide (number < 0) = false := decide_eq_false (by omega)
      have h3 : decide ((x.versions.length : Int) ≤ number) = false := decide_eq_false (by omega)
      simp only [h1, h2, h3, Bool.not_true, Bool.false_eq_true, if_false, Option.bind_some]
      obtain ⟨y, hy, _⟩ := idx_of hn.1 hn.2
      rw [hy, Option.bind_some, Option.bind_some]
      obtain ⟨z, p1, p2⟩ := publish_eq l id ⟨m, y.title, y.body⟩
      rw [p1, p2]
      exact ⟨_, rfl, rfl⟩
    · have h1 : know_within number 0 ((x.versions.length : Int) - 1) = false := by
        rw [Bool.eq_false_iff]; intro h; unfold know_within at h; simp at h; omega
      simp only [h1, Bool.not_false, if_true]
      by_cases h2 : number < 0
      · rw [decide_eq_true h2]
        exact ⟨_, rfl, rfl⟩
      · have h3 : decide ((x.versions.length : Int) ≤ number) = true := decide_eq_true (by omega)
        rw [decide_eq_false h2]
        simp only [h3, Bool.false_eq_true, if_false, Option.bind_some, if_true]
        exact ⟨_, rfl, rfl⟩
  · rw [decide_eq_false hex] at hf
    rw [if_neg hex] at hat
    rw [hf, hat, Option.bind_some, Option.bind_some]
    simp only [Bool.not_false, if_true, Option.bind_some, show decide ((-1 : Int) < 0) = true from rfl, Bool.true_or]
    exact ⟨_, rfl, rfl⟩

theorem equal_vers (l : List know_Version) : slices_Equal_Lknow_Version_know_Version l l = some true := by
  unfold slices_Equal_Lknow_Version_know_Version
  simp only [bne_self_eq_false, Bool.false_eq_true, if_false]
  obtain ⟨t, h, _⟩ := rangeB_inv (R := Bool) (b := fun k9 (_ : Unit) => Option.bind (idx l (k9 : Int)) fun x29 => Option.bind (idx l (k9 : Int)) fun x34 => if (!(x29.at_ == x34.at_ && (strEq x29.title x34.title && (strEq x29.body x34.body)))) = true then some (.rt false) else some (.nx ())) l.length (fun _ _ => True) (s := ()) trivial
    (fun k s hk _ => by
      have he : ∀ b : ByteArray, strEq b b = true := fun b => by unfold strEq; simp
      rw [idx_lt _ _ hk]; simp [he])
  rw [h]
  rfl
theorem alike_self (l : List know_Article) : portref2_Alike l l = some true := by
  have h0 : slices_EqualFunc_Lknow_Article_Lknow_Article_know_Article_know_Article l l (fun y15 y16 => portref2_Alike_2 y15 y16) = some true := by
    unfold slices_EqualFunc_Lknow_Article_Lknow_Article_know_Article_know_Article
    simp only [bne_self_eq_false, Bool.false_eq_true, if_false]
    obtain ⟨t, h, _⟩ := rangeB_inv (R := Bool) (b := fun k9 (_ : Unit) => Option.bind (idx l (k9 : Int)) fun x29 => Option.bind (idx l (k9 : Int)) fun x47 => Option.bind (portref2_Alike_2 x29 x47) fun x71 => if (!x71) = true then some (.rt false) else some (.nx ())) l.length (fun _ _ => True) (s := ()) trivial
      (fun k s hk _ => by
        rw [idx_lt _ _ hk]
        simp [portref2_Alike_2, equal_vers])
    rw [h]
    rfl
  unfold portref2_Alike
  simp [h0]

theorem publishes_true (l : List know_Article) (id number m : Int) (v : know_Version) : portlaw2_KnowPublishes l id number m v = some true := by
  obtain ⟨x, p1, p2⟩ := publish_eq l id v
  obtain ⟨y, q1, q2⟩ := revert_eq l id number m
  unfold portlaw2_KnowPublishes
  rw [p1, p2, q1, q2]
  simp [alike_self]
end Go.Proofs.YtcfmgjmpodpfiaaGreatDoor.M
