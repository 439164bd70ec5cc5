/-
  KnowChecks: articles that may be, and what is seen of them.
-/
import Derived.Test.YtcfmgjmpodpfiaaGreatDoorKnowPublishesArtLow
namespace Go.Proofs.YtcfmgjmpodpfiaaGreatDoor.M
open Go Go.Pu
set_option linter.unusedSimpArgs false
set_option linter.unusedVariables false

theorem plain_val (s : ByteArray) (feeds : Bool) (hs : s.size ≤ 1000000) : know_plain s feeds = some (!(s.data.toList.any fun b => lowb b && (((b.toNat : Int) != 10) || (!feeds)))) := by
  unfold know_plain
  have hsz : s.data.toList.length = s.size := rfl
  obtain ⟨x, hx, hq⟩ := whileB_spec (R := Bool) (body := fun (s8 : Int) => if (decide (s8 < (s.size : Int))) = true then Option.bind (idxS s s8) fun x18 => Option.bind (if (decide ((x18.toNat : Int) < 32)) = true then (some true) else (some ((x18.toNat : Int) == 127))) fun s20 => Option.bind (if s20 = true then (some (((x18.toNat : Int) != 10) || (!feeds))) else (some false)) fun s22 => if s22 = true then some (.rt false) else some (.nx (w64 (s8 + 1))) else some (.bk s8))
    (fun i => ∃ k : Nat, i = (k : Int) ∧ k ≤ s.size ∧ ∀ j b, j < k → s.data.toList[j]? = some b → (lowb b && (((b.toNat : Int) != 10) || (!feeds))) = false) (fun i => s.size - i.toNat)
    (fun x => (x = .rt false ∧ (s.data.toList.any fun b => lowb b && (((b.toNat : Int) != 10) || (!feeds))) = true) ∨ (∃ t, x = .fin t ∧ (s.data.toList.any fun b => lowb b && (((b.toNat : Int) != 10) || (!feeds))) = false)) (s := 0)
    ⟨0, rfl, Nat.zero_le _, fun j b h => absurd h (Nat.not_lt_zero _)⟩
    (by
      rintro _ ⟨k, rfl, hk, hI⟩
      by_cases hlt : k < s.size
      · have e : decide ((k : Int) < (s.size : Int)) = true := decide_eq_true (by omega)
        have hb : s.data.toList[k]? = some (s.data.toList[k]'(by omega)) := List.getElem?_eq_getElem (by omega)
        generalize s.data.toList[k]'(by omega) = b at hb
        have hw : w64 ((k : Int) + 1) = ((k + 1 : Nat) : Int) := by rw [w64_id (by omega) (by omega)]; omega
        have h1 : (if (decide ((b.toNat : Int) < 32)) = true then (some true) else (some ((b.toNat : Int) == 127))) = some (lowb b) := by
          unfold lowb
          by_cases h : (b.toNat : Int) < 32 <;> simp [h]
        have h2 : (if lowb b = true then (some (((b.toNat : Int) != 10) || (!feeds))) else (some false)) = some (lowb b && (((b.toNat : Int) != 10) || (!feeds))) := by
          cases lowb b <;> simp
        simp only [e, if_true, idxS_nat, hb, Option.bind_some, hw, h1, h2]
        by_cases hok : (lowb b && (((b.toNat : Int) != 10) || (!feeds))) = true
        · rw [if_pos hok]
          refine ⟨_, rfl, .inl ⟨rfl, ?_⟩⟩
          rw [List.any_eq_true]
          exact ⟨b, List.mem_of_getElem? hb, hok⟩
        · rw [if_neg hok]
          refine ⟨_, rfl, ⟨k + 1, rfl, by omega, fun j c hj hc => ?_⟩, by simp only [Int.toNat_natCast]; omega⟩
          rcases Nat.lt_or_eq_of_le (Nat.le_of_lt_succ hj) with h | rfl
          · exact hI j c h hc
          · rw [hb] at hc; cases hc; simpa using hok
      · have e : decide ((k : Int) < (s.size : Int)) = false := decide_eq_false (by omega)
        simp only [e, Bool.false_eq_true, if_false]
        refine ⟨_, rfl, .inr ⟨_, rfl, ?_⟩⟩
        rw [List.any_eq_false]
        intro b hb
        obtain ⟨j, hj, rfl⟩ := List.mem_iff_getElem.1 hb
        rw [hI j _ (by omega) (List.getElem?_eq_getElem hj)]
        simp)
  rw [hx]
  rcases hq with ⟨rfl, h⟩ | ⟨t, rfl, h⟩
  · rw [h]
    rfl
  · rw [h]
    rfl

theorem feeds_low (l : List UInt8) : ((l.filter (· != 10)).any lowb) = l.any fun b => lowb b && (((b.toNat : Int) != 10) || (!true)) := by
  induction l with
  | nil => rfl
  | cons b l ih =>
    have e : ((b.toNat : Int) != 10) = (b != 10) := by
      rw [Bool.eq_iff_iff, bne_iff_ne, bne_iff_ne]
      constructor
      · rintro h rfl
        exact h rfl
      · intro h h2
        exact h (UInt8.toNat_inj.1 (by show b.toNat = 10; omega))
    rw [List.filter_cons, List.any_cons, ← ih, e]
    by_cases h : (b != 10) = true
    · rw [if_pos h, List.any_cons, h]
      simp
    · rw [if_neg h]
      rw [Bool.not_eq_true] at h
      rw [h]
      simp
theorem lines_same (s : ByteArray) (h : s.size ≤ 20000) : ∃ b : Bool, (Option.bind (know_lines s) fun x => some (decide ((2000 : Int) < (x.length : Int)))) = some b ∧ (Option.bind (portref2_bodyLines s) fun x => some (decide ((2000 : Int) < (x.length : Int)))) = some b := by
  obtain ⟨l, h1, h2⟩ := lines_some s (by omega)
  rw [h1, h2]
  exact ⟨_, rfl, rfl⟩
/-- the faults of a version but for its moment -/
theorem version_eq (v : know_Version) : ∃ r, portref2_versionFault v = some r ∧ ∀ before : Int, know_checkVersion v before = some (if (!(know_within v.at_ 0 3000000)) = true then 2 else if v.at_ < before then 5 else r) := by
  -- what is too large
  by_cases hb : v.body.size ≤ 20000
  · obtain ⟨b, l1, l2⟩ := lines_same v.body hb
    have db : decide ((v.body.size : Int) ≤ 20000) = true := decide_eq_true (by omega)
    have db2 : decide ((20000 : Int) < (v.body.size : Int)) = false := decide_eq_false (by omega)
    have hl : ∀ before : Int, know_checkVersion v before = some (if (!(know_within v.at_ 0 3000000)) = true then 2 else if v.at_ < before then 5 else if b = true then 4 else if (decide ((200 : Int) < (v.title.size : Int))) = true then 4 else if (v.title.data.toList.any lowb || (v.body.data.toList.any fun b => lowb b && (((b.toNat : Int) != 10) || (!true)))) = true then 9 else if ((strEq v.title (⟨#[]⟩ : ByteArray)) && (!(strEq v.body (⟨#[]⟩ : ByteArray)))) = true then 1 else 0) := by
      intro before
      unfold know_checkVersion
      by_cases h1 : (!(know_within v.at_ 0 3000000)) = true
      · rw [if_pos h1, if_pos h1]
      rw [if_neg h1, if_neg h1]
      by_cases h2 : v.at_ < before
      · rw [if_pos (decide_eq_true h2), if_pos h2]
      rw [if_neg (by simpa using h2), if_neg h2, db, if_pos rfl, l1, Option.bind_some]
      by_cases h3 : b = true
      · rw [if_pos h3, if_pos h3]
      rw [if_neg h3, if_neg h3]
      unfold know_checkText
      rw [db2, Bool.or_false]
      by_cases h4 : (decide ((200 : Int) < (v.title.size : Int))) = true
      · rw [if_pos h4, if_pos h4]
        rfl
      rw [if_neg h4, if_neg h4]
      have ht : v.title.size ≤ 200 := by simp at h4; omega
      rw [plain_val v.title false (by omega), plain_val v.body true (by omega)]
      have e : (v.title.data.toList.any fun b => lowb b && (((b.toNat : Int) != 10) || (!false))) = v.title.data.toList.any lowb := by
        congr 1
        funext b
        simp
      rw [e]
      generalize (v.body.data.toList.any fun b => lowb b && (((b.toNat : Int) != 10) || (!true))) = bb
      cases v.title.data.toList.any lowb with
      | true => simp
      | false =>
        cases bb with
        | true => rfl
        | false =>
          simp only [Option.bind_some, Bool.not_false, Bool.not_true, Bool.false_eq_true, if_false, Bool.or_self, bne_self_eq_false]
          split <;> rfl
    have hr : portref2_versionFault v = some (if b = true then 4 else if (decide ((200 : Int) < (v.title.size : Int))) = true then 4 else if (v.title.data.toList.any lowb || (v.body.data.toList.any fun b => lowb b && (((b.toNat : Int) != 10) || (!true)))) = true then 9 else if ((strEq v.title (⟨#[]⟩ : ByteArray)) && (!(strEq v.body (⟨#[]⟩ : ByteArray)))) = true then 1 else 0) := by
      unfold portref2_versionFault
      rw [db2, l2, lowByte_val]
      by_cases h4 : (decide ((200 : Int) < (v.title.size : Int))) = true
      · rw [if_pos h4, if_pos rfl, Option.bind_some, if_pos rfl]
        by_cases h3 : b = true
        · rw [if_pos h3]
        · rw [if_neg h3, if_pos h4]
      rw [if_neg h4, if_neg (by decide), Option.bind_some]
      by_cases h3 : b = true
      · rw [if_pos h3, if_pos h3]
      rw [if_neg h3, if_neg h3, if_neg h4, Option.bind_some, replace_val v.body (by omega), Option.bind_some, lowByte_val]
      rw [show (⟨(v.body.data.toList.filter (· != 10)).toArray⟩ : ByteArray).data.toList = v.body.data.toList.filter (· != 10) from by simp, feeds_low]
      cases v.title.data.toList.any lowb with
      | true => rfl
      | false =>
        simp only [Bool.false_eq_true, if_false, Option.bind_some, Bool.false_or]
        cases (v.body.data.toList.any fun b => lowb b && (((b.toNat : Int) != 10) || (!true))) with
        | true => rfl
        | false =>
          simp only [Bool.false_eq_true, if_false]
          split <;> rfl
    exact ⟨_, hr, hl⟩
  · refine ⟨4, ?_, fun before => ?_⟩
    · have db2 : decide ((20000 : Int) < (v.body.size : Int)) = true := decide_eq_true (by omega)
      unfold portref2_versionFault
      rw [db2]
      by_cases h4 : (decide ((200 : Int) < (v.title.size : Int))) = true
      · rw [if_pos h4]
        rfl
      · rw [if_neg h4]
        rfl
    · have db : decide ((v.body.size : Int) ≤ 20000) = false := decide_eq_false (by omega)
      have db2 : decide ((20000 : Int) < (v.body.size : Int)) = true := decide_eq_true (by omega)
      unfold know_checkVersion know_checkText
      by_cases h1 : (!(know_within v.at_ 0 3000000)) = true
      · rw [if_pos h1, if_pos h1]
      rw [if_neg h1, if_neg h1]
      by_cases h2 : v.at_ < before
      · rw [if_pos (decide_eq_true h2), if_pos h2]
      rw [if_neg (by simpa using h2), if_neg h2, db, db2]
      simp

/-- a version's two loops -/
theorem versions_eq (vs : List know_Version) (hl : vs.length ≤ 40) :
    (∃ r, r ≠ 0 ∧ rangeB (fun k81 s87 => Option.bind (idx vs (k81 : Int)) fun x100 => Option.bind (know_checkVersion x100 s87) fun x114 => if (x114 != 0) = true then some (.rt x114) else some (.nx x100.at_)) vs.length 0 0 = some (.rt r) ∧ rangeB (fun k93 (_ : Unit) => Option.bind (idx vs (k93 : Int)) fun x112 => if (!(portref2_IsMoment x112.at_)) = true then some (.rt 2) else Option.bind (if (decide ((0 : Int) < (k93 : Int))) = true then (Option.bind (idx vs (w64 ((k93 : Int) - 1))) fun x134 => some (decide (x112.at_ < x134.at_))) else (some false)) fun s128 => if s128 = true then some (.rt 5) else Option.bind (portref2_versionFault x112) fun x144 => if (x144 != 0) = true then some (.rt x144) else some (.nx ())) vs.length 0 () = some (.rt r)) ∨
    (∃ t, rangeB (R := Int) (fun k81 s87 => Option.bind (idx vs (k81 : Int)) fun x100 => Option.bind (know_checkVersion x100 s87) fun x114 => if (x114 != 0) = true then some (.rt x114) else some (.nx x100.at_)) vs.length 0 0 = some (.fin t) ∧ rangeB (R := Int) (fun k93 (_ : Unit) => Option.bind (idx vs (k93 : Int)) fun x112 => if (!(portref2_IsMoment x112.at_)) = true then some (.rt 2) else Option.bind (if (decide ((0 : Int) < (k93 : Int))) = true then (Option.bind (idx vs (w64 ((k93 : Int) - 1))) fun x134 => some (decide (x112.at_ < x134.at_))) else (some false)) fun s128 => if s128 = true then some (.rt 5) else Option.bind (portref2_versionFault x112) fun x144 => if (x144 != 0) = true then some (.rt x144) else some (.nx ())) vs.length 0 () = some (.fin ())) := by
  rcases rangeB_sim (R := Int) (b := fun k81 s87 => Option.bind (idx vs (k81 : Int)) fun x100 => Option.bind (know_checkVersion x100 s87) fun x114 => if (x114 != 0) = true then some (.rt x114) else some (.nx x100.at_))
    (b' := fun k93 (_ : Unit) => Option.bind (idx vs (k93 : Int)) fun x112 => if (!(portref2_IsMoment x112.at_)) = true then some (.rt 2) else Option.bind (if (decide ((0 : Int) < (k93 : Int))) = true then (Option.bind (idx vs (w64 ((k93 : Int) - 1))) fun x134 => some (decide (x112.at_ < x134.at_))) else (some false)) fun s128 => if s128 = true then some (.rt 5) else Option.bind (portref2_versionFault x112) fun x144 => if (x144 != 0) = true then some (.rt x144) else some (.nx ())) vs.length (fun r => r ≠ 0) (fun k s _ => (k = 0 → s = 0) ∧ ∀ x, 0 < k → vs[k - 1]? = some x → s = x.at_) (s := (0 : Int)) (s' := ()) ⟨fun _ => rfl, fun _ h => absurd h (Nat.lt_irrefl _)⟩
    (by
      rintro k s _ hk ⟨i1, i2⟩
      have hx : vs[k]? = some vs[k] := List.getElem?_eq_getElem hk
      generalize vs[k] = v at hx
      obtain ⟨r, e1, e2⟩ := version_eq v
      have hm : (!(portref2_IsMoment v.at_)) = (!(know_within v.at_ 0 3000000)) := rfl
      simp only [idx_nat, hx, Option.bind_some, e1, e2, hm]
      by_cases h1 : (!(know_within v.at_ 0 3000000)) = true
      · rw [if_pos h1, if_pos h1]
        exact .inl ⟨2, rfl, rfl, by decide⟩
      rw [if_neg h1, if_neg h1]
      have h0 : 0 ≤ v.at_ := by simp [know_within] at h1; omega
      have hbo : (if (decide ((0 : Int) < (k : Int))) = true then (Option.bind (idx vs (w64 ((k : Int) - 1))) fun x134 => some (decide (v.at_ < x134.at_))) else (some false)) = some (decide (v.at_ < s)) := by
        by_cases hk0 : 0 < k
        · have hp : vs[k - 1]? = some vs[k - 1] := List.getElem?_eq_getElem (by omega)
          have hw : w64 ((k : Int) - 1) = ((k - 1 : Nat) : Int) := by rw [w64_id (by omega) (by omega)]; omega
          have hd : decide ((0 : Int) < (k : Int)) = true := decide_eq_true (by omega)
          rw [hd, if_pos rfl, hw, idx_nat, hp, i2 _ hk0 hp]
          rfl
        · have hd : decide ((0 : Int) < (k : Int)) = false := decide_eq_false (by omega)
          rw [hd, i1 (by omega)]
          simp
          omega
      rw [hbo, Option.bind_some]
      by_cases h2 : v.at_ < s
      · simp only [if_pos h2, decide_eq_true h2, if_true]
        exact .inl ⟨5, rfl, rfl, by decide⟩
      simp only [if_neg h2, decide_eq_false h2, Bool.false_eq_true, if_false]
      by_cases h3 : r = 0
      · subst h3
        exact .inr ⟨v.at_, (), rfl, rfl, fun h => by omega, fun x _ hx2 => by rw [Nat.add_sub_cancel, hx] at hx2; cases hx2; rfl⟩
      · have : (r != 0) = true := by simpa using h3
        simp only [this, if_true]
        exact .inl ⟨r, rfl, rfl, h3⟩) with ⟨r, h1, h2, h3⟩ | ⟨t, u, h1, h2, _⟩
  · exact .inl ⟨r, h3, h1, h2⟩
  · exact .inr ⟨t, h1, h2⟩

theorem articles_eq (l : List know_Article) : ∃ r, know_CheckArticles l = some r ∧ portref2_ArticlesFault l = some r ∧ (r = 0 → l.length ≤ 200 ∧ ∀ a ∈ l, a.versions.length ≤ 40) := by
  unfold know_CheckArticles portref2_ArticlesFault
  by_cases h : (200 : Int) < (l.length : Int)
  · simp only [decide_eq_true h, if_true]
    exact ⟨4, rfl, rfl, fun h => absurd h (by decide)⟩
  simp only [decide_eq_false h, Bool.false_eq_true, if_false]
  rcases rangeB_sim (R := Int) (b := fun k7 (_ : Unit) => Option.bind (α := Lp _ _) (Option.bind (idx l (k7 : Int)) fun x35 => if (!(know_within x35.id_ 1 3000000)) = true then some (.rt 2) else Option.bind (if (decide ((0 : Int) < (k7 : Int))) = true then (Option.bind (idx l (w64 ((k7 : Int) - 1))) fun x58 => some (decide (x35.id_ ≤ x58.id_))) else (some false)) fun s56 => if s56 = true then some (.rt 5) else if (!(know_within x35.group 0 40)) = true then some (.rt 2) else if (!(know_within (x35.versions.length : Int) 1 40)) = true then some (.rt 4) else Option.bind (rangeB (fun k81 s87 => Option.bind (idx x35.versions (k81 : Int)) fun x100 => Option.bind (know_checkVersion x100 s87) fun x114 => if (x114 != 0) = true then some (.rt x114) else some (.nx x100.at_)) x35.versions.length 0 0) fun o78 => o78.andThen (fun y => some (.rt y)) fun s79 => some (.fin ())) fun o27 => o27.andThen (fun y => some (.rt y)) fun s28 => some (.nx ()))
    (b' := fun k7 (_ : Unit) => Option.bind (α := Lp _ _) (Option.bind (idx l (k7 : Int)) fun x35 => if ((decide (x35.id_ < 1)) || (decide ((3000000 : Int) < x35.id_))) = true then some (.rt 2) else Option.bind (if (decide ((0 : Int) < (k7 : Int))) = true then (Option.bind (idx l (w64 ((k7 : Int) - 1))) fun x61 => some (decide (x35.id_ ≤ x61.id_))) else (some false)) fun s59 => if s59 = true then some (.rt 5) else if ((decide (x35.group < 0)) || (decide ((40 : Int) < x35.group))) = true then some (.rt 2) else if ((decide ((x35.versions.length : Int) < 1)) || (decide ((40 : Int) < (x35.versions.length : Int)))) = true then some (.rt 4) else Option.bind (rangeB (fun k93 (_ : Unit) => Option.bind (idx x35.versions (k93 : Int)) fun x112 => if (!(portref2_IsMoment x112.at_)) = true then some (.rt 2) else Option.bind (if (decide ((0 : Int) < (k93 : Int))) = true then (Option.bind (idx x35.versions (w64 ((k93 : Int) - 1))) fun x134 => some (decide (x112.at_ < x134.at_))) else (some false)) fun s128 => if s128 = true then some (.rt 5) else Option.bind (portref2_versionFault x112) fun x144 => if (x144 != 0) = true then some (.rt x144) else some (.nx ())) x35.versions.length 0 ()) fun o90 => o90.andThen (fun y => some (.rt y)) fun s91 => some (.fin ())) fun o27 => o27.andThen (fun y => some (.rt y)) fun s28 => some (.nx ())) l.length (fun r => r ≠ 0) (fun k _ _ => ∀ (j : Nat) (a : know_Article), j < k → l[j]? = some a → a.versions.length ≤ 40) (s := ()) (s' := ()) (fun j a h => absurd h (Nat.not_lt_zero _))
    (by
      rintro k _ _ hk hI
      have hx : l[k]? = some l[k] := List.getElem?_eq_getElem hk
      generalize l[k] = a at hx
      have c1 : (!(know_within a.id_ 1 3000000)) = ((decide (a.id_ < 1)) || (decide ((3000000 : Int) < a.id_))) := by
        rw [Bool.eq_iff_iff]; simp [know_within]
      have c2 : (!(know_within a.group 0 40)) = ((decide (a.group < 0)) || (decide ((40 : Int) < a.group))) := by
        rw [Bool.eq_iff_iff]; simp [know_within]
      have c3 : (!(know_within (a.versions.length : Int) 1 40)) = ((decide ((a.versions.length : Int) < 1)) || (decide ((40 : Int) < (a.versions.length : Int)))) := by
        rw [Bool.eq_iff_iff]; simp [know_within]
      obtain ⟨b, hb⟩ : ∃ b : Bool, (if (decide ((0 : Int) < (k : Int))) = true then (Option.bind (idx l (w64 ((k : Int) - 1))) fun x58 => some (decide (a.id_ ≤ x58.id_))) else (some false)) = some b := by
        by_cases h0 : (0 : Int) < (k : Int)
        · have hw : w64 ((k : Int) - 1) = ((k - 1 : Nat) : Int) := by rw [w64_id (by omega) (by omega)]; omega
          rw [if_pos (by simpa using h0), hw, idx_lt _ _ (by omega)]
          exact ⟨_, rfl⟩
        · rw [if_neg (by simpa using h0)]
          exact ⟨_, rfl⟩
      rw [idx_nat, hx]
      simp only [Option.bind_some, c1, c2, c3, hb]
      by_cases d1 : ((decide (a.id_ < 1)) || (decide ((3000000 : Int) < a.id_))) = true
      · simp only [d1, if_true, Option.bind_some, Lp.andThen_rt]
        exact .inl ⟨2, rfl, rfl, by decide⟩
      simp only [d1, Bool.false_eq_true, if_false]
      cases b with
      | true => exact .inl ⟨5, rfl, rfl, by decide⟩
      | false =>
        simp only [Bool.false_eq_true, if_false]
        by_cases d2 : ((decide (a.group < 0)) || (decide ((40 : Int) < a.group))) = true
        · simp only [d2, if_true, Option.bind_some, Lp.andThen_rt]
          exact .inl ⟨2, rfl, rfl, by decide⟩
        simp only [d2, Bool.false_eq_true, if_false]
        by_cases d3 : ((decide ((a.versions.length : Int) < 1)) || (decide ((40 : Int) < (a.versions.length : Int)))) = true
        · simp only [d3, if_true, Option.bind_some, Lp.andThen_rt]
          exact .inl ⟨4, rfl, rfl, by decide⟩
        simp only [d3, Bool.false_eq_true, if_false]
        have hl : a.versions.length ≤ 40 := by simp at d3; omega
        rcases versions_eq a.versions hl with ⟨r, h3, h1, h2⟩ | ⟨t, h1, h2⟩
        · rw [h1, h2]
          exact .inl ⟨r, rfl, rfl, h3⟩
        · rw [h1, h2]
          refine .inr ⟨(), (), rfl, rfl, fun j c hj hc => ?_⟩
          rcases Nat.lt_or_eq_of_le (Nat.le_of_lt_succ hj) with h4 | rfl
          · exact hI j c h4 hc
          · rw [hx] at hc
            cases hc
            exact hl) with ⟨r, h1, h2, hr⟩ | ⟨_, _, h1, h2, hI⟩
  · rw [h1, h2]
    exact ⟨r, rfl, rfl, fun h => absurd h hr⟩
  · rw [h1, h2]
    refine ⟨0, rfl, rfl, fun _ => ⟨by omega, fun a ha => ?_⟩⟩
    obtain ⟨j, hj⟩ := List.getElem?_of_mem ha
    exact hI j a (List.getElem?_eq_some_iff.1 hj).1 hj
end Go.Proofs.YtcfmgjmpodpfiaaGreatDoor.M
