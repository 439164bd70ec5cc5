/-
  Routes: names, skills and people: the two checks agree.
-/
import Derived.Test.YtgmenjhmnjhgoaaDoorRouteMatchesM
import Derived.Test.YtgmenjhmnjhgoaaDoorPl
import Derived.Lib.SlTrimSet
import Derived.KernelRfl
namespace Go.Proofs.YtgmenjhmnjhgoaaDoor.M
open Go Go.Pu
set_option linter.unusedSimpArgs false
set_option linter.unusedVariables false

theorem bytes_at (s : ByteArray) (k : Nat) : s[k]? = s.data.toList[k]? := by
  by_cases h : k < s.size
  · rw [getElem?_pos s k h]
    have h2 : k < s.data.toList.length := h
    rw [List.getElem?_eq_getElem h2]
    rfl
  · rw [getElem?_neg s k h, List.getElem?_eq_none (by simpa using h)]
theorem idxS_nat (s : ByteArray) (k : Nat) : idxS s (k : Int) = s.data.toList[k]? := by
  unfold idxS
  rw [if_pos (by omega), Int.toNat_natCast, bytes_at]
theorem strEq_nil (x : ByteArray) : strEq x (⟨#[]⟩ : ByteArray) = (x.data.toList == []) := by
  unfold strEq
  rw [ByteArray.toList_eq, ByteArray.toList_eq]
theorem dropWhile_nil {α : Type} (p : α → Bool) : ∀ l : List α, l.dropWhile p = [] ↔ ∀ x ∈ l, p x = true
  | [] => by simp
  | x :: l => by
    by_cases h : p x = true
    · simp [List.dropWhile, h, dropWhile_nil p l]
    · simp [List.dropWhile, h]
theorem trimS_nil (l cs : List UInt8) : Go.Lib.trimS l cs = [] ↔ ∀ x ∈ l, cs.contains x = true := by
  unfold Go.Lib.trimS Go.Lib.trimLeftS Go.Lib.trimRightS
  rw [dropWhile_nil]
  constructor
  · intro h x hx
    by_cases hc : cs.contains x = true
    · exact hc
    · have hlr : x ∈ l.reverse := by simpa using hx
      -- an element that is not cut stays
      have key : ∀ m : List UInt8, x ∈ m → x ∈ m.dropWhile (cs.contains ·) := by
        intro m
        induction m with
        | nil => intro h; cases h
        | cons y m ih =>
          intro hm
          by_cases hy : cs.contains y = true
          · rw [List.dropWhile_cons_of_pos hy]
            rcases List.mem_cons.1 hm with rfl | hm
            · exact absurd hy hc
            · exact ih hm
          · rw [List.dropWhile_cons_of_neg hy]
            exact hm
      exact h x (by simpa using key l.reverse hlr)
  · intro h x hx
    have : x ∈ l := by
      have h1 : x ∈ l.reverse.dropWhile (cs.contains ·) := by simpa using hx
      have := (List.dropWhile_sublist (cs.contains ·)).subset h1
      simpa using this
    exact h x this

def okB (b : UInt8) : Bool := !(((!((decide ((97 : Int) ≤ (b.toNat : Int))) && (decide ((b.toNat : Int) ≤ 122)))) && (!((decide ((48 : Int) ≤ (b.toNat : Int))) && (decide ((b.toNat : Int) ≤ 57))))) && ((b.toNat : Int) != 95))
def nameSet : List UInt8 := [97, 98, 99, 100, 101, 102, 103, 104, 105, 106, 107, 108, 109, 110, 111, 112, 113, 114, 115, 116, 117, 118, 119, 120, 121, 122, 48, 49, 50, 51, 52, 53, 54, 55, 56, 57, 95]
theorem okB_all : ((List.range 256).all fun i => okB (UInt8.ofNat i) == nameSet.contains (UInt8.ofNat i)) = true := by kernel_rfl
theorem okB_set (b : UInt8) : okB b = nameSet.contains b := by
  have h := List.all_eq_true.1 okB_all b.toNat (List.mem_range.2 b.toNat_lt)
  rw [UInt8.ofNat_toNat] at h
  simpa using h

theorem name_val (s : ByteArray) (hs : s.size ≤ 9223372036854775807) : route_name s = some (s.data.toList.all okB && ((!(strEq s (⟨#[]⟩ : ByteArray))) && (decide ((s.size : Int) ≤ 20)))) := by
  unfold route_name
  have hsz : s.data.toList.length = s.size := rfl
  obtain ⟨x, hx, hq⟩ := whileB_spec (R := Bool) (body := fun (s8 : Int) => if (decide (s8 < (s.size : Int))) = true then Option.bind (idxS s s8) fun x18 => if (((!((decide ((97 : Int) ≤ (x18.toNat : Int))) && (decide ((x18.toNat : Int) ≤ 122)))) && (!((decide ((48 : Int) ≤ (x18.toNat : Int))) && (decide ((x18.toNat : Int) ≤ 57))))) && ((x18.toNat : Int) != 95)) = true then some (.rt false) else some (.nx (w64 (s8 + 1))) else some (.bk s8))
    (fun i => ∃ k : Nat, i = (k : Int) ∧ k ≤ s.size ∧ ∀ j b, j < k → s.data.toList[j]? = some b → okB b = true) (fun i => s.size - i.toNat)
    (fun x => (x = .rt false ∧ s.data.toList.all okB = false) ∨ (∃ t, x = .fin t ∧ s.data.toList.all okB = true)) (s := 0)
    ⟨0, rfl, Nat.zero_le _, fun j b h => absurd h (Nat.not_lt_zero _)⟩
    (by
      rintro _ ⟨k, rfl, hk, hI⟩
      by_cases hlt : k < s.size
      · have e : decide ((k : Int) < (s.size : Int)) = true := decide_eq_true (by omega)
        have hb : s.data.toList[k]? = some (s.data.toList[k]'(by omega)) := List.getElem?_eq_getElem (by omega)
        generalize s.data.toList[k]'(by omega) = b at hb
        have hw : w64 ((k : Int) + 1) = ((k + 1 : Nat) : Int) := by rw [w64_id (by omega) (by omega)]; omega
        simp only [e, if_true, idxS_nat, hb, Option.bind_some, hw]
        by_cases hok : okB b = true
        · have e2 : (((!((decide ((97 : Int) ≤ (b.toNat : Int))) && (decide ((b.toNat : Int) ≤ 122)))) && (!((decide ((48 : Int) ≤ (b.toNat : Int))) && (decide ((b.toNat : Int) ≤ 57))))) && ((b.toNat : Int) != 95)) = false := by
            unfold okB at hok
            rw [Bool.not_eq_true'] at hok
            exact hok
          rw [e2]
          refine ⟨_, rfl, ⟨k + 1, rfl, by omega, fun j c hj hc => ?_⟩, by simp only [Int.toNat_natCast]; omega⟩
          rcases Nat.lt_or_eq_of_le (Nat.le_of_lt_succ hj) with h | rfl
          · exact hI j c h hc
          · rw [hb] at hc; cases hc; exact hok
        · have e2 : (((!((decide ((97 : Int) ≤ (b.toNat : Int))) && (decide ((b.toNat : Int) ≤ 122)))) && (!((decide ((48 : Int) ≤ (b.toNat : Int))) && (decide ((b.toNat : Int) ≤ 57))))) && ((b.toNat : Int) != 95)) = true := by
            rw [Bool.not_eq_true] at hok
            unfold okB at hok
            rw [Bool.not_eq_false'] at hok
            exact hok
          rw [e2]
          refine ⟨_, rfl, .inl ⟨rfl, ?_⟩⟩
          rw [List.all_eq_false]
          exact ⟨b, List.mem_of_getElem? hb, hok⟩
      · have e : decide ((k : Int) < (s.size : Int)) = false := decide_eq_false (by omega)
        simp only [e, Bool.false_eq_true, if_false]
        refine ⟨_, rfl, .inr ⟨_, rfl, ?_⟩⟩
        rw [List.all_eq_true]
        intro b hb
        obtain ⟨j, hj, rfl⟩ := List.mem_iff_getElem.1 hb
        exact hI j _ (by omega) (List.getElem?_eq_getElem hj))
  rw [hx]
  rcases hq with ⟨rfl, h⟩ | ⟨t, rfl, h⟩
  · rw [h]
    rfl
  · rw [h]
    simp only [Option.bind_some, Lp.andThen_fin, Bool.true_and]

theorem isName_val (s : ByteArray) : portref2_IsName s = some (s.data.toList.all okB && ((!(strEq s (⟨#[]⟩ : ByteArray))) && (decide ((s.size : Int) ≤ 20)))) := by
  unfold portref2_IsName
  have hnil : strEq s (⟨#[]⟩ : ByteArray) = decide ((s.size : Int) = 0) := by
    rw [strEq_nil, Bool.eq_iff_iff, beq_iff_eq, decide_eq_true_eq]
    have hsz : s.data.toList.length = s.size := rfl
    constructor
    · intro h
      rw [h] at hsz
      simp at hsz
      omega
    · intro h
      exact List.eq_nil_of_length_eq_zero (by omega)
  rw [hnil]
  by_cases h1 : (1 : Int) ≤ (s.size : Int)
  · by_cases h2 : (s.size : Int) ≤ 20
    · simp only [decide_eq_true h1, decide_eq_true h2, if_true]
      have ht : strings_Trim s (⟨#[97, 98, 99, 100, 101, 102, 103, 104, 105, 106, 107, 108, 109, 110, 111, 112, 113, 114, 115, 116, 117, 118, 119, 120, 121, 122, 48, 49, 50, 51, 52, 53, 54, 55, 56, 57, 95]⟩ : ByteArray) = some ⟨(Go.Lib.trimS s.data.toList nameSet).toArray⟩ := by
        unfold strings_Trim
        rw [if_pos ⟨by omega, by decide, by decide⟩]
        rfl
      rw [ht]
      simp only [Option.bind_some, strEq_nil]
      congr 1
      rw [decide_eq_false (by omega), Bool.not_false, Bool.true_and, Bool.and_true, Bool.eq_iff_iff, beq_iff_eq, trimS_nil, List.all_eq_true]
      exact ⟨fun h b hb => by rw [okB_set]; exact h b hb, fun h b hb => by rw [← okB_set]; exact h b hb⟩
    · simp only [decide_eq_true h1, decide_eq_false h2, if_true, Bool.false_eq_true, if_false, Option.bind_some, Bool.and_false]
  · have h0 : (s.size : Int) = 0 := by omega
    simp only [decide_eq_false h1, Bool.false_eq_true, if_false, Option.bind_some, decide_eq_true h0, Bool.not_true, Bool.false_and, Bool.and_false]

theorem skills_eq (l : List route_Skill) (hs : ∀ k ∈ l, k.name.size ≤ 9223372036854775807) : ∃ r, route_checkSkills l = some r ∧ portref2_skillsFault l = some r := by
  unfold route_checkSkills portref2_skillsFault
  by_cases h : (12 : Int) < (l.length : Int)
  · simp only [decide_eq_true h, if_true]
    exact ⟨4, rfl, rfl⟩
  simp only [decide_eq_false h, Bool.false_eq_true, if_false]
  rcases rangeB_sim (R := Int) (b := fun k7 (_ : Unit) => Option.bind (idx l (k7 : Int)) fun x27 => Option.bind (route_name x27.name) fun x41 => if (!x41) = true then some (.rt 3) else Option.bind (if (decide ((0 : Int) < (k7 : Int))) = true then (Option.bind (idx l (w64 ((k7 : Int) - 1))) fun x46 => some (strLt x27.name x46.name || strEq x27.name x46.name)) else (some false)) fun s44 => if s44 = true then some (.rt 5) else if (!(route_within x27.rank 1 9)) = true then some (.rt 2) else some (.nx ()))
    (b' := fun k7 (_ : Unit) => Option.bind (idx l (k7 : Int)) fun x27 => Option.bind (portref2_IsName x27.name) fun x41 => if (!x41) = true then some (.rt 3) else Option.bind (if (decide ((0 : Int) < (k7 : Int))) = true then (Option.bind (idx l (w64 ((k7 : Int) - 1))) fun x49 => some (strLt x27.name x49.name || strEq x27.name x49.name)) else (some false)) fun s47 => if s47 = true then some (.rt 5) else if ((decide (x27.rank < 1)) || (decide ((9 : Int) < x27.rank))) = true then some (.rt 2) else some (.nx ())) l.length (fun _ => True) (fun _ _ _ => True) (s := ()) (s' := ()) trivial
    (by
      rintro k _ _ hk _
      have hx : l[k]? = some l[k] := List.getElem?_eq_getElem hk
      have hsz := hs _ (List.getElem_mem hk)
      generalize l[k] = x at hx hsz
      have hr : (!(route_within x.rank 1 9)) = ((decide (x.rank < 1)) || (decide ((9 : Int) < x.rank))) := by
        rw [Bool.eq_iff_iff]
        simp only [route_within, Bool.not_eq_true', Bool.and_eq_false_iff, decide_eq_false_iff_not, Bool.or_eq_true, decide_eq_true_eq]
        omega
      simp only [idx_nat, hx, Option.bind_some, name_val _ hsz, isName_val, hr]
      generalize (x.name.data.toList.all okB && ((!(strEq x.name (⟨#[]⟩ : ByteArray))) && (decide ((x.name.size : Int) ≤ 20)))) = nm
      cases nm with
      | false => exact .inl ⟨3, rfl, rfl, trivial⟩
      | true =>
        simp only [Bool.not_true, Bool.false_eq_true, if_false]
        obtain ⟨b, hb⟩ : ∃ b : Bool, (if (decide ((0 : Int) < (k : Int))) = true then (Option.bind (idx l (w64 ((k : Int) - 1))) fun x46 => some (strLt x.name x46.name || strEq x.name x46.name)) else (some false)) = some b := by
          by_cases h0 : (0 : Int) < (k : Int)
          · have hw : w64 ((k : Int) - 1) = ((k - 1 : Nat) : Int) := by rw [w64_id (by omega) (by omega)]; omega
            rw [if_pos (by simpa using h0), hw, idx_lt _ _ (by omega)]
            exact ⟨_, rfl⟩
          · rw [if_neg (by simpa using h0)]
            exact ⟨_, rfl⟩
        rw [hb]
        cases b with
        | true => exact .inl ⟨5, rfl, rfl, trivial⟩
        | false =>
          simp only [Option.bind_some, Bool.false_eq_true, if_false]
          generalize ((decide (x.rank < 1)) || (decide ((9 : Int) < x.rank))) = rk
          cases rk with
          | true => exact .inl ⟨2, rfl, rfl, trivial⟩
          | false => exact .inr ⟨(), (), rfl, rfl, trivial⟩) with ⟨r, h1, h2, _⟩ | ⟨_, _, h1, h2, _⟩
  · rw [h1, h2]
    exact ⟨r, rfl, rfl⟩
  · rw [h1, h2]
    exact ⟨0, rfl, rfl⟩

/-- people in their order, each within the bounds -/
def PeopleOK (l : List route_Person) : Prop := l.length ≤ 40 ∧ ∀ (j : Nat) (p : route_Person), l[j]? = some p → (1 ≤ p.no ∧ p.no ≤ 40) ∧ (0 ≤ p.capacity ∧ p.capacity ≤ 100) ∧ (0 ≤ p.calendar ∧ p.calendar ≤ 19) ∧ ∀ (i : Nat) (q : route_Person), i < j → l[i]? = some q → q.no < p.no

theorem people_eq (l : List route_Person) (hs : ∀ p ∈ l, ∀ k ∈ p.skills, k.name.size ≤ 9223372036854775807) : ∃ r, route_CheckPeople l = some r ∧ portref2_PeopleFault l = some r ∧ (r = 0 → PeopleOK l) := by
  unfold route_CheckPeople portref2_PeopleFault
  by_cases h : (40 : Int) < (l.length : Int)
  · simp only [decide_eq_true h, if_true]
    exact ⟨4, rfl, rfl, fun h => absurd h (by decide)⟩
  simp only [decide_eq_false h, Bool.false_eq_true, if_false]
  rcases rangeB_sim (R := Int) (b := fun k7 (_ : Unit) => Option.bind (idx l (k7 : Int)) fun x27 => if (!(route_within x27.no 1 40)) = true then some (.rt 2) else Option.bind (if (decide ((0 : Int) < (k7 : Int))) = true then (Option.bind (idx l (w64 ((k7 : Int) - 1))) fun x50 => some (decide (x27.no ≤ x50.no))) else (some false)) fun s48 => if s48 = true then some (.rt 5) else if ((!(route_within x27.capacity 0 100)) || (!(route_within x27.calendar 0 19))) = true then some (.rt 2) else Option.bind (route_checkSkills x27.skills) fun x68 => if (x68 != 0) = true then some (.rt x68) else some (.nx ()))
    (b' := fun k7 (_ : Unit) => Option.bind (idx l (k7 : Int)) fun x27 => if ((decide (x27.no < 1)) || (decide ((40 : Int) < x27.no))) = true then some (.rt 2) else Option.bind (if (decide ((0 : Int) < (k7 : Int))) = true then (Option.bind (idx l (w64 ((k7 : Int) - 1))) fun x53 => some (decide (x27.no ≤ x53.no))) else (some false)) fun s51 => if s51 = true then some (.rt 5) else if ((((decide (x27.capacity < 0)) || (decide ((100 : Int) < x27.capacity))) || (decide (x27.calendar < 0))) || (decide ((20 : Int) ≤ x27.calendar))) = true then some (.rt 2) else Option.bind (portref2_skillsFault x27.skills) fun x77 => if (x77 != 0) = true then some (.rt x77) else some (.nx ())) l.length (fun r => r ≠ 0) (fun k _ _ => ∀ (j : Nat) (p : route_Person), j < k → l[j]? = some p → (1 ≤ p.no ∧ p.no ≤ 40) ∧ (0 ≤ p.capacity ∧ p.capacity ≤ 100) ∧ (0 ≤ p.calendar ∧ p.calendar ≤ 19) ∧ ∀ (i : Nat) (q : route_Person), i < j → l[i]? = some q → q.no < p.no) (s := ()) (s' := ()) (fun j p h => absurd h (Nat.not_lt_zero _))
    (by
      rintro k _ _ hk hI
      have hx : l[k]? = some l[k] := List.getElem?_eq_getElem hk
      have hsz := hs _ (List.getElem_mem hk)
      generalize l[k] = x at hx hsz
      have hr : (!(route_within x.no 1 40)) = ((decide (x.no < 1)) || (decide ((40 : Int) < x.no))) := by
        rw [Bool.eq_iff_iff]
        simp only [route_within, Bool.not_eq_true', Bool.and_eq_false_iff, decide_eq_false_iff_not, Bool.or_eq_true, decide_eq_true_eq]
        omega
      have hr2 : ((!(route_within x.capacity 0 100)) || (!(route_within x.calendar 0 19))) = ((((decide (x.capacity < 0)) || (decide ((100 : Int) < x.capacity))) || (decide (x.calendar < 0))) || (decide ((20 : Int) ≤ x.calendar))) := by
        rw [Bool.eq_iff_iff]
        simp only [route_within, Bool.not_eq_true', Bool.and_eq_false_iff, decide_eq_false_iff_not, Bool.or_eq_true, decide_eq_true_eq]
        omega
      simp only [idx_nat, hx, Option.bind_some, hr, hr2]
      by_cases hno : ((decide (x.no < 1)) || (decide ((40 : Int) < x.no))) = true
      · simp only [hno, if_true]
        exact .inl ⟨2, rfl, rfl, by decide⟩
      rw [Bool.not_eq_true] at hno
      simp only [hno, Bool.false_eq_true, if_false]
      have hno' : 1 ≤ x.no ∧ x.no ≤ 40 := by
        simp only [Bool.or_eq_false_iff, decide_eq_false_iff_not] at hno
        omega
      obtain ⟨b, hb, hbf⟩ : ∃ b : Bool, (if (decide ((0 : Int) < (k : Int))) = true then (Option.bind (idx l (w64 ((k : Int) - 1))) fun x50 => some (decide (x.no ≤ x50.no))) else (some false)) = some b ∧ (b = false → ∀ (i : Nat) (q : route_Person), i < k → l[i]? = some q → q.no < x.no) := by
        by_cases h0 : (0 : Int) < (k : Int)
        · have hw : w64 ((k : Int) - 1) = ((k - 1 : Nat) : Int) := by rw [w64_id (by omega) (by omega)]; omega
          have hp : l[k - 1]? = some l[k - 1] := List.getElem?_eq_getElem (by omega)
          generalize l[k - 1] = y at hp
          rw [if_pos (by simpa using h0), hw, idx_nat, hp]
          refine ⟨_, rfl, fun hf i q hi hq => ?_⟩
          have hlt : y.no < x.no := by
            have := of_decide_eq_false hf
            omega
          by_cases hik : i = k - 1
          · subst hik
            rw [hp] at hq
            cases hq
            exact hlt
          · have := (hI (k - 1) y (by omega) hp).2.2.2 i q (by omega) hq
            omega
        · rw [if_neg (by simpa using h0)]
          exact ⟨_, rfl, fun _ i q hi => by omega⟩
      rw [hb]
      cases b with
      | true => exact .inl ⟨5, rfl, rfl, by decide⟩
      | false =>
        simp only [Option.bind_some, Bool.false_eq_true, if_false]
        by_cases hcp : ((((decide (x.capacity < 0)) || (decide ((100 : Int) < x.capacity))) || (decide (x.calendar < 0))) || (decide ((20 : Int) ≤ x.calendar))) = true
        · simp only [hcp, if_true]
          exact .inl ⟨2, rfl, rfl, by decide⟩
        rw [Bool.not_eq_true] at hcp
        simp only [hcp, Bool.false_eq_true, if_false]
        have hcp' : (0 ≤ x.capacity ∧ x.capacity ≤ 100) ∧ (0 ≤ x.calendar ∧ x.calendar ≤ 19) := by
          simp only [Bool.or_eq_false_iff, decide_eq_false_iff_not] at hcp
          omega
        obtain ⟨r, h1, h2⟩ := skills_eq x.skills hsz
        simp only [h1, h2, Option.bind_some]
        by_cases h0 : r = 0
        · subst h0
          refine .inr ⟨(), (), rfl, rfl, fun j p hj hp => ?_⟩
          rcases Nat.lt_or_eq_of_le (Nat.le_of_lt_succ hj) with h3 | rfl
          · exact hI j p h3 hp
          · rw [hx] at hp
            cases hp
            exact ⟨hno', hcp'.1, hcp'.2, hbf rfl⟩
        · have : (r != 0) = true := by simpa using h0
          simp only [this, if_true]
          exact .inl ⟨r, rfl, rfl, h0⟩) with ⟨r, h1, h2, hr⟩ | ⟨_, _, h1, h2, hI⟩
  · rw [h1, h2]
    exact ⟨r, rfl, rfl, fun h => absurd h hr⟩
  · rw [h1, h2]
    exact ⟨0, rfl, rfl, fun _ => ⟨by omega, fun j p hp => hI j p (List.getElem?_eq_some_iff.1 hp).1 hp⟩⟩
end Go.Proofs.YtgmenjhmnjhgoaaDoor.M
