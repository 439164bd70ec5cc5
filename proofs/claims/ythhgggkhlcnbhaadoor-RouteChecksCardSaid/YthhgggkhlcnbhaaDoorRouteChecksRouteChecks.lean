/-
  RouteChecks: the checks of people, work and steps, and the text of people.
-/
import Derived.Test.YthhgggkhlcnbhaaDoorRouteChecksRouteSteps
import Derived.Test.YthhgggkhlcnbhaaDoorRouteChecksTextLine
namespace Go.Proofs.YthhgggkhlcnbhaaDoor.M
open Go Go.Pu
set_option linter.unusedSimpArgs false
set_option linter.unusedVariables false

theorem skills_ok (l : List route_Skill) (hs : ∀ k ∈ l, k.name.size ≤ 9223372036854775807) (h : route_checkSkills l = some 0) : l.length ≤ 12 ∧ ∀ k ∈ l, k.name.size ≤ 20 ∧ I64 k.rank := by
  unfold route_checkSkills at h
  by_cases h1 : (12 : Int) < (l.length : Int)
  · simp [h1] at h
  simp only [decide_eq_false h1, Bool.false_eq_true, if_false] at h
  obtain ⟨o, ho, hq⟩ := rangeB_spec (R := Int) (body := fun k7 (_ : Unit) => Option.bind (idx l (k7 : Int)) fun x27 => Option.bind (route_name x27.name) fun x41 => if (!x41) = true then some (.rt 3) else Option.bind (if (decide ((0 : Int) < (k7 : Int))) = true then (Option.bind (idx l (w64 ((k7 : Int) - 1))) fun x46 => some (strLt x27.name x46.name || strEq x27.name x46.name)) else (some false)) fun s44 => if s44 = true then some (.rt 5) else if (!(route_within x27.rank 1 9)) = true then some (.rt 2) else some (.nx ())) l.length
    (fun k _ => ∀ (j : Nat) (x : route_Skill), j < k → l[j]? = some x → x.name.size ≤ 20 ∧ I64 x.rank) (fun o => (∃ r, o = .rt r ∧ r ≠ 0) ∨ ∀ (j : Nat) (x : route_Skill), l[j]? = some x → x.name.size ≤ 20 ∧ I64 x.rank) (s := ()) (fun j x hj => absurd hj (Nat.not_lt_zero _))
    (by
      rintro k _ hk hI
      have hx : l[k]? = some l[k] := List.getElem?_eq_getElem hk
      have hsz := hs _ (List.getElem_mem hk)
      generalize l[k] = x at hx hsz
      simp only [idx_nat, hx, Option.bind_some, name_val _ hsz]
      by_cases hn : (x.name.data.toList.all okB && ((!(strEq x.name (⟨#[]⟩ : ByteArray))) && (decide ((x.name.size : Int) ≤ 20)))) = true
      · simp only [hn, Bool.not_true, Bool.false_eq_true, if_false]
        obtain ⟨b, hb⟩ : ∃ b : Bool, (if (decide ((0 : Int) < (k : Int))) = true then (Option.bind (idx l (w64 ((k : Int) - 1))) fun x46 => some (strLt x.name x46.name || strEq x.name x46.name)) else (some false)) = some b := by
          by_cases h0 : (0 : Int) < (k : Int)
          · have hw : w64 ((k : Int) - 1) = ((k - 1 : Nat) : Int) := by rw [w64_id (by omega) (by omega)]; omega
            rw [if_pos (by simpa using h0), hw, idx_lt _ _ (by omega)]
            exact ⟨_, rfl⟩
          · rw [if_neg (by simpa using h0)]
            exact ⟨_, rfl⟩
        rw [hb]
        cases b with
        | true => exact ⟨_, rfl, .inl ⟨5, rfl, by decide⟩⟩
        | false =>
          simp only [Option.bind_some, Bool.false_eq_true, if_false]
          by_cases hr : (!(route_within x.rank 1 9)) = true
          · simp only [hr, if_true]
            exact ⟨_, rfl, .inl ⟨2, rfl, by decide⟩⟩
          · simp only [hr, Bool.false_eq_true, if_false]
            refine ⟨_, rfl, fun j y hj hy => ?_⟩
            rcases Nat.lt_or_eq_of_le (Nat.le_of_lt_succ hj) with h3 | rfl
            · exact hI j y h3 hy
            · rw [hx] at hy
              cases hy
              simp [route_within] at hr
              simp at hn
              unfold I64
              omega
      · rw [Bool.not_eq_true] at hn
        simp only [hn, Bool.not_false, if_true]
        exact ⟨_, rfl, .inl ⟨3, rfl, by decide⟩⟩)
    (fun _ hI => .inr fun j x hx => hI j x (List.getElem?_eq_some_iff.1 hx).1 hx)
  refine ⟨by omega, fun x hx => ?_⟩
  rw [ho] at h
  rcases hq with ⟨r, rfl, hr⟩ | hq
  · simp [Lp.andThen] at h
    exact absurd h hr
  · obtain ⟨j, hj⟩ := List.getElem?_of_mem hx
    exact hq j x hj

theorem people_ok (l : List route_Person) (h : route_CheckPeople l = some 0) : ∀ p ∈ l, route_checkSkills p.skills = some 0 := by
  unfold route_CheckPeople at h
  by_cases h1 : (40 : Int) < (l.length : Int)
  · simp [h1] at h
  simp only [decide_eq_false h1, Bool.false_eq_true, if_false] at h
  -- each round that goes on has seen right skills
  have key : ∀ (n k : Nat) (b : Nat → Unit → Option (Ctl Unit Int)), (∀ j x, l[j]? = some x → b j () = some (.nx ()) → route_checkSkills x.skills = some 0) → (∀ j, b j () ≠ some (.rt 0) ∧ b j () ≠ some (.bk ())) → Option.bind (rangeB b n k ()) (fun o => o.andThen (fun y => some y) fun _ => some 0) = some 0 → ∀ j x, k ≤ j → j < k + n → l[j]? = some x → route_checkSkills x.skills = some 0 := by
    intro n
    induction n with
    | zero => intro k b _ _ _ j x h1 h2; omega
    | succ n ih =>
      intro k b hb hz hr j x h1 h2 hx
      rw [rangeB] at hr
      rcases hbk : b k () with _ | (s | s | r)
      · rw [hbk] at hr; cases hr
      · rw [hbk] at hr
        rcases Nat.lt_or_eq_of_le h1 with h3 | rfl
        · exact ih (k + 1) b hb hz hr j x h3 (by omega) hx
        · exact hb k x hx hbk
      · exact absurd hbk (hz k).2
      · rw [hbk] at hr
        simp [Lp.andThen] at hr
        subst hr
        exact absurd hbk (hz k).1
  intro p hp
  obtain ⟨j, hj⟩ := List.getElem?_of_mem hp
  refine key l.length 0 _ (fun j x hx hn => ?_) (fun j => ?_) h j p (Nat.zero_le _) (by have := (List.getElem?_eq_some_iff.1 hj).1; omega) hj
  · simp only [idx_nat, hx, Option.bind_some] at hn
    split at hn
    · cases hn
    · obtain ⟨b, hb, hn⟩ := Option.bind_eq_some_iff.1 hn
      split at hn
      · cases hn
      · split at hn
        · cases hn
        · obtain ⟨r, hr, hn⟩ := Option.bind_eq_some_iff.1 hn
          split at hn
          · cases hn
          · rename_i h0
            rw [hr]
            simpa using h0
  · constructor <;> intro hn
    · obtain ⟨x, hx, hn⟩ := Option.bind_eq_some_iff.1 hn
      split at hn
      · simp at hn
      · obtain ⟨b, hb, hn⟩ := Option.bind_eq_some_iff.1 hn
        split at hn
        · simp at hn
        · split at hn
          · simp at hn
          · obtain ⟨r, hr, hn⟩ := Option.bind_eq_some_iff.1 hn
            split at hn
            · rename_i h0
              simp at hn
              subst hn
              simp at h0
            · simp at hn
    · obtain ⟨x, hx, hn⟩ := Option.bind_eq_some_iff.1 hn
      split at hn
      · simp at hn
      · obtain ⟨b, hb, hn⟩ := Option.bind_eq_some_iff.1 hn
        split at hn
        · simp at hn
        · split at hn
          · simp at hn
          · obtain ⟨r, hr, hn⟩ := Option.bind_eq_some_iff.1 hn
            split at hn
            · simp at hn
            · simp at hn

/-- what lies within the bounds of the texts -/
def PersonT (p : route_Person) : Prop := I64 p.no ∧ I64 p.capacity ∧ I64 p.calendar ∧ p.skills.length ≤ 12 ∧ ∀ k ∈ p.skills, k.name.size ≤ 20 ∧ I64 k.rank
def skillW (k : route_Skill) : List AnyV := [AnyV.str k.name, AnyV.int k.rank]
def personH (p : route_Person) : List AnyV := [AnyV.str (⟨#[112, 101, 114, 115, 111, 110]⟩ : ByteArray), AnyV.int p.no, AnyV.int p.capacity, AnyV.int p.calendar]
def personW (p : route_Person) : List AnyV := personH p ++ p.skills.flatMap skillW
theorem flat2 {α β : Type} (f : α → List β) (n : Nat) (h : ∀ x, (f x).length = n) : ∀ l : List α, (l.flatMap f).length = n * l.length
  | [] => by simp
  | x :: l => by rw [List.flatMap_cons, List.length_append, h, flat2 f n h l, List.length_cons, Nat.mul_succ]; omega
theorem personW_ok {p : route_Person} (h : PersonT p) : (∀ x ∈ personW p, AnyOk 21 x) ∧ (personW p).length ≤ 28 := by
  obtain ⟨h1, h2, h3, h4, h5⟩ := h
  constructor
  · intro x hx
    simp only [personW, List.mem_append, List.mem_flatMap] at hx
    rcases hx with hx | ⟨k, hk, hx⟩
    · simp [personH] at hx
      rcases hx with rfl | rfl | rfl | rfl
      · show (6 : Nat) ≤ 21
        decide
      · exact h1
      · exact h2
      · exact h3
    · simp [skillW] at hx
      rcases hx with rfl | rfl
      · exact Nat.le_trans (h5 k hk).1 (by decide)
      · exact (h5 k hk).2
  · rw [personW, List.length_append, flat2 skillW 2 (fun _ => rfl)]
    simp [personH]
    omega
theorem line_size {ws : List AnyV} (h : ∀ x ∈ ws, AnyOk 21 x) (n : Nat) (hn : ws.length ≤ n) : (lineB (ws.map AnyT)).size ≤ 22 * n + 1 := by
  have h1 : ∀ y ∈ ws.map AnyT, y.size ≤ 21 := by
    intro y hy
    obtain ⟨x, hx, rfl⟩ := List.mem_map.1 hy
    exact anyT_size (Nat.le_refl _) (h x hx)
  have h2 := join_len 21 1 (ws.map AnyT) (⟨#[32]⟩ : ByteArray) h1 (Nat.le_refl _)
  rw [List.length_map] at h2
  unfold lineB
  rw [ByteArray.size_append]
  have z : (⟨#[10]⟩ : ByteArray).size = 1 := rfl
  have := Nat.mul_le_mul_left 22 hn
  omega
/-- the lines of so many people -/
def textB : List route_Person → ByteArray
  | [] => ByteArray.empty
  | p :: l => lineB ((personW p).map AnyT) ++ textB l
def textN (l : List route_Person) (k : Nat) : ByteArray := ((l.take k).map fun p => lineB ((personW p).map AnyT)).foldl (· ++ ·) ByteArray.empty
theorem textN_succ (l : List route_Person) (k : Nat) (p : route_Person) (h : l[k]? = some p) : textN l (k + 1) = textN l k ++ lineB ((personW p).map AnyT) := by
  unfold textN
  rw [List.take_add_one, h]
  simp [List.foldl_append]
theorem textN_size (l : List route_Person) (h : ∀ p ∈ l, PersonT p) : ∀ k, k ≤ l.length → (textN l k).size ≤ 617 * k
  | 0, _ => by simp [textN]
  | k + 1, hk => by
    have hx : l[k]? = some (l[k]'(by omega)) := List.getElem?_eq_getElem (by omega)
    have hp := h _ (List.getElem_mem (by omega : k < l.length))
    generalize l[k]'(by omega) = p at hx hp
    rw [textN_succ l k p hx, ByteArray.size_append]
    have h1 := textN_size l h k (by omega)
    have h2 := line_size (personW_ok hp).1 28 (personW_ok hp).2
    omega
theorem words_eq (p : route_Person) (h : PersonT p) {R : Type} : rangeB (R := R) (fun k76 s84 => Option.bind (idx p.skills (k76 : Int)) fun x99 => Option.bind (strconv_Itoa x99.rank) fun x117 => Option.bind (appendL 8796093022208 s84 ([x99.name, x117] : List ByteArray)) fun x126 => some (.nx x126)) p.skills.length 0 ((personH p).map AnyT) = some (.fin ((personW p).map AnyT)) := by
  obtain ⟨h1, h2, h3, h4, h5⟩ := h
  rw [rangeB_flat p.skills (fun k => (skillW k).map AnyT) 2 8796093022208 (fun _ _ => Nat.le_refl _) _ (fun j t x hx ht => ?_) _ (by simp [personH]; omega)]
  · rw [personW, List.map_append, List.map_flatMap]
  · have hr := (h5 x (List.mem_of_getElem? hx)).2
    have := append_some (s := t) (t := [x.name, itoaB x.rank]) (by simpa using ht)
    rw [idx_nat, hx, Option.bind_some, itoa_some hr, Option.bind_some, this]
    rfl
theorem words_eq2 (p : route_Person) (h : PersonT p) {R : Type} : rangeB (R := R) (fun k65 s73 => Option.bind (idx p.skills (k65 : Int)) fun x88 => Option.bind (appendL 8796093022208 s73 ([(AnyV.str x88.name), (AnyV.int x88.rank)] : List AnyV)) fun x108 => some (.nx x108)) p.skills.length 0 (personH p) = some (.fin (personW p)) := by
  obtain ⟨h1, h2, h3, h4, h5⟩ := h
  rw [rangeB_flat p.skills skillW 2 8796093022208 (fun _ _ => Nat.le_refl _) _ (fun j t x hx ht => ?_) _ (by simp [personH]; omega)]
  · rfl
  · have := append_some (s := t) (t := [AnyV.str x.name, AnyV.int x.rank]) (by simpa using ht)
    rw [idx_nat, hx, Option.bind_some, this]
    rfl
theorem text_eq (l : List route_Person) (h : ∀ p ∈ l, PersonT p) (hl : l.length ≤ 40) : ∃ r, route_PeopleText l = (route_CheckPeople l).bind (fun x => some (if x = 0 then (r, 0) else ((⟨#[]⟩ : ByteArray), x))) ∧ portref2_PeopleString l = (portref2_PeopleFault l).bind (fun x => some (if x = 0 then (r, 0) else ((⟨#[]⟩ : ByteArray), x))) := by
  refine ⟨textN l l.length, ?_, ?_⟩
  · unfold route_PeopleText
    congr 1
    funext x
    by_cases hx : x = 0
    · subst hx
      simp only [bne_self_eq_false, Bool.false_eq_true, if_false, if_true]
      obtain ⟨t, e1, e2⟩ := rangeB_inv (R := ByteArray × Int) (b := fun k16 s22 => Option.bind (idx l (k16 : Int)) fun x35 => Option.bind (strconv_Itoa x35.no) fun x54 => Option.bind (strconv_Itoa x35.capacity) fun x56 => Option.bind (strconv_Itoa x35.calendar) fun x58 => Option.bind (rangeB (fun k76 s84 => Option.bind (idx x35.skills (k76 : Int)) fun x99 => Option.bind (strconv_Itoa x99.rank) fun x117 => Option.bind (appendL 8796093022208 s84 ([x99.name, x117] : List ByteArray)) fun x126 => some (.nx x126)) x35.skills.length 0 ([(⟨#[112, 101, 114, 115, 111, 110]⟩ : ByteArray), x54, x56, x58] : List ByteArray)) fun o73 => o73.andThen (fun y => some (.rt y)) fun s74 => Option.bind (strings_Join s74 (⟨#[32]⟩ : ByteArray)) fun x135 => Option.bind (catS x135 (⟨#[10]⟩ : ByteArray)) fun x139 => Option.bind (strings_Builder_WriteString s22 x139) fun x140 => some (.nx x140.2.2)) l.length (fun k t => t = textN l k) (s := ByteArray.empty) rfl (fun k t hk ht => by
        subst ht
        have hx : l[k]? = some l[k] := List.getElem?_eq_getElem hk
        have hp := h _ (List.getElem_mem hk)
        generalize l[k] = p at hx hp
        have hsz := textN_size l h k (by omega)
        have hw := words_eq p hp (R := ByteArray × Int)
        have hok := personW_ok hp
        have hls := line_size hok.1 28 hok.2
        have hph : (personH p).map AnyT = [(⟨#[112, 101, 114, 115, 111, 110]⟩ : ByteArray), itoaB p.no, itoaB p.capacity, itoaB p.calendar] := rfl
        rw [hph] at hw
        simp only [idx_nat] at hw
        have g1 : ∀ y ∈ (personW p).map AnyT, y.size ≤ 21 := by
          intro y hy
          obtain ⟨x, hx, rfl⟩ := List.mem_map.1 hy
          exact anyT_size (Nat.le_refl _) (hok.1 x hx)
        have g2 : ((personW p).map AnyT).length ≤ 28 := by rw [List.length_map]; exact hok.2
        have g4 := join_len 21 1 ((personW p).map AnyT) (⟨#[32]⟩ : ByteArray) g1 (Nat.le_refl _)
        have z : (⟨#[10]⟩ : ByteArray).size = 1 := rfl
        have g5 := (cat_val (joinB ((personW p).map AnyT) (⟨#[32]⟩ : ByteArray)) (⟨#[10]⟩ : ByteArray) (by omega) (by omega)).1
        have g6 : strings_Builder_WriteString (textN l k) (lineB ((personW p).map AnyT)) = some (((lineB ((personW p).map AnyT)).size : Int), (), textN l k ++ lineB ((personW p).map AnyT)) := by
          unfold strings_Builder_WriteString
          rw [if_pos (by omega)]
        refine ⟨_, ?_, (textN_succ l k p hx).symm⟩
        simp only [idx_nat, hx, Option.bind_some, itoa_some hp.1, itoa_some hp.2.1, itoa_some hp.2.2.1, hw, Lp.andThen, join_some 21 1 ((personW p).map AnyT) (⟨#[32]⟩ : ByteArray) g1 (Nat.le_refl _) (by omega) (by omega), g5]
        rw [show joinB ((personW p).map AnyT) (⟨#[32]⟩ : ByteArray) ++ (⟨#[10]⟩ : ByteArray) = lineB ((personW p).map AnyT) from rfl, g6]
        rfl)
      subst e2
      rw [e1]
      rfl
    · have : (x != 0) = true := by simpa using hx
      rw [if_pos this, if_neg hx]
  · unfold portref2_PeopleString
    congr 1
    funext x
    by_cases hx : x = 0
    · subst hx
      simp only [bne_self_eq_false, Bool.false_eq_true, if_false, if_true]
      obtain ⟨t, e1, e2⟩ := rangeB_inv (R := ByteArray × Int) (b := fun k11 s17 => Option.bind (idx l (k11 : Int)) fun x30 => Option.bind (rangeB (fun k65 s73 => Option.bind (idx x30.skills (k65 : Int)) fun x88 => Option.bind (appendL 8796093022208 s73 ([(AnyV.str x88.name), (AnyV.int x88.rank)] : List AnyV)) fun x108 => some (.nx x108)) x30.skills.length 0 ([(AnyV.str (⟨#[112, 101, 114, 115, 111, 110]⟩ : ByteArray)), (AnyV.int x30.no), (AnyV.int x30.capacity), (AnyV.int x30.calendar)] : List AnyV)) fun o62 => o62.andThen (fun y => some (.rt y)) fun s63 => Option.bind (portref2_line s63) fun x117 => Option.bind (catS s17 x117) fun x121 => some (.nx x121)) l.length (fun k t => t = textN l k) (s := (⟨#[]⟩ : ByteArray)) rfl (fun k t hk ht => by
        subst ht
        have hx : l[k]? = some l[k] := List.getElem?_eq_getElem hk
        have hp := h _ (List.getElem_mem hk)
        generalize l[k] = p at hx hp
        have hsz := textN_size l h k (by omega)
        have hw := words_eq2 p hp (R := ByteArray × Int)
        have hok := personW_ok hp
        have hls := line_size hok.1 28 hok.2
        rw [personH] at hw
        simp only [idx_nat] at hw
        refine ⟨_, ?_, (textN_succ l k p hx).symm⟩
        simp only [idx_nat, hx, Option.bind_some, hw, Lp.andThen, line_some 21 (personW p) (Nat.le_refl _) (by omega) hok.1 (by omega), (cat_val (textN l k) (lineB ((personW p).map AnyT)) (by omega) (by omega)).1])
      subst e2
      rw [e1]
      rfl
    · have : (x != 0) = true := by simpa using hx
      rw [if_pos this, if_neg hx]

theorem work_eq (l : List route_Work) (hs : ∀ w ∈ l, ∀ k ∈ w.needs, k.name.size ≤ 9223372036854775807) : ∃ r, route_CheckWork l = some r ∧ portref2_WorkFault l = some r := by
  unfold route_CheckWork portref2_WorkFault
  by_cases h : (200 : Int) < (l.length : Int)
  · simp only [decide_eq_true h, if_true]
    exact ⟨4, rfl, rfl⟩
  simp only [decide_eq_false h, Bool.false_eq_true, if_false]
  rcases rangeB_sim (R := Int) (b := fun k7 (_ : Unit) => Option.bind (idx l (k7 : Int)) fun x27 => if (!(route_within x27.ticket 1 400)) = true then some (.rt 2) else Option.bind (sliceL l none (some (k7 : Int))) fun x47 => Option.bind (slices_ContainsFunc_Lroute_Work_route_Work x47 (fun y50 => route_CheckWork_1 y50 x27)) fun x51 => if x51 = true then some (.rt 6) else if ((((!(route_within x27.weight 1 20)) || (!(route_within x27.urgency 0 9))) || (!(route_within x27.since 0 3000000))) || (!(route_within x27.former 0 40))) = true then some (.rt 2) else Option.bind (route_checkSkills x27.needs) fun x81 => if (x81 != 0) = true then some (.rt x81) else some (.nx ()))
    (b' := fun k7 (_ : Unit) => Option.bind (idx l (k7 : Int)) fun x27 => if ((decide (x27.ticket < 1)) || (decide ((400 : Int) < x27.ticket))) = true then some (.rt 2) else Option.bind (sliceL l none (some (k7 : Int))) fun x50 => Option.bind (slices_ContainsFunc_Lroute_Work_route_Work x50 (fun y53 => portref2_WorkFault_1 y53 x27)) fun x54 => if x54 = true then some (.rt 6) else if (((((((decide (x27.weight < 1)) || (decide ((20 : Int) < x27.weight))) || (decide (x27.urgency < 0))) || (decide ((9 : Int) < x27.urgency))) || (!(portref2_IsMoment x27.since))) || (decide (x27.former < 0))) || (decide ((40 : Int) < x27.former))) = true then some (.rt 2) else Option.bind (portref2_skillsFault x27.needs) fun x93 => if (x93 != 0) = true then some (.rt x93) else some (.nx ())) l.length (fun _ => True) (fun _ _ _ => True) (s := ()) (s' := ()) trivial
    (by
      rintro k _ _ hk _
      have hx : l[k]? = some l[k] := List.getElem?_eq_getElem hk
      have hsz := hs _ (List.getElem_mem hk)
      generalize l[k] = w at hx hsz
      have hr : (!(route_within w.ticket 1 400)) = ((decide (w.ticket < 1)) || (decide ((400 : Int) < w.ticket))) := by
        rw [Bool.eq_iff_iff]
        simp only [route_within, Bool.not_eq_true', Bool.and_eq_false_iff, decide_eq_false_iff_not, Bool.or_eq_true, decide_eq_true_eq]
        omega
      have hr2 : ((((!(route_within w.weight 1 20)) || (!(route_within w.urgency 0 9))) || (!(route_within w.since 0 3000000))) || (!(route_within w.former 0 40))) = (((((((decide (w.weight < 1)) || (decide ((20 : Int) < w.weight))) || (decide (w.urgency < 0))) || (decide ((9 : Int) < w.urgency))) || (!(portref2_IsMoment w.since))) || (decide (w.former < 0))) || (decide ((40 : Int) < w.former))) := by
        rw [Bool.eq_iff_iff]
        simp only [route_within, portref2_IsMoment, Bool.not_eq_true', Bool.and_eq_false_iff, decide_eq_false_iff_not, Bool.or_eq_true, decide_eq_true_eq]
        omega
      have hsl : sliceL l none (some (k : Int)) = some (l.take k) := by
        unfold sliceL bounds
        simp
        omega
      obtain ⟨b, hb⟩ : ∃ b, slices_ContainsFunc_Lroute_Work_route_Work (l.take k) (fun y => some (y.ticket == w.ticket)) = some b := by
        unfold slices_ContainsFunc_Lroute_Work_route_Work slices_IndexFunc_Lroute_Work_route_Work
        rw [rangeB_index]
        simp only [Option.bind_some]
        split <;> exact ⟨_, rfl⟩
      simp only [idx_nat, hx, Option.bind_some, hr, hr2, hsl, route_CheckWork_1, portref2_WorkFault_1, hb]
      by_cases b1 : ((decide (w.ticket < 1)) || (decide ((400 : Int) < w.ticket))) = true
      · rw [if_pos b1, if_pos b1]
        exact .inl ⟨2, rfl, rfl, trivial⟩
      rw [if_neg b1, if_neg b1]
      cases b with
      | true => exact .inl ⟨6, rfl, rfl, trivial⟩
      | false =>
        simp only [Bool.false_eq_true, if_false]
        by_cases b2 : (((((((decide (w.weight < 1)) || (decide ((20 : Int) < w.weight))) || (decide (w.urgency < 0))) || (decide ((9 : Int) < w.urgency))) || (!(portref2_IsMoment w.since))) || (decide (w.former < 0))) || (decide ((40 : Int) < w.former))) = true
        · rw [if_pos b2, if_pos b2]
          exact .inl ⟨2, rfl, rfl, trivial⟩
        rw [if_neg b2, if_neg b2]
        obtain ⟨r, h1, h2⟩ := skills_eq w.needs hsz
        simp only [h1, h2, Option.bind_some]
        by_cases h0 : (r != 0) = true
        · rw [if_pos h0]
          exact .inl ⟨r, rfl, rfl, trivial⟩
        · rw [if_neg h0]
          exact .inr ⟨(), (), rfl, rfl, trivial⟩) with ⟨r, h1, h2, _⟩ | ⟨_, _, h1, h2, _⟩
  · rw [h1, h2]
    exact ⟨r, rfl, rfl⟩
  · rw [h1, h2]
    exact ⟨0, rfl, rfl⟩

theorem checks_true (people : List route_Person) (work : List route_Work) (steps : List route_Step) (hi : ∀ p ∈ people, (I64 p.no ∧ I64 p.capacity ∧ I64 p.calendar) ∧ ∀ k ∈ p.skills, k.name.size ≤ 9223372036854775807) (hw : ∀ w ∈ work, ∀ k ∈ w.needs, k.name.size ≤ 9223372036854775807) : portlaw2_RouteChecks people work steps = some true := by
  obtain ⟨r, e1, e2, e3⟩ := people_eq people fun p hp => (hi p hp).2
  obtain ⟨r2, f1, f2⟩ := work_eq work hw
  obtain ⟨r3, g1, g2, _⟩ := steps_eq steps
  have key : ∃ s, route_PeopleText people = some s ∧ portref2_PeopleString people = some s := by
    by_cases hr : r = 0
    · subst hr
      have h1 := people_ok people e1
      obtain ⟨s, t1, t2⟩ := text_eq people (fun p hp => by
        have h2 := skills_ok p.skills (hi p hp).2 (h1 p hp)
        exact ⟨(hi p hp).1.1, (hi p hp).1.2.1, (hi p hp).1.2.2, h2.1, h2.2⟩) (e3 rfl).1
      refine ⟨(s, 0), ?_, ?_⟩
      · rw [t1, e1]; rfl
      · rw [t2, e2]; rfl
    · have hne : (r != 0) = true := by simpa using hr
      refine ⟨((⟨#[]⟩ : ByteArray), r), ?_, ?_⟩
      · unfold route_PeopleText
        rw [e1, Option.bind_some, if_pos hne]
      · unfold portref2_PeopleString
        rw [e2, Option.bind_some, if_pos hne]
  obtain ⟨s, t1, t2⟩ := key
  unfold portlaw2_RouteChecks
  simp only [t1, t2, e1, e2, f1, f2, g1, g2, Option.bind_some, strEq_self, if_true, beq_self_eq_true]
end Go.Proofs.YthhgggkhlcnbhaaDoor.M
