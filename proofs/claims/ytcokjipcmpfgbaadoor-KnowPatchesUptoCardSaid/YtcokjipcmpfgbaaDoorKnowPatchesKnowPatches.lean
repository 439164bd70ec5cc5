/-
  KnowPatches: both sides patch alike: plain part.
-/
import Derived.Test.YtcokjipcmpfgbaaDoorKnowPatchesPatchOne
namespace Go.Proofs.YtcokjipcmpfgbaaDoor.M
open Go Go.Pu
set_option linter.unusedSimpArgs false
set_option linter.unusedVariables false
set_option maxHeartbeats 1000000

def wsum (l : List ByteArray) : Nat := (l.map fun s => s.size + 1).sum
theorem wsum_app (l m : List ByteArray) : wsum (l ++ m) = wsum l + wsum m := by simp [wsum]
theorem wsum_len : ∀ l : List ByteArray, l.length ≤ wsum l
  | [] => by simp [wsum]
  | x :: l => by have := wsum_len l; simp [wsum] at this ⊢; omega
theorem wsum_mem : ∀ {l : List ByteArray} {s : ByteArray}, s ∈ l → s.size + 1 ≤ wsum l
  | x :: l, s, h => by
    rcases List.mem_cons.1 h with rfl | h
    · simp [wsum]
    · have := wsum_mem h; simp [wsum] at this ⊢; omega
def adds (l : List know_Edit) : Nat := (l.map fun e => wsum e.add).sum
theorem adds_mem : ∀ {l : List know_Edit} {e : know_Edit}, e ∈ l → wsum e.add ≤ adds l
  | x :: l, e, h => by
    rcases List.mem_cons.1 h with rfl | h
    · simp [adds]
    · have := adds_mem h; simp [adds] at this ⊢; omega
theorem adds_take (l : List know_Edit) (k : Nat) (e : know_Edit) (h : l[k]? = some e) : adds (l.take (k + 1)) = adds (l.take k) + wsum e.add := by
  unfold adds
  rw [List.take_add_one, h]
  simp
theorem take_split (l : List ByteArray) (p q : Nat) (h : p ≤ q) : l.take q = l.take p ++ (l.take q).drop p := by
  conv => lhs; rw [← List.take_append_drop p (l.take q)]
  rw [List.take_take, Nat.min_eq_left h]
theorem sliceL_mid {α : Type} (l : List α) (p q : Nat) (h1 : p ≤ q) (h2 : q ≤ l.length) : sliceL l (some (p : Int)) (some (q : Int)) = some ((l.take q).drop p) := by
  unfold sliceL bounds
  simp
  omega
theorem sliceL_from {α : Type} (l : List α) (p : Nat) (h : p ≤ l.length) : sliceL l (some (p : Int)) none = some (l.drop p) := by
  unfold sliceL bounds
  simp
  exact h
theorem append_ok {α : Type} (l m : List α) (h : l.length + m.length ≤ 8796093022208) : appendL 8796093022208 l m = some (l ++ m) := by
  unfold appendL
  rw [if_pos h]

/-! one edit -/
def editOf (x : know_Edit) (before : Option know_Edit) (many : Int) : Int :=
  if ((!(know_within x.at_ 0 many)) || (!(know_within x.drop 0 (w64 (many - x.at_))))) = true then 2
  else if (match before with | some b => decide (x.at_ ≤ w64 (b.at_ + b.drop)) | none => false) = true then 5
  else if ((x.drop == 0) && ((x.add.length : Int) == 0)) = true then 1
  else if (x.add.any fun s => !(lineB (dat s))) = true then 1 else 0
theorem edit_know (x : know_Edit) (before : Option know_Edit) (many : Int) (hs : ∀ s ∈ x.add, s.size ≤ 4000000000) : know_checkEdit x before many = some (editOf x before many) := by
  unfold know_checkEdit editOf
  by_cases c1 : ((!(know_within x.at_ 0 many)) || (!(know_within x.drop 0 (w64 (many - x.at_))))) = true
  · rw [if_pos c1, if_pos c1]
  rw [if_neg c1, if_neg c1]
  have h2 : (if before.isSome = true then (Option.bind (before) fun x18 => some (decide (x.at_ ≤ (w64 (x18.at_ + x18.drop))))) else (some false)) = some (match before with | some b => decide (x.at_ ≤ w64 (b.at_ + b.drop)) | none => false) := by
    cases before <;> rfl
  rw [h2, Option.bind_some]
  generalize (match before with | some b => decide (x.at_ ≤ w64 (b.at_ + b.drop)) | none => false) = c2
  by_cases c2 : c2 = true
  · rw [if_pos c2, if_pos c2]
  rw [if_neg c2, if_neg c2]
  by_cases c3 : ((x.drop == 0) && ((x.add.length : Int) == 0)) = true
  · rw [if_pos c3, if_pos c3]
  rw [if_neg c3, if_neg c3]
  rw [rangeB_forL x.add (fun _ s (_ : Unit) => if (!(lineB (dat s))) = true then some (.rt (1 : Int)) else some (.nx ())) _ (fun k _ s hk => by
    rw [idx_nat, hk, Option.bind_some, know_test s (hs s (List.mem_of_getElem? hk))]) (), forL_any (fun s => !(lineB (dat s)))]
  by_cases c4 : (x.add.any fun s => !(lineB (dat s))) = true
  · rw [if_pos c4, if_pos c4]; rfl
  · rw [if_neg c4, if_neg c4]; rfl
theorem edit_zero {x : know_Edit} {before : Option know_Edit} {many : Int} (hm : 0 ≤ many ∧ many ≤ 2000) (h : editOf x before many = 0) :
    0 ≤ x.at_ ∧ 0 ≤ x.drop ∧ x.at_ + x.drop ≤ many ∧ (∀ b, before = some b → w64 (b.at_ + b.drop) < x.at_) ∧ ∀ s ∈ x.add, isLine (dat s) := by
  unfold editOf at h
  by_cases c1 : ((!(know_within x.at_ 0 many)) || (!(know_within x.drop 0 (w64 (many - x.at_))))) = true
  · rw [if_pos c1] at h
    exact absurd h (by decide)
  rw [if_neg c1] at h
  generalize hc2 : (match before with | some b => decide (x.at_ ≤ w64 (b.at_ + b.drop)) | none => false) = c2 at h
  by_cases c2t : c2 = true
  · rw [if_pos c2t] at h
    exact absurd h (by decide)
  rw [if_neg c2t] at h
  by_cases c3 : ((x.drop == 0) && ((x.add.length : Int) == 0)) = true
  · rw [if_pos c3] at h
    exact absurd h (by decide)
  rw [if_neg c3] at h
  by_cases c4 : (x.add.any fun s => !(lineB (dat s))) = true
  · rw [if_pos c4] at h
    exact absurd h (by decide)
  simp only [know_within, Bool.or_eq_true, Bool.not_eq_true', Bool.and_eq_false_iff, decide_eq_false_iff_not, not_or, Decidable.not_not] at c1
  have hw : w64 (many - x.at_) = many - x.at_ := w64_id (by omega) (by omega)
  rw [hw] at c1
  refine ⟨by omega, by omega, by omega, ?_, ?_⟩
  · rintro b rfl
    simp only at hc2
    rw [← hc2, decide_eq_true_eq] at c2t
    omega
  · intro s hs
    rw [← lineB_iff]
    cases hh : lineB (dat s)
    · exact absurd (List.any_eq_true.2 ⟨s, hs, by rw [hh]; rfl⟩) c4
    · rfl

abbrev Rt := ByteArray × Int
/-- where the two loops over the edits stand -/
structure At (x8 : List ByteArray) (l : List know_Edit) (k : Nat) (s : List ByteArray × Int) : Prop where
  pos : ∃ p : Nat, s.2 = (p : Int) ∧ p ≤ x8.length ∧ wsum s.1 ≤ wsum (x8.take p) + adds (l.take k)
  line : ∀ y ∈ s.1, isLine (dat y)
  prev : ∀ e, 0 < k → l[k - 1]? = some e → e.at_ + e.drop = s.2
  zero : k = 0 → s.2 = 0
def bodyK (x8 : List ByteArray) (l : List know_Edit) : Nat → List ByteArray × Int → Option (Ctl (List ByteArray × Int) Rt) :=
  fun k17 s25 => Option.bind (idx l (k17 : Int)) fun x40 => Option.bind (if (decide ((0 : Int) < (k17 : Int))) = true then Option.bind (idx l (w64 ((k17 : Int) - 1))) fun x65 => some (w64 ((k17 : Int) - 1)) else some (-1)) fun s59 => Option.bind (optE l s59) fun x71 => Option.bind (know_checkEdit x40 x71 (x8.length : Int)) fun x73 => if (x73 != 0) = true then some (.rt ((⟨#[]⟩ : ByteArray), x73)) else Option.bind (sliceL x8 (some s25.2) (some x40.at_)) fun x79 => Option.bind (appendL 8796093022208 s25.1 x79) fun x82 => Option.bind (appendL 8796093022208 x82 x40.add) fun x92 => some (.nx (x92, w64 (x40.at_ + x40.drop)))
def bodyR (x8 : List ByteArray) (l : List know_Edit) : Nat → List ByteArray × Int → Option (Ctl (List ByteArray × Int) Rt) :=
  fun k17 s25 => Option.bind (idx l (k17 : Int)) fun x40 => if ((((decide (x40.at_ < 0)) || (decide ((x8.length : Int) < x40.at_))) || (decide (x40.drop < 0))) || (decide ((w64 ((x8.length : Int) - x40.at_)) < x40.drop))) = true then some (.rt ((⟨#[]⟩ : ByteArray), 2)) else Option.bind (if (decide ((0 : Int) < (k17 : Int))) = true then (Option.bind (idx l (w64 ((k17 : Int) - 1))) fun x73 => some (decide (x40.at_ ≤ (w64 (x73.at_ + x73.drop))))) else (some false)) fun s71 => if s71 = true then some (.rt ((⟨#[]⟩ : ByteArray), 5)) else if ((x40.drop == 0) && ((x40.add.length : Int) == 0)) = true then some (.rt ((⟨#[]⟩ : ByteArray), 1)) else Option.bind (rangeB (fun k101 _ => Option.bind (idx x40.add (k101 : Int)) fun x120 => Option.bind (if (strEq x120 (⟨#[]⟩ : ByteArray)) = true then (some true) else (Option.bind (strings_TrimSuffix x120 (⟨#[10]⟩ : ByteArray)) fun x134 => Option.bind (strings_Contains x134 (⟨#[10]⟩ : ByteArray)) fun x135 => some x135)) fun s125 => if s125 = true then some (.rt ((⟨#[]⟩ : ByteArray), 1)) else some (.nx ())) x40.add.length 0 ()) fun o98 => o98.andThen (fun y => some (.rt y)) fun s99 => Option.bind (sliceL x8 (some s25.2) (some x40.at_)) fun x145 => Option.bind (appendL 8796093022208 s25.1 x145) fun x151 => Option.bind (appendL 8796093022208 x151 x40.add) fun x161 => some (.nx (x161, w64 (x40.at_ + x40.drop)))
/-- the edit ahead -/
def prevE (l : List know_Edit) (k : Nat) : Option know_Edit := if 0 < k then l[k - 1]? else none
def stepE (x8 : List ByteArray) (x40 : know_Edit) (s25 : List ByteArray × Int) : Option (Ctl (List ByteArray × Int) Rt) :=
  Option.bind (sliceL x8 (some s25.2) (some x40.at_)) fun x79 => Option.bind (appendL 8796093022208 s25.1 x79) fun x82 => Option.bind (appendL 8796093022208 x82 x40.add) fun x92 => some (.nx (x92, w64 (x40.at_ + x40.drop)))
theorem body_know (x8 : List ByteArray) (l : List know_Edit) (hl : l.length ≤ 10000000000) (k : Nat) (s : List ByteArray × Int) (x : know_Edit) (hk : l[k]? = some x) (hs : ∀ s ∈ x.add, s.size ≤ 4000000000) :
    bodyK x8 l k s = if editOf x (prevE l k) x8.length = 0 then stepE x8 x s else some (.rt ((⟨#[]⟩ : ByteArray), editOf x (prevE l k) x8.length)) := by
  have hlt : k < l.length := (List.getElem?_eq_some_iff.1 hk).1
  unfold bodyK
  rw [idx_nat, hk, Option.bind_some]
  have e : (Option.bind (if (decide ((0 : Int) < (k : Int))) = true then Option.bind (idx l (w64 ((k : Int) - 1))) fun x65 => some (w64 ((k : Int) - 1)) else some (-1)) fun s59 => Option.bind (optE l s59) fun x71 => Option.bind (know_checkEdit x x71 (x8.length : Int)) fun x73 => if (x73 != 0) = true then some (.rt ((⟨#[]⟩ : ByteArray), x73)) else stepE x8 x s) = (Option.bind (know_checkEdit x (prevE l k) (x8.length : Int)) fun x73 => if (x73 != 0) = true then some (.rt ((⟨#[]⟩ : ByteArray), x73)) else stepE x8 x s) := by
    unfold prevE
    by_cases h0 : 0 < k
    · have hw : w64 ((k : Int) - 1) = ((k - 1 : Nat) : Int) := by rw [w64_id (by omega) (by omega)]; omega
      have hx : l[k - 1]? = some l[k - 1] := List.getElem?_eq_getElem (by omega)
      have ho : optE l ((k - 1 : Nat) : Int) = some (some l[k - 1]) := by
        unfold optE
        rw [if_neg (by omega), idx_nat, hx]
        rfl
      rw [if_pos (by simpa using h0), if_pos h0, hw, idx_nat, hx, Option.bind_some, Option.bind_some, ho, Option.bind_some]
    · rw [if_neg (by simpa using h0), if_neg h0, Option.bind_some]
      rfl
  refine e.trans ?_
  rw [edit_know x _ _ hs, Option.bind_some]
  by_cases h : editOf x (prevE l k) x8.length = 0
  · rw [if_pos h, if_neg (by rw [h]; decide)]
  · rw [if_neg h, if_pos (by simpa using h)]
theorem body_ref (x8 : List ByteArray) (l : List know_Edit) (hl : l.length ≤ 10000000000) (k : Nat) (s : List ByteArray × Int) (x : know_Edit) (hk : l[k]? = some x) (hs : ∀ s ∈ x.add, s.size ≤ 4000000000) :
    bodyR x8 l k s = if editOf x (prevE l k) x8.length = 0 then stepE x8 x s else some (.rt ((⟨#[]⟩ : ByteArray), editOf x (prevE l k) x8.length)) := by
  have hlt : k < l.length := (List.getElem?_eq_some_iff.1 hk).1
  unfold bodyR
  rw [idx_nat, hk, Option.bind_some]
  have e1 : ((((decide (x.at_ < 0)) || (decide ((x8.length : Int) < x.at_))) || (decide (x.drop < 0))) || (decide ((w64 ((x8.length : Int) - x.at_)) < x.drop))) = ((!(know_within x.at_ 0 x8.length)) || (!(know_within x.drop 0 (w64 (x8.length - x.at_))))) := by
    unfold know_within
    rw [Bool.eq_iff_iff]
    simp only [Bool.or_eq_true, decide_eq_true_eq, Bool.not_eq_true', Bool.and_eq_false_iff, decide_eq_false_iff_not]
    omega
  rw [e1]
  unfold editOf
  by_cases c1 : ((!(know_within x.at_ 0 x8.length)) || (!(know_within x.drop 0 (w64 (x8.length - x.at_))))) = true
  · rw [if_pos c1, if_pos c1, if_neg (by decide)]
  rw [if_neg c1, if_neg c1]
  have e2 : (if (decide ((0 : Int) < (k : Int))) = true then (Option.bind (idx l (w64 ((k : Int) - 1))) fun x73 => some (decide (x.at_ ≤ (w64 (x73.at_ + x73.drop))))) else (some false)) = some (match prevE l k with | some b => decide (x.at_ ≤ w64 (b.at_ + b.drop)) | none => false) := by
    unfold prevE
    by_cases h0 : 0 < k
    · have hw : w64 ((k : Int) - 1) = ((k - 1 : Nat) : Int) := by rw [w64_id (by omega) (by omega)]; omega
      have hx : l[k - 1]? = some l[k - 1] := List.getElem?_eq_getElem (by omega)
      rw [if_pos (by simpa using h0), if_pos h0, hw, idx_nat, hx, Option.bind_some]
    · rw [if_neg (by simpa using h0), if_neg h0]
  rw [e2, Option.bind_some]
  generalize (match prevE l k with | some b => decide (x.at_ ≤ w64 (b.at_ + b.drop)) | none => false) = c2
  by_cases c2 : c2 = true
  · rw [if_pos c2, if_pos c2, if_neg (by decide)]
  rw [if_neg c2, if_neg c2]
  by_cases c3 : ((x.drop == 0) && ((x.add.length : Int) == 0)) = true
  · rw [if_pos c3, if_pos c3, if_neg (by decide)]
  rw [if_neg c3, if_neg c3]
  rw [rangeB_forL x.add (fun _ s (_ : Unit) => if (!(lineB (dat s))) = true then some (.rt ((⟨#[]⟩ : ByteArray), (1 : Int))) else some (.nx ())) _ (fun k _ s hk => by
    rw [idx_nat, hk, Option.bind_some, ref_test s (hs s (List.mem_of_getElem? hk)), Option.bind_some]) (), forL_any (fun s => !(lineB (dat s)))]
  by_cases c4 : (x.add.any fun s => !(lineB (dat s))) = true
  · rw [if_pos c4, if_pos c4, if_neg (by decide)]; rfl
  · rw [if_neg c4, if_neg c4, if_pos rfl]; rfl
theorem step_ok (x8 : List ByteArray) (l : List know_Edit) (hx8 : x8.length ≤ 2000) (hline : ∀ y ∈ x8, isLine (dat y)) (hb : wsum x8 + adds l ≤ 8000000) (k : Nat) (s : List ByteArray × Int) (x : know_Edit) (hk : l[k]? = some x) (hI : At x8 l k s)
    (h0 : editOf x (prevE l k) x8.length = 0) : ∃ t, stepE x8 x s = some (.nx t) ∧ At x8 l (k + 1) t := by
  obtain ⟨h1, h2, h3, h4, h5⟩ := edit_zero (by omega) h0
  obtain ⟨⟨p, hp, hple, hw⟩, hln, hprev, hz⟩ := hI
  have hlt : k < l.length := (List.getElem?_eq_some_iff.1 hk).1
  obtain ⟨q, hq⟩ : ∃ q : Nat, x.at_ = q := ⟨x.at_.toNat, by omega⟩
  obtain ⟨d, hd⟩ : ∃ d : Nat, x.drop = d := ⟨x.drop.toNat, by omega⟩
  have hpq : p ≤ q := by
    by_cases hk0 : 0 < k
    · have hx : l[k - 1]? = some l[k - 1] := List.getElem?_eq_getElem (by omega)
      have e1 := hprev _ hk0 hx
      have e2 := h4 l[k - 1] (by unfold prevE; rw [if_pos hk0, hx])
      rw [e1, hp, w64_id (by omega) (by omega)] at e2
      omega
    · have := hz (by omega)
      omega
  have hts := take_split x8 p q hpq
  have ht2 := take_split x8 q (q + d) (by omega)
  have hsub : wsum (x8.take (q + d)) ≤ wsum x8 := by
    conv => rhs; rw [← List.take_append_drop (q + d) x8, wsum_app]
    omega
  have ha : adds (l.take (k + 1)) ≤ adds l := by
    unfold adds
    conv => rhs; rw [← List.take_append_drop (k + 1) l, List.map_append, List.sum_append]
    omega
  have hat := adds_take l k x hk
  have hnew : wsum (s.1 ++ (x8.take q).drop p ++ x.add) ≤ wsum (x8.take (q + d)) + adds (l.take (k + 1)) := by
    rw [wsum_app, wsum_app, hat, ht2, wsum_app, hts, wsum_app]
    rw [← hts]
    omega
  have hlen := wsum_len (s.1 ++ (x8.take q).drop p ++ x.add)
  simp only [List.length_append] at hlen
  unfold stepE
  rw [hp, hq, sliceL_mid x8 p q hpq (by omega), Option.bind_some, append_ok _ _ (by omega), Option.bind_some, append_ok _ _ (by rw [List.length_append]; omega), Option.bind_some]
  have hwd : w64 ((q : Int) + x.drop) = ((q + d : Nat) : Int) := by rw [hd, w64_id (by omega) (by omega)]; omega
  refine ⟨_, rfl, ⟨⟨q + d, hwd, by omega, hnew⟩, ?_, ?_, fun h => by omega⟩⟩
  · intro y hy
    rcases List.mem_append.1 hy with hy | hy
    · rcases List.mem_append.1 hy with hy | hy
      · exact hln y hy
      · exact hline y (List.mem_of_mem_take (List.mem_of_mem_drop hy))
    · exact h5 y hy
  · intro e _ he
    rw [Nat.add_sub_cancel, hk] at he
    cases he
    show x.at_ + x.drop = w64 ((q : Int) + x.drop)
    rw [hwd]
    omega
theorem loops (x8 : List ByteArray) (l : List know_Edit) (hx8 : x8.length ≤ 2000) (hline : ∀ y ∈ x8, isLine (dat y)) (hb : wsum x8 + adds l ≤ 8000000) (hl : l.length ≤ 10000000000) :
    (∃ r, rangeB (bodyK x8 l) l.length 0 (([] : List ByteArray), (0 : Int)) = some (.rt r) ∧ rangeB (bodyR x8 l) l.length 0 (([] : List ByteArray), (0 : Int)) = some (.rt r) ∧ True) ∨
    ∃ t t', rangeB (bodyK x8 l) l.length 0 (([] : List ByteArray), (0 : Int)) = some (.fin t) ∧ rangeB (bodyR x8 l) l.length 0 (([] : List ByteArray), (0 : Int)) = some (.fin t') ∧ (t = t' ∧ At x8 l l.length t) := by
  refine rangeB_sim l.length (fun _ => True) (fun k s s' => s = s' ∧ At x8 l k s) ⟨rfl, ⟨⟨0, rfl, Nat.zero_le _, by simp [wsum, adds]⟩, fun y hy => (by cases hy), fun e h => absurd h (by omega), fun _ => rfl⟩⟩ ?_
  rintro k s _ hk ⟨rfl, hI⟩
  have hx : l[k]? = some l[k] := List.getElem?_eq_getElem hk
  have hs : ∀ s ∈ l[k].add, s.size ≤ 4000000000 := by
    intro s hs
    have := wsum_mem hs
    have := adds_mem (List.getElem_mem hk)
    omega
  rw [body_know x8 l hl k s l[k] hx hs, body_ref x8 l hl k s l[k] hx hs]
  by_cases h0 : editOf l[k] (prevE l k) x8.length = 0
  · rw [if_pos h0]
    obtain ⟨t, ht, hI'⟩ := step_ok x8 l hx8 hline hb k s l[k] hx hI h0
    exact .inr ⟨t, t, ht, ht, rfl, hI'⟩
  · rw [if_neg h0]
    exact .inl ⟨_, rfl, rfl, trivial⟩

/-! the ends of lines -/
def tot (l : List ByteArray) : Nat := (l.map fun s => s.size).sum
theorem tot_le : ∀ l : List ByteArray, tot l ≤ wsum l
  | [] => by simp [tot, wsum]
  | x :: l => by have := tot_le l; simp [tot, wsum] at this ⊢; omega
theorem tot_take (l : List ByteArray) (k : Nat) (e : ByteArray) (h : l[k]? = some e) : tot (l.take (k + 1)) = tot (l.take k) + e.size := by
  unfold tot
  rw [List.take_add_one, h]
  simp
def endK (o : List ByteArray) : Nat → Int → Option (Ctl Int Rt) :=
  fun k115 s119 => Option.bind (idx o (k115 : Int)) fun x130 => Option.bind (if (decide ((k115 : Int) < (w64 ((o.length : Int) - 1)))) = true then (Option.bind (strings_HasSuffix x130 (⟨#[10]⟩ : ByteArray)) fun x137 => some (!x137)) else (some false)) fun s136 => if s136 = true then some (.rt ((⟨#[]⟩ : ByteArray), 1)) else some (.nx (w64 (s119 + (x130.size : Int))))
def endR (o : List ByteArray) : Nat → Unit → Option (Ctl Unit Rt) :=
  fun k184 _ => Option.bind (idx o (k184 : Int)) fun x199 => Option.bind (if (decide ((k184 : Int) < (w64 ((o.length : Int) - 1)))) = true then (Option.bind (strings_HasSuffix x199 (⟨#[10]⟩ : ByteArray)) fun x206 => some (!x206)) else (some false)) fun s205 => if s205 = true then some (.rt ((⟨#[]⟩ : ByteArray), 1)) else some (.nx ())
theorem ends (o : List ByteArray) (hw : wsum o ≤ 8000000) :
    (∃ r, rangeB (endK o) o.length 0 (0 : Int) = some (.rt r) ∧ rangeB (endR o) o.length 0 () = some (.rt r) ∧ True) ∨
    ∃ t t', rangeB (endK o) o.length 0 (0 : Int) = some (.fin t) ∧ rangeB (endR o) o.length 0 () = some (.fin t') ∧ (t = (tot (o.take o.length) : Int) ∧ ∀ i x, i < o.length → i + 1 < o.length → o[i]? = some x → feedB (dat x) = true) := by
  refine rangeB_sim o.length (fun _ => True) (fun k s _ => s = (tot (o.take k) : Int) ∧ ∀ i x, i < k → i + 1 < o.length → o[i]? = some x → feedB (dat x) = true) ⟨rfl, fun i x h => absurd h (by omega)⟩ ?_
  rintro k s _ hk ⟨rfl, hI⟩
  have hx : o[k]? = some o[k] := List.getElem?_eq_getElem hk
  have hlen := wsum_len o
  have hsz := wsum_mem (List.getElem_mem hk)
  have hsf : strings_HasSuffix o[k] (⟨#[10]⟩ : ByteArray) = some (feedB (dat o[k])) := by
    unfold strings_HasSuffix
    rw [suffix_val _ (by omega)]
    rfl
  have hwl : w64 ((o.length : Int) - 1) = (o.length : Int) - 1 := w64_id (by omega) (by omega)
  have ht := tot_take o k o[k] hx
  have htl : tot (o.take (k + 1)) ≤ 8000000 := by
    have h1 := tot_le (o.take (k + 1))
    have h2 : wsum (o.take (k + 1)) ≤ wsum o := by
      conv => rhs; rw [← List.take_append_drop (k + 1) o, wsum_app]
      omega
    omega
  have hws : w64 ((tot (o.take k) : Int) + (o[k].size : Int)) = (tot (o.take (k + 1)) : Int) := by rw [w64_id (by omega) (by omega)]; omega
  unfold endK endR
  simp only [idx_nat, hx, Option.bind_some, hwl, hsf, hws]
  by_cases hl : k + 1 < o.length
  · have hd : decide ((k : Int) < (o.length : Int) - 1) = true := by rw [decide_eq_true_eq]; omega
    simp only [hd, if_true]
    cases hf : feedB (dat o[k])
    · exact .inl ⟨_, rfl, rfl, trivial⟩
    · refine .inr ⟨_, _, rfl, rfl, rfl, ?_⟩
      intro i x hi hi2 hix
      by_cases he : i = k
      · subst he
        rw [hx] at hix
        cases hix
        exact hf
      · exact hI i x (by omega) hi2 hix
  · have hd : decide ((k : Int) < (o.length : Int) - 1) = false := by rw [decide_eq_false_iff_not]; omega
    simp only [hd, Bool.false_eq_true, if_false]
    refine .inr ⟨_, _, rfl, rfl, rfl, ?_⟩
    intro i x hi hi2 hix
    exact hI i x (by omega) hi2 hix

theorem tot_flat : ∀ o : List ByteArray, (o.map dat).flatten.length = tot o
  | [] => rfl
  | x :: o => by
    have := tot_flat o
    rw [List.map_cons, List.flatten_cons, List.length_append, this]
    simp only [tot, List.map_cons, List.sum_cons, size_dat x]
theorem join_val (o : List ByteArray) (hw : wsum o ≤ 8000000) : strings_Join o (⟨#[]⟩ : ByteArray) = some ⟨(o.map dat).flatten.toArray⟩ := by
  unfold strings_Join
  have e : Go.Lib.join (o.map (·.data.toList)) (⟨#[]⟩ : ByteArray).data.toList = (o.map dat).flatten := join_flat _
  rw [e, tot_flat]
  have := wsum_len o
  have := tot_le o
  rw [if_pos ⟨by omega, by omega⟩]
theorem know_unfold (a_ : ByteArray) (l : List know_Edit) : know_Patch a_ l = (Option.bind (know_checkBody a_) fun x3 => if (x3 != 0) = true then some ((⟨#[]⟩ : ByteArray), x3) else
    Option.bind (know_lines a_) fun x8 => Option.bind (rangeB (bodyK x8 l) l.length 0 (([] : (List ByteArray)), 0)) fun o14 => o14.andThen (fun y => some y) fun s15 =>
    Option.bind (sliceL x8 (some s15.2) none) fun x103 => Option.bind (appendL 8796093022208 s15.1 x103) fun x106 =>
    Option.bind (rangeB (endK x106) x106.length 0 0) fun o112 => o112.andThen (fun y => some y) fun s113 =>
    if ((decide ((20000 : Int) < s113)) || (decide ((2000 : Int) < (x106.length : Int)))) = true then some ((⟨#[]⟩ : ByteArray), 4) else
      Option.bind (strings_Join x106 (⟨#[]⟩ : ByteArray)) fun x145 => some (x145, 0)) := rfl
theorem ref_unfold (a_ : ByteArray) (l : List know_Edit) : portref2_PatchOf a_ l = (Option.bind (portref2_bodyFault a_) fun x3 => if (x3 != 0) = true then some ((⟨#[]⟩ : ByteArray), x3) else
    Option.bind (portref2_bodyLines a_) fun x8 => Option.bind (rangeB (bodyR x8 l) l.length 0 (([] : (List ByteArray)), 0)) fun o14 => o14.andThen (fun y => some y) fun s15 =>
    Option.bind (sliceL x8 (some s15.2) none) fun x172 => Option.bind (appendL 8796093022208 s15.1 x172) fun x175 =>
    Option.bind (rangeB (endR x175) x175.length 0 ()) fun o181 => o181.andThen (fun y => some y) fun s182 =>
    Option.bind (strings_Join x175 (⟨#[]⟩ : ByteArray)) fun x211 => Option.bind (portref2_bodyFault x211) fun x215 => if (x215 != 0) = true then some ((⟨#[]⟩ : ByteArray), 4) else some (x211, 0)) := rfl
theorem body_ok (s : ByteArray) (h : s.size ≤ 4000000000) : ∃ x8, know_lines s = some x8 ∧ x8.map dat = linesL (dat s) ∧ know_checkBody s = some (if 20000 < s.size ∨ 2000 < x8.length then 4 else 0) := by
  obtain ⟨x8, h1, h2⟩ := lines_val s h
  refine ⟨x8, h1, h2, ?_⟩
  unfold know_checkBody
  rw [h1]
  by_cases c1 : 20000 < s.size
  · rw [if_pos (by rw [decide_eq_true_eq]; omega), if_pos (.inl c1)]
    rfl
  · rw [if_neg (by rw [decide_eq_true_eq]; omega)]
    simp only [Option.bind_some]
    by_cases c2 : 2000 < x8.length
    · rw [if_pos (by rw [decide_eq_true_eq]; omega), if_pos (.inr c2)]
    · rw [if_neg (by rw [decide_eq_true_eq]; omega), if_neg (by omega)]
theorem patch_same (a : ByteArray) (l : List know_Edit) (hl : l.length ≤ 10000000000) (ha : a.size ≤ 4000000000) (hb : adds l ≤ 4000000) : ∃ r, know_Patch a l = some r ∧ portref2_PatchOf a l = some r := by
  rw [know_unfold, ref_unfold, fault_same, lines_same]
  obtain ⟨x8, h1, h2, h3⟩ := body_ok a ha
  rw [h3, h1]
  simp only [Option.bind_some]
  by_cases c : 20000 < a.size ∨ 2000 < x8.length
  · rw [if_pos c, if_pos (by decide)]
    exact ⟨_, rfl, rfl⟩
  rw [if_neg c, if_neg (by decide), if_neg (by decide)]
  have hx8 : x8.length ≤ 2000 := by omega
  obtain ⟨hli, hfl⟩ := lines_isLine (dat a)
  have hline : ∀ y ∈ x8, isLine (dat y) := fun y hy => hli _ (by rw [← h2]; exact List.mem_map_of_mem hy)
  have hw8 : wsum x8 ≤ 22000 := by
    have e1 : wsum x8 = tot x8 + x8.length := by
      clear h1 h2 h3 c hx8 hline
      induction x8 with
      | nil => rfl
      | cons x r ih => simp only [wsum, tot, List.map_cons, List.sum_cons, List.length_cons] at ih ⊢; omega
    have e2 := tot_flat x8
    rw [h2, hfl, ← size_dat] at e2
    omega
  rcases loops x8 l hx8 hline (by omega) hl with ⟨r, k1, k2, _⟩ | ⟨t, _, k1, k2, rfl, hI⟩
  · rw [k1, k2]
    exact ⟨_, rfl, rfl⟩
  rw [k1, k2]
  simp only [Option.bind_some, Lp.andThen_fin]
  obtain ⟨⟨p, hp, hple, hw⟩, hln, _, _⟩ := hI
  rw [List.take_length] at hw
  have hout : wsum (t.1 ++ x8.drop p) ≤ 8000000 := by
    have : wsum x8 = wsum (x8.take p) + wsum (x8.drop p) := by
      conv => lhs; rw [← List.take_append_drop p x8, wsum_app]
    rw [wsum_app]
    omega
  have hlen := wsum_len (t.1 ++ x8.drop p)
  have hap := append_ok t.1 (x8.drop p) (by rw [List.length_append] at hlen; omega)
  simp only [hp, sliceL_from x8 p hple, Option.bind_some, hap]
  clear hap
  have hlo : ∀ y ∈ t.1 ++ x8.drop p, isLine (dat y) := by
    intro y hy
    rcases List.mem_append.1 hy with hy | hy
    · exact hln y hy
    · exact hline y (List.mem_of_mem_drop hy)
  generalize t.1 ++ x8.drop p = o at hout hlen hlo
  rcases ends o hout with ⟨r, k1, k2, _⟩ | ⟨z, _, k1, k2, rfl, hf⟩
  · rw [k1, k2]
    exact ⟨_, rfl, rfl⟩
  rw [k1, k2, join_val o hout]
  simp only [Option.bind_some, Lp.andThen_fin]
  have hz : (⟨(o.map dat).flatten.toArray⟩ : ByteArray).size = tot o := by
    rw [size_dat]
    show ((o.map dat).flatten.toArray.toList).length = _
    rw [List.toList_toArray, tot_flat]
  have htl := tot_le o
  obtain ⟨y8, g1, g2, g3⟩ := body_ok ⟨(o.map dat).flatten.toArray⟩ (by rw [hz]; omega)
  have g2 : y8.map dat = linesL (o.map dat).flatten := g2
  rw [lines_join (o.map dat) (fun x hx => by
    obtain ⟨y, hy, rfl⟩ := List.mem_map.1 hx
    exact hlo y hy) (fun i x hi hx => by
    rw [List.getElem?_map] at hx
    rw [List.length_map] at hi
    obtain ⟨y, hy, rfl⟩ := Option.map_eq_some_iff.1 hx
    exact feed_line (hlo y (List.mem_of_getElem? hy)) (hf i y (by omega) hi hy))] at g2
  have g4 : y8.length = o.length := by
    have := congrArg List.length g2
    simpa using this
  rw [fault_same, g3, hz, g4, List.take_length, Option.bind_some]
  by_cases c : 20000 < tot o ∨ 2000 < o.length
  · rw [if_pos c, if_pos (by rw [Bool.or_eq_true, decide_eq_true_eq, decide_eq_true_eq]; omega), if_pos (by decide)]
    exact ⟨_, rfl, rfl⟩
  · rw [if_neg c, if_neg (by rw [Bool.or_eq_true, decide_eq_true_eq, decide_eq_true_eq]; omega), if_neg (by decide)]
    exact ⟨_, rfl, rfl⟩
theorem adds_bulk : ∀ l : List know_Edit, adds l + l.length ≤ (l.map fun e : know_Edit => 1 + (1 + ((e.add.map fun s => s.size + 1).sum + 1))).sum
  | [] => by simp [adds]
  | x :: l => by
    have := adds_bulk l
    simp only [adds, wsum, List.map_cons, List.sum_cons, List.length_cons] at this ⊢
    omega
theorem patches_true (a : ByteArray) (l : List know_Edit) (hb : (a.size + 1) + ((l.map fun e : know_Edit => 1 + (1 + ((e.add.map fun s => s.size + 1).sum + 1))).sum + 1) ≤ 1048576) : portlaw2_KnowPatches a l = some true := by
  have h1 := adds_bulk l
  obtain ⟨r, e1, e2⟩ := patch_same a l (by omega) (by omega) (by omega)
  unfold portlaw2_KnowPatches
  rw [e1, e2]
  simp only [Option.bind_some]
  have : strEq r.1 r.1 = true := by unfold strEq; simp
  rw [this]
  simp
end Go.Proofs.YtcokjipcmpfgbaaDoor.M
