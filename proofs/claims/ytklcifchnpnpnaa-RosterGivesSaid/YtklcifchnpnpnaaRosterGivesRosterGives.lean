/-
  Roster and its reference agree: plain part. What a person has and how many slots they sum to is read off the duties that were given.
-/
import Derived.Test.YtklcifchnpnpnaaRosterGivesRosBase
namespace Go.Proofs.Ytklcifchnpnpnaa.M
open Go Go.Pu
set_option linter.unusedSimpArgs false
set_option linter.unusedVariables false

theorem equal_duty (l : List staff_Duty) : slices_Equal_Lstaff_Duty_staff_Duty l l = some true := by
  unfold slices_Equal_Lstaff_Duty_staff_Duty
  simp only [bne_self_eq_false, Bool.false_eq_true, if_false]
  obtain ⟨t, h, _⟩ := rangeB_inv (R := Bool) (b := fun k9 (_ : Unit) => Option.bind (idx l (k9 : Int)) fun x29 => Option.bind (idx l (k9 : Int)) fun x34 => if (!(x29.form == x34.form && (x29.person == x34.person))) = true then some (.rt false) else some (.nx ())) l.length (fun _ _ => True) (s := ()) trivial
    (fun k s hk _ => by rw [idx_lt _ _ hk]; simp)
  rw [h]
  rfl

theorem rangeB_congr {S R : Type} {b b' : Nat → S → Option (Ctl S R)} : ∀ (m k : Nat) (s : S), (∀ j s, k ≤ j → j < k + m → b j s = b' j s) → rangeB b m k s = rangeB b' m k s
  | 0, _, _, _ => rfl
  | m + 1, k, s, h => by
    rw [rangeB, rangeB, h k s (Nat.le_refl _) (by omega)]
    rcases b' k s with _ | (s' | s' | r) <;> simp only
    exact rangeB_congr m (k + 1) s' fun j s hj hj2 => h j s (by omega) (by omega)

theorem index_gen {α : Type} (s : List α) (f : α → Option Bool) (q : α → Bool) (h : ∀ x ∈ s, f x = some (q x)) :
    rangeB (R := Int) (fun k (_ : Unit) => Option.bind (idx s (k : Int)) fun x => Option.bind (f x) fun b => if b = true then some (.rt (k : Int)) else some (.nx ())) s.length 0 () = rangeB (R := Int) (fun k (_ : Unit) => Option.bind (idx s (k : Int)) fun x => Option.bind (some (q x)) fun b => if b = true then some (.rt (k : Int)) else some (.nx ())) s.length 0 () := by
  refine rangeB_congr _ _ _ fun j _ _ hj => ?_
  rw [idx_lt s j (by omega)]
  simp only [Option.bind_some]
  rw [h _ (List.getElem_mem _)]
  rfl

theorem contains_form (s : List staff_Form) (f : staff_Form → Option Bool) (q : staff_Form → Bool) (h : ∀ x ∈ s, f x = some (q x)) : slices_ContainsFunc_Lstaff_Form_staff_Form s f = some (s.any q) := by
  unfold slices_ContainsFunc_Lstaff_Form_staff_Form slices_IndexFunc_Lstaff_Form_staff_Form
  rw [index_gen s f q h, rangeB_index, ← findIdx_any]
  cases s.findIdx? q <;> rfl
theorem contains_duty (s : List staff_Duty) (f : staff_Duty → Option Bool) (q : staff_Duty → Bool) (h : ∀ x ∈ s, f x = some (q x)) : slices_ContainsFunc_Lstaff_Duty_staff_Duty s f = some (s.any q) := by
  unfold slices_ContainsFunc_Lstaff_Duty_staff_Duty slices_IndexFunc_Lstaff_Duty_staff_Duty
  rw [index_gen s f q h, rangeB_index, ← findIdx_any]
  cases s.findIdx? q <;> rfl

/-- a loop whose states are known -/
theorem while_known {S R : Type} {body : S → Option (Ctl S R)} (n : Nat) (st : Nat → S) {t : S} (h : ∀ k, k < n → body (st k) = some (.nx (st (k + 1)))) (he : body (st n) = some (.bk t)) : whileB body (st 0) = some (.fin t) := by
  refine whileB_iff.2 ⟨n + 1, ?_⟩
  have key : ∀ m k, k + m = n → whileN body (m + 1) (st k) = some (.fin t) := by
    intro m
    induction m with
    | zero =>
      intro k hk
      obtain rfl : k = n := by omega
      rw [whileN, he]
    | succ m ih =>
      intro k hk
      rw [whileN, h k (by omega)]
      exact ih (k + 1) (by omega)
  exact key n 0 (by omega)

def fo (forms : List staff_Form) (x : staff_Duty) : staff_Form := (forms[x.form.toNat]?).getD ⟨0, 0⟩
def hasOf (forms : List staff_Form) (g : List staff_Duty) (q : Int) : List staff_Form := (g.filter fun x => x.person == q).map (fo forms)
def sumOf (forms : List staff_Form) (g : List staff_Duty) (q : Int) : Int := ((g.filter fun x => x.person == q).map fun x => (fo forms x).slots).sum
def apB (a b : staff_Form) (rest : Int) : Bool := (decide ((w64 ((w64 (a.from_ + a.slots)) + rest)) ≤ b.from_)) || (decide ((w64 ((w64 (b.from_ + b.slots)) + rest)) ≤ a.from_))
def fit (forms : List staff_Form) (g : List staff_Duty) (f : staff_Form) (r : staff_Rules) (p : Nat) : Bool := decide (sumOf forms g (p + 1) + f.slots ≤ r.most) && !((hasOf forms g (p + 1)).any fun x => !apB x f r.rest_)
def bst (forms : List staff_Form) (g : List staff_Duty) (f : staff_Form) (r : staff_Rules) : Nat → Int
  | 0 => -1
  | k + 1 => if (fit forms g f r k && (decide (bst forms g f r k < 0) || decide (sumOf forms g (k + 1) < sumOf forms g (bst forms g f r k + 1)))) = true then (k : Int) else bst forms g f r k
def hs (forms : List staff_Form) (g : List staff_Duty) (n : Nat) : List (List staff_Form) := (List.range n).map fun (p : Nat) => hasOf forms g ((p : Int) + 1)
def ss (forms : List staff_Form) (g : List staff_Duty) (n : Nat) : List Int := (List.range n).map fun (p : Nat) => sumOf forms g ((p : Int) + 1)
/-- every duty has its form; nobody has more slots than there are -/
def Good (forms : List staff_Form) (g : List staff_Duty) : Prop := (∀ x ∈ g, idx forms x.form = some (fo forms x) ∧ FormOk (fo forms x)) ∧ ∀ q, 0 ≤ sumOf forms g q ∧ sumOf forms g q ≤ 400

theorem bst_bound (forms : List staff_Form) (g : List staff_Duty) (f : staff_Form) (r : staff_Rules) : ∀ k, -1 ≤ bst forms g f r k ∧ bst forms g f r k < (k : Int)
  | 0 => ⟨Int.le_refl _, by simp [bst]⟩
  | k + 1 => by
    have := bst_bound forms g f r k
    rw [bst]
    split <;> omega

theorem idx_hs (forms : List staff_Form) (g : List staff_Duty) (n p : Nat) (h : p < n) : idx (hs forms g n) (p : Int) = some (hasOf forms g ((p : Int) + 1)) := by
  rw [idx_nat]; simp [hs, h]
theorem idx_ss (forms : List staff_Form) (g : List staff_Duty) (n p : Nat) (h : p < n) : idx (ss forms g n) (p : Int) = some (sumOf forms g ((p : Int) + 1)) := by
  rw [idx_nat]; simp [ss, h]
theorem idx_ssI (forms : List staff_Form) (g : List staff_Duty) (n : Nat) (b : Int) (h0 : 0 ≤ b) (h : b < (n : Int)) : idx (ss forms g n) b = some (sumOf forms g (b + 1)) := by
  obtain ⟨p, rfl⟩ := Int.eq_ofNat_of_zero_le h0
  exact idx_ss forms g n p (by omega)
theorem idx_hsI (forms : List staff_Form) (g : List staff_Duty) (n : Nat) (b : Int) (h0 : 0 ≤ b) (h : b < (n : Int)) : idx (hs forms g n) b = some (hasOf forms g (b + 1)) := by
  obtain ⟨p, rfl⟩ := Int.eq_ofNat_of_zero_le h0
  exact idx_hs forms g n p (by omega)

/-- the search of Roster -/
theorem best_one (forms : List staff_Form) (g : List staff_Duty) (f : staff_Form) (r : staff_Rules) (n : Nat) (hn : r.people = (n : Int)) (hn6 : n ≤ 60) (hf : FormOk f) (hg : Good forms g) :
    whileB (R := Empty) (fun (s199 : Int × Int) => if (decide (s199.2 < r.people)) = true then Option.bind (Option.bind (idx (ss forms g n) s199.2) fun x219 => Option.bind (if (decide ((w64 (x219 + f.slots)) ≤ r.most)) = true then (Option.bind (idx (hs forms g n) s199.2) fun x228 => Option.bind (slices_ContainsFunc_Lstaff_Form_staff_Form x228 (fun y236 => staff_Roster_1 y236 f r)) fun x237 => some (!x237)) else (some false)) fun s227 => Option.bind (if s227 = true then (Option.bind (if (decide (s199.1 < 0)) = true then (some true) else (Option.bind (idx (ss forms g n) s199.1) fun x257 => some (decide (x219 < x257)))) fun s252 => some s252) else (some false)) fun s250 => Option.bind (if s250 = true then some s199.2 else some s199.1) fun s266 => some s266) fun s212 => some (.nx (s212, w64 (s199.2 + 1))) else some (.bk (s199.1, s199.2))) ((-1), 0)
      = some (.fin (bst forms g f r n, (n : Int))) := by
  refine while_known n (fun k => (bst forms g f r k, (k : Int))) (fun k hk => ?_) ?_
  · have e1 : decide ((k : Int) < r.people) = true := by rw [hn]; simp; omega
    have hs1 := hg.2 ((k : Int) + 1)
    have hw : w64 (sumOf forms g ((k : Int) + 1) + f.slots) = sumOf forms g ((k : Int) + 1) + f.slots := by obtain ⟨_, _, _, h4⟩ := hf; exact w64_id (by omega) (by omega)
    have hw2 : w64 ((k : Int) + 1) = ((k + 1 : Nat) : Int) := by rw [w64_id (by omega) (by omega)]; omega
    have hc : slices_ContainsFunc_Lstaff_Form_staff_Form (hasOf forms g ((k : Int) + 1)) (fun y236 => staff_Roster_1 y236 f r) = some ((hasOf forms g ((k : Int) + 1)).any fun x => !apB x f r.rest_) := contains_form _ _ _ fun x _ => rfl
    have hb := bst_bound forms g f r k
    simp only [e1, if_true, idx_ss forms g n k hk, idx_hs forms g n k hk, hw, hw2, Option.bind_some, hc]
    rw [bst]
    unfold fit
    by_cases h1 : sumOf forms g ((k : Int) + 1) + f.slots ≤ r.most
    · simp only [h1, decide_true, if_true, Option.bind_some, Bool.true_and]
      cases h2 : (hasOf forms g ((k : Int) + 1)).any fun x => !apB x f r.rest_
      · simp only [Bool.not_false, if_true, Bool.true_and]
        by_cases h3 : bst forms g f r k < 0
        · simp [h3]
        · rw [idx_ssI forms g n _ (by omega) (by omega)]
          by_cases h4 : sumOf forms g ((k : Int) + 1) < sumOf forms g (bst forms g f r k + 1) <;> simp [h3, h4]
      · simp
    · simp [h1]
  · have e1 : decide ((n : Int) < r.people) = false := by rw [hn]; simp
    simp only [e1, Bool.false_eq_true, if_false]

theorem sumOf_cons (forms : List staff_Form) (x : staff_Duty) (g : List staff_Duty) (q : Int) : sumOf forms (x :: g) q = (if x.person = q then (fo forms x).slots else 0) + sumOf forms g q := by
  unfold sumOf
  by_cases h : x.person = q
  · simp [h]
  · simp [h]
theorem sumOf_snoc (forms : List staff_Form) (x : staff_Duty) (g : List staff_Duty) (q : Int) : sumOf forms (g ++ [x]) q = sumOf forms g q + (if x.person = q then (fo forms x).slots else 0) := by
  unfold sumOf
  by_cases h : x.person = q
  · simp [h]
  · simp [h]
theorem hasOf_snoc (forms : List staff_Form) (x : staff_Duty) (g : List staff_Duty) (q : Int) : hasOf forms (g ++ [x]) q = hasOf forms g q ++ (if x.person = q then [fo forms x] else []) := by
  unfold hasOf
  by_cases h : x.person = q
  · simp [h]
  · simp [h]

/-- the reference's sum -/
theorem slots_val (forms : List staff_Form) (g : List staff_Duty) (q : Int) (hg : Good forms g) : portref2_RosterOf_1 q g forms = some (sumOf forms g q) := by
  unfold portref2_RosterOf_1
  rw [rangeB_forL g (fun _ (x35 : staff_Duty) s14 => if x35.person = q then some (.nx (w64 (s14 + (fo forms x35).slots))) else some (.nx s14)) (R := Int)]
  · have key : ∀ (l : List staff_Duty) (k : Nat) (s : Int), (∀ x ∈ l, FormOk (fo forms x)) → 0 ≤ s → s + sumOf forms l q ≤ 400 → forL (R := Int) (fun _ (x35 : staff_Duty) s14 => if x35.person = q then some (.nx (w64 (s14 + (fo forms x35).slots))) else some (.nx s14)) l k s = some (.fin (s + sumOf forms l q)) ∧ 0 ≤ sumOf forms l q := by
      intro l
      induction l with
      | nil => intro k s _ _ _; simp [forL, sumOf]
      | cons x l ih =>
        intro k s hok h0 h4
        rw [sumOf_cons] at h4 ⊢
        have hx := hok x (List.mem_cons_self ..)
        obtain ⟨_, _, x3, x4⟩ := hx
        have hrest := fun y hy => hok y (List.mem_cons_of_mem _ hy)
        have nn : ∀ l : List staff_Duty, (∀ y ∈ l, FormOk (fo forms y)) → 0 ≤ sumOf forms l q := by
          intro l
          induction l with
          | nil => intro _; simp [sumOf]
          | cons y l ih2 =>
            intro h
            rw [sumOf_cons]
            have h1 := ih2 fun z hz => h z (List.mem_cons_of_mem _ hz)
            obtain ⟨_, _, y3, _⟩ := h y (List.mem_cons_self ..)
            split <;> omega
        have hnn := nn l hrest
        rw [forL]
        by_cases hp : x.person = q
        · simp only [hp, if_true] at h4 ⊢
          have hw : w64 (s + (fo forms x).slots) = s + (fo forms x).slots := w64_id (by omega) (by omega)
          rw [hw]
          obtain ⟨e1, e2⟩ := ih (k + 1) (s + (fo forms x).slots) hrest (by omega) (by omega)
          rw [e1]
          exact ⟨by congr 2; omega, by omega⟩
        · simp only [hp, if_false] at h4 ⊢
          obtain ⟨e1, e2⟩ := ih (k + 1) s hrest h0 (by omega)
          rw [e1]
          exact ⟨by congr 2; omega, by omega⟩
    have := hg.2 q
    rw [(key g 0 0 (fun x hx => (hg.1 x hx).2) (Int.le_refl _) (by omega)).1]
    simp [Lp.andThen]
  · intro k s x hx
    have hm := (hg.1 x (List.mem_of_getElem? hx)).1
    rw [idx_nat, hx]
    simp only [Option.bind_some]
    by_cases h : x.person = q
    · simp [h, hm]
    · simp [h]

/-- the search of the reference -/
theorem best_two (forms : List staff_Form) (g : List staff_Duty) (f : staff_Form) (r : staff_Rules) (n : Nat) (hn : r.people = (n : Int)) (hn6 : n ≤ 60) (hf : FormOk f) (hg : Good forms g) :
    whileB (R := Empty) (fun (s198 : Int × Int) => if (decide (s198.2 ≤ r.people)) = true then Option.bind (Option.bind (slices_ContainsFunc_Lstaff_Duty_staff_Duty g (fun y220 => portref2_RosterOf_2 y220 s198.2 forms f r)) fun x221 => Option.bind (if (!x221) = true then (Option.bind (portref2_RosterOf_1 s198.2 g forms) fun x235 => some (decide ((w64 (x235 + f.slots)) ≤ r.most))) else (some false)) fun s234 => Option.bind (if s234 = true then (Option.bind (if (s198.1 == 0) = true then (some true) else (Option.bind (portref2_RosterOf_1 s198.2 g forms) fun x242 => Option.bind (portref2_RosterOf_1 s198.1 g forms) fun x243 => some (decide (x242 < x243)))) fun s241 => some s241) else (some false)) fun s239 => Option.bind (if s239 = true then some s198.2 else some s198.1) fun s248 => some s248) fun s213 => some (.nx (s213, w64 (s198.2 + 1))) else some (.bk (s198.1, s198.2))) (0, 1)
      = some (.fin (bst forms g f r n + 1, (n : Int) + 1)) := by
  refine while_known n (fun k => (bst forms g f r k + 1, (k : Int) + 1)) (fun k hk => ?_) ?_
  · have e1 : decide ((k : Int) + 1 ≤ r.people) = true := by rw [hn]; simp; omega
    have hs1 := hg.2 ((k : Int) + 1)
    have hw : w64 (sumOf forms g ((k : Int) + 1) + f.slots) = sumOf forms g ((k : Int) + 1) + f.slots := by obtain ⟨_, _, _, h4⟩ := hf; exact w64_id (by omega) (by omega)
    have hw2 : w64 ((k : Int) + 1 + 1) = ((k + 1 : Nat) : Int) + 1 := by rw [w64_id (by omega) (by omega)]; omega
    have hc : slices_ContainsFunc_Lstaff_Duty_staff_Duty g (fun y220 => portref2_RosterOf_2 y220 ((k : Int) + 1) forms f r) = some ((hasOf forms g ((k : Int) + 1)).any fun x => !apB x f r.rest_) := by
      rw [contains_duty g _ (fun x => (x.person == ((k : Int) + 1)) && !apB (fo forms x) f r.rest_) fun x hx => ?_]
      · unfold hasOf
        rw [List.any_map, List.any_filter]
        rfl
      · unfold portref2_RosterOf_2
        by_cases h : x.person = (k : Int) + 1
        · rw [(hg.1 x hx).1]
          simp [h, portref2_apart, apB]
        · simp [h]
    have hb := bst_bound forms g f r k
    simp only [e1, if_true, slots_val forms g _ hg, hw, hw2, Option.bind_some, hc]
    rw [bst]
    unfold fit
    cases h2 : (hasOf forms g ((k : Int) + 1)).any fun x => !apB x f r.rest_
    · simp only [Bool.not_false, if_true, Option.bind_some, Bool.and_true]
      by_cases h1 : sumOf forms g ((k : Int) + 1) + f.slots ≤ r.most
      · simp only [h1, decide_true, if_true, Option.bind_some, Bool.true_and]
        by_cases h3 : bst forms g f r k < 0
        · have h5 : bst forms g f r k + 1 = 0 := by omega
          simp [h3, h5]
        · have h5 : ¬ bst forms g f r k + 1 = 0 := by omega
          by_cases h4 : sumOf forms g ((k : Int) + 1) < sumOf forms g (bst forms g f r k + 1) <;> simp [h3, h4, h5]
      · simp [h1]
    · simp
  · have e1 : decide ((n : Int) + 1 ≤ r.people) = false := by rw [hn]; simp; omega
    simp only [e1, Bool.false_eq_true, if_false]
theorem bst_fit (forms : List staff_Form) (g : List staff_Duty) (f : staff_Form) (r : staff_Rules) : ∀ k, 0 ≤ bst forms g f r k → sumOf forms g (bst forms g f r k + 1) + f.slots ≤ r.most
  | 0, h => by simp [bst] at h
  | k + 1, h => by
    rw [bst] at h ⊢
    split
    · rename_i h1
      simp only [fit, Bool.and_eq_true, decide_eq_true_eq] at h1
      exact h1.1.1
    · rename_i h1
      rw [if_neg h1] at h
      exact bst_fit forms g f r k h

theorem setI_in {α : Type} (l : List α) (b : Int) (x : α) (h0 : 0 ≤ b) (h : b < (l.length : Int)) : setI l b x = some (l.set b.toNat x) := by
  unfold setI
  rw [if_pos (by omega)]

theorem hs_set (forms : List staff_Form) (g : List staff_Duty) (n : Nat) (x : staff_Duty) (b : Int) (h0 : 0 ≤ b) (h : b < (n : Int)) (hx : x.person = b + 1) :
    setI (hs forms g n) b (hasOf forms g (b + 1) ++ [fo forms x]) = some (hs forms (g ++ [x]) n) := by
  rw [setI_in _ _ _ h0 (by simpa [hs] using h)]
  congr 1
  apply List.ext_getElem?
  intro p
  rw [List.getElem?_set]
  by_cases hp : b.toNat = p
  · have hb : b = (p : Int) := by omega
    have hpn : p < n := by omega
    simp only [hp, if_true]
    have : p < (hs forms g n).length := by simpa [hs] using hpn
    rw [if_pos this]
    simp [hs, hpn, hasOf_snoc, hx, hb]
  · rw [if_neg hp]
    by_cases hpn : p < n
    · have : ¬ b = (p : Int) := by omega
      simp [hs, hpn, hasOf_snoc, hx, this]
    · simp [hs, hpn]
theorem ss_set (forms : List staff_Form) (g : List staff_Duty) (n : Nat) (x : staff_Duty) (b : Int) (h0 : 0 ≤ b) (h : b < (n : Int)) (hx : x.person = b + 1) :
    setI (ss forms g n) b (sumOf forms g (b + 1) + (fo forms x).slots) = some (ss forms (g ++ [x]) n) := by
  rw [setI_in _ _ _ h0 (by simpa [ss] using h)]
  congr 1
  apply List.ext_getElem?
  intro p
  rw [List.getElem?_set]
  by_cases hp : b.toNat = p
  · have hb : b = (p : Int) := by omega
    have hpn : p < n := by omega
    simp only [hp, if_true]
    have : p < (ss forms g n).length := by simpa [ss] using hpn
    rw [if_pos this]
    simp [ss, hpn, sumOf_snoc, hx, hb]
  · rw [if_neg hp]
    by_cases hpn : p < n
    · have : ¬ b = (p : Int) := by omega
      simp [ss, hpn, sumOf_snoc, hx, this]
    · simp [ss, hpn]

/-- one duty given, or left open -/
def stp (forms : List staff_Form) (r : staff_Rules) (n : Nat) (f : staff_Form) (i : Int) (t : List staff_Duty × List staff_Duty) : List staff_Duty × List staff_Duty :=
  if bst forms t.1 f r n < 0 then (t.1, t.2 ++ [⟨i, 0⟩]) else (t.1 ++ [⟨i, bst forms t.1 f r n + 1⟩], t.2)
def stps (forms : List staff_Form) (r : staff_Rules) (n : Nat) (f : staff_Form) (i : Int) (t : List staff_Duty × List staff_Duty) : Nat → List staff_Duty × List staff_Duty
  | 0 => t
  | k + 1 => stp forms r n f i (stps forms r n f i t k)

theorem fo_at {forms : List staff_Form} {i : Nat} {f : staff_Form} (hi : forms[i]? = some f) (q : Int) : fo forms ⟨(i : Int), q⟩ = f := by
  unfold fo
  simp [hi]

theorem stp_good (forms : List staff_Form) (r : staff_Rules) (n : Nat) (f : staff_Form) (i : Nat) (t : List staff_Duty × List staff_Duty) (hi : forms[i]? = some f) (hf : FormOk f) (hm : r.most ≤ 400) (hg : Good forms t.1) :
    Good forms (stp forms r n f i t).1 ∧ (stp forms r n f i t).1.length + (stp forms r n f i t).2.length = t.1.length + t.2.length + 1 := by
  unfold stp
  by_cases h : bst forms t.1 f r n < 0
  · rw [if_pos h]
    exact ⟨hg, by simp; omega⟩
  · rw [if_neg h]
    have hfit := bst_fit forms t.1 f r n (by omega)
    refine ⟨⟨fun x hx => ?_, fun q => ?_⟩, by simp; omega⟩
    · rcases List.mem_append.1 hx with hx | hx
      · exact hg.1 x hx
      · simp only [List.mem_singleton] at hx
        subst hx
        rw [fo_at hi]
        exact ⟨by rw [idx_nat]; exact hi, hf⟩
    · rw [sumOf_snoc]
      have := hg.2 q
      obtain ⟨_, _, f3, _⟩ := hf
      split
      · rename_i hq
        simp only at hq
        rw [fo_at hi]
        subst hq
        omega
      · omega

theorem stps_good (forms : List staff_Form) (r : staff_Rules) (n : Nat) (f : staff_Form) (i : Nat) (t : List staff_Duty × List staff_Duty) (hi : forms[i]? = some f) (hf : FormOk f) (hm : r.most ≤ 400) (hg : Good forms t.1) :
    ∀ k, Good forms (stps forms r n f i t k).1 ∧ (stps forms r n f i t k).1.length + (stps forms r n f i t k).2.length = t.1.length + t.2.length + k
  | 0 => ⟨hg, rfl⟩
  | k + 1 => by
    have h1 := stps_good forms r n f i t hi hf hm hg k
    have h2 := stp_good forms r n f i (stps forms r n f i t k) hi hf hm h1.1
    rw [stps]
    exact ⟨h2.1, by omega⟩

theorem hasOf_len (forms : List staff_Form) (g : List staff_Duty) (q : Int) : (hasOf forms g q).length ≤ g.length := by
  unfold hasOf
  rw [List.length_map]
  exact List.length_filter_le _ _

theorem mid_one (forms : List staff_Form) (r : staff_Rules) (n : Nat) (hn : r.people = (n : Int)) (hn6 : n ≤ 60) (hm : r.most ≤ 400) (k68 : Nat) (x119 : staff_Form) (hi : forms[k68]? = some x119) (hf : FormOk x119) (x132 : Int) (hc0 : 0 ≤ x132) (hc6 : x132 ≤ 60)
    (t : List staff_Duty × List staff_Duty) (hg : Good forms t.1) (hl : t.1.length + t.2.length ≤ 3600) :
    whileB (R := Empty) (fun (s153 : List (List staff_Form) × List Int × List staff_Duty × List staff_Duty × Int) => if (decide (s153.2.2.2.2 < x132)) = true then Option.bind (Option.bind (whileB (R := Empty) (fun s199 => if (decide (s199.2 < r.people)) = true then Option.bind (Option.bind (idx s153.2.1 s199.2) fun x219 => Option.bind (if (decide ((w64 (x219 + x119.slots)) ≤ r.most)) = true then (Option.bind (idx s153.1 s199.2) fun x228 => Option.bind (slices_ContainsFunc_Lstaff_Form_staff_Form x228 (fun y236 => staff_Roster_1 y236 x119 r)) fun x237 => some (!x237)) else (some false)) fun s227 => Option.bind (if s227 = true then (Option.bind (if (decide (s199.1 < 0)) = true then (some true) else (Option.bind (idx s153.2.1 s199.1) fun x257 => some (decide (x219 < x257)))) fun s252 => some s252) else (some false)) fun s250 => Option.bind (if s250 = true then some s199.2 else some s199.1) fun s266 => some s266) fun s212 => some (.nx (s212, w64 (s199.2 + 1))) else some (.bk (s199.1, s199.2))) ((-1), 0)) fun o190 => o190.andThen (fun y => y.elim) fun s191 => if (decide (s191.1 < 0)) = true then Option.bind (appendL 8796093022208 s153.2.2.2.1 ([(⟨(k68 : Int), 0⟩ : staff_Duty)] : List staff_Duty)) fun x284 => some (s153.1, s153.2.1, s153.2.2.1, x284) else Option.bind (idx s153.1 s191.1) fun x296 => Option.bind (appendL 8796093022208 x296 ([x119] : List staff_Form)) fun x310 => Option.bind (setI s153.1 s191.1 x310) fun x320 => Option.bind (idx s153.2.1 s191.1) fun x324 => Option.bind (setI s153.2.1 s191.1 (w64 (x324 + x119.slots))) fun x337 => Option.bind (appendL 8796093022208 s153.2.2.1 ([(⟨(k68 : Int), w64 (s191.1 + 1)⟩ : staff_Duty)] : List staff_Duty)) fun x346 => some (x320, x337, x346, s153.2.2.2.1)) fun s174 => some (.nx (s174.1, s174.2.1, s174.2.2.1, s174.2.2.2, w64 (s153.2.2.2.2 + 1))) else some (.bk (s153.1, s153.2.1, s153.2.2.1, s153.2.2.2.1, s153.2.2.2.2))) (hs forms t.1 n, ss forms t.1 n, t.1, t.2, 0)
      = some (.fin (hs forms (stps forms r n x119 k68 t x132.toNat).1 n, ss forms (stps forms r n x119 k68 t x132.toNat).1 n, (stps forms r n x119 k68 t x132.toNat).1, (stps forms r n x119 k68 t x132.toNat).2, x132)) := by
  refine while_known x132.toNat (fun k => (hs forms (stps forms r n x119 k68 t k).1 n, ss forms (stps forms r n x119 k68 t k).1 n, (stps forms r n x119 k68 t k).1, (stps forms r n x119 k68 t k).2, (k : Int))) (fun k hk => ?_) ?_
  · obtain ⟨g1, g2⟩ := stps_good forms r n x119 k68 t hi hf hm hg k
    have e1 : decide ((k : Int) < x132) = true := by simp; omega
    have hw2 : w64 ((k : Int) + 1) = ((k + 1 : Nat) : Int) := by rw [w64_id (by omega) (by omega)]; omega
    rw [stps]
    generalize stps forms r n x119 k68 t k = u at g1 g2
    obtain ⟨g, l⟩ := u
    dsimp only at g1 g2 ⊢
    rw [if_pos e1, best_one forms g x119 r n hn hn6 hf g1]
    have hb := bst_bound forms g x119 r n
    simp only [Option.bind_some, Lp.andThen_fin, hw2]
    unfold stp
    by_cases h : bst forms g x119 r n < 0
    · have happ : appendL 8796093022208 l [(⟨(k68 : Int), 0⟩ : staff_Duty)] = some (l ++ [⟨(k68 : Int), 0⟩]) := by
        unfold appendL
        rw [if_pos (by simp; omega)]
      simp only [h, decide_true, if_true, happ, Option.bind_some]
    · have hlen := hasOf_len forms g (bst forms g x119 r n + 1)
      have happ : appendL 8796093022208 (hasOf forms g (bst forms g x119 r n + 1)) [x119] = some (hasOf forms g (bst forms g x119 r n + 1) ++ [x119]) := by
        unfold appendL
        rw [if_pos (by simp; omega)]
      have happ2 : appendL 8796093022208 g [(⟨(k68 : Int), bst forms g x119 r n + 1⟩ : staff_Duty)] = some (g ++ [⟨(k68 : Int), bst forms g x119 r n + 1⟩]) := by
        unfold appendL
        rw [if_pos (by simp; omega)]
      have hsum := g1.2 (bst forms g x119 r n + 1)
      have hw : w64 (sumOf forms g (bst forms g x119 r n + 1) + x119.slots) = sumOf forms g (bst forms g x119 r n + 1) + x119.slots := by obtain ⟨_, _, _, h4⟩ := hf; exact w64_id (by omega) (by omega)
      have hw3 : w64 (bst forms g x119 r n + 1) = bst forms g x119 r n + 1 := w64_id (by omega) (by omega)
      have h1 := hs_set forms g n ⟨(k68 : Int), bst forms g x119 r n + 1⟩ (bst forms g x119 r n) (by omega) (by omega) rfl
      have h2 := ss_set forms g n ⟨(k68 : Int), bst forms g x119 r n + 1⟩ (bst forms g x119 r n) (by omega) (by omega) rfl
      rw [fo_at hi] at h1 h2
      simp only [h, decide_false, Bool.false_eq_true, if_false, idx_hsI forms g n _ (by omega) hb.2, idx_ssI forms g n _ (by omega) hb.2, Option.bind_some, happ, h1, hw, h2, hw3, happ2]
  · have e1 : decide (((x132.toNat : Nat) : Int) < x132) = false := by simp; omega
    have e2 : ((x132.toNat : Nat) : Int) = x132 := by omega
    dsimp only
    rw [if_neg (by rw [e1]; decide), e2]

theorem mid_two (forms : List staff_Form) (r : staff_Rules) (n : Nat) (hn : r.people = (n : Int)) (hn6 : n ≤ 60) (hm : r.most ≤ 400) (k83 : Nat) (x122 : staff_Form) (hi : forms[k83]? = some x122) (hf : FormOk x122) (x135 : Int) (hc0 : 0 ≤ x135) (hc6 : x135 ≤ 60)
    (t : List staff_Duty × List staff_Duty) (hg : Good forms t.1) (hl : t.1.length + t.2.length ≤ 3600) :
    whileB (R := Empty) (fun (s152 : List staff_Duty × Int × List staff_Duty) => if (decide (s152.2.1 < x135)) = true then Option.bind (Option.bind (whileB (R := Empty) (fun s198 => if (decide (s198.2 ≤ r.people)) = true then Option.bind (Option.bind (slices_ContainsFunc_Lstaff_Duty_staff_Duty s152.2.2 (fun y220 => portref2_RosterOf_2 y220 s198.2 forms x122 r)) fun x221 => Option.bind (if (!x221) = true then (Option.bind (portref2_RosterOf_1 s198.2 s152.2.2 forms) fun x235 => some (decide ((w64 (x235 + x122.slots)) ≤ r.most))) else (some false)) fun s234 => Option.bind (if s234 = true then (Option.bind (if (s198.1 == 0) = true then (some true) else (Option.bind (portref2_RosterOf_1 s198.2 s152.2.2 forms) fun x242 => Option.bind (portref2_RosterOf_1 s198.1 s152.2.2 forms) fun x243 => some (decide (x242 < x243)))) fun s241 => some s241) else (some false)) fun s239 => Option.bind (if s239 = true then some s198.2 else some s198.1) fun s248 => some s248) fun s213 => some (.nx (s213, w64 (s198.2 + 1))) else some (.bk (s198.1, s198.2))) (0, 1)) fun o188 => o188.andThen (fun y => y.elim) fun s189 => Option.bind (if (s189.1 == 0) = true then Option.bind (appendL 8796093022208 s152.1 ([(⟨(k83 : Int), 0⟩ : staff_Duty)] : List staff_Duty)) fun x289 => some (x289, s152.2.2) else Option.bind (appendL 8796093022208 s152.2.2 ([(⟨(k83 : Int), s189.1⟩ : staff_Duty)] : List staff_Duty)) fun x301 => some (s152.1, x301)) fun s272 => some (s272.1, s272.2)) fun s169 => some (.nx (s169.1, w64 (s152.2.1 + 1), s169.2)) else some (.bk (s152.1, s152.2.1, s152.2.2))) (t.2, 0, t.1)
      = some (.fin ((stps forms r n x122 k83 t x135.toNat).2, x135, (stps forms r n x122 k83 t x135.toNat).1)) := by
  refine while_known x135.toNat (fun k => ((stps forms r n x122 k83 t k).2, (k : Int), (stps forms r n x122 k83 t k).1)) (fun k hk => ?_) ?_
  · obtain ⟨g1, g2⟩ := stps_good forms r n x122 k83 t hi hf hm hg k
    have e1 : decide ((k : Int) < x135) = true := by simp; omega
    have hw2 : w64 ((k : Int) + 1) = ((k + 1 : Nat) : Int) := by rw [w64_id (by omega) (by omega)]; omega
    rw [stps]
    generalize stps forms r n x122 k83 t k = u at g1 g2
    obtain ⟨g, l⟩ := u
    dsimp only at g1 g2 ⊢
    rw [if_pos e1, best_two forms g x122 r n hn hn6 hf g1]
    have hb := bst_bound forms g x122 r n
    simp only [Option.bind_some, Lp.andThen_fin, hw2]
    unfold stp
    by_cases h : bst forms g x122 r n < 0
    · have h5 : (bst forms g x122 r n + 1 == 0) = true := by simp; omega
      have happ : appendL 8796093022208 l [(⟨(k83 : Int), 0⟩ : staff_Duty)] = some (l ++ [⟨(k83 : Int), 0⟩]) := by
        unfold appendL
        rw [if_pos (by simp; omega)]
      simp only [h, h5, if_true, happ, Option.bind_some]
    · have h5 : (bst forms g x122 r n + 1 == 0) = false := by simp; omega
      have happ2 : appendL 8796093022208 g [(⟨(k83 : Int), bst forms g x122 r n + 1⟩ : staff_Duty)] = some (g ++ [⟨(k83 : Int), bst forms g x122 r n + 1⟩]) := by
        unfold appendL
        rw [if_pos (by simp; omega)]
      simp only [h, h5, Bool.false_eq_true, if_false, happ2, Option.bind_some]
  · have e1 : decide (((x135.toNat : Nat) : Int) < x135) = false := by simp; omega
    have e2 : ((x135.toNat : Nat) : Int) = x135 := by omega
    dsimp only
    rw [if_neg (by rw [e1]; decide), e2]
theorem rules_eq (r : staff_Rules) : ∃ x, staff_CheckRules r = some x ∧ portref2_RulesFault r = some x ∧ (x = 0 → 0 ≤ r.people ∧ r.people ≤ 60 ∧ r.most ≤ 400) := by
  unfold staff_CheckRules portref2_RulesFault
  by_cases h : (0 ≤ r.people ∧ r.people ≤ 60) ∧ (0 ≤ r.rest_ ∧ r.rest_ ≤ 400) ∧ (0 ≤ r.most ∧ r.most ≤ 400)
  · have e1 : (((!(staff_within r.people 0 60)) || (!(staff_within r.rest_ 0 400))) || (!(staff_within r.most 0 400))) = false := by simp [staff_within]; omega
    have e2 : ((((((decide (r.people < 0)) || (decide ((60 : Int) < r.people))) || (decide (r.rest_ < 0))) || (decide ((400 : Int) < r.rest_))) || (decide (r.most < 0))) || (decide ((400 : Int) < r.most))) = false := by simp; omega
    simp only [e1, e2, Bool.false_eq_true, if_false]
    exact ⟨_, rfl, rfl, fun _ => by omega⟩
  · have e1 : (((!(staff_within r.people 0 60)) || (!(staff_within r.rest_ 0 400))) || (!(staff_within r.most 0 400))) = true := by simp [staff_within]; omega
    have e2 : ((((((decide (r.people < 0)) || (decide ((60 : Int) < r.people))) || (decide (r.rest_ < 0))) || (decide ((400 : Int) < r.rest_))) || (decide (r.most < 0))) || (decide ((400 : Int) < r.most))) = true := by simp; omega
    simp only [e1, e2, if_true]
    exact ⟨_, rfl, rfl, fun h => absurd h (by decide)⟩

theorem hs_nil (forms : List staff_Form) (n : Nat) : List.replicate n [] = hs forms [] n := by
  apply List.ext_getElem?
  intro p
  by_cases h : p < n <;> simp [hs, h, hasOf]
theorem ss_nil (forms : List staff_Form) (n : Nat) : List.replicate n 0 = ss forms [] n := by
  apply List.ext_getElem?
  intro p
  by_cases h : p < n <;> simp [ss, h, sumOf]

theorem roster_eq (forms : List staff_Form) (plan : List Int) (r : staff_Rules) : ∃ x, staff_Roster forms plan r = some x ∧ portref2_RosterOf forms plan r = some x := by
  unfold staff_Roster portref2_RosterOf
  obtain ⟨a, b, a1, b1, ab, _, ok⟩ := fault_eq forms plan
  obtain ⟨x, x1, x2, x3⟩ := rules_eq r
  rw [a1, b1, x1, x2, ab]
  simp only [Option.bind_some, or_err3]
  by_cases ha : a = 0
  rotate_left
  · have e : (a != 0) = true := by simpa using ha
    simp only [ne_eq, ha, not_false_iff, if_true, e]
    exact ⟨_, rfl, rfl⟩
  by_cases hb : b = 0
  rotate_left
  · have e : (b != 0) = true := by simpa using hb
    simp only [ne_eq, ha, hb, not_true, not_false_iff, if_true, if_false, e]
    exact ⟨_, rfl, rfl⟩
  by_cases hx : x = 0
  rotate_left
  · have e : (x != 0) = true := by simpa using hx
    simp only [ne_eq, ha, hb, not_true, if_true, if_false, e, bne_self_eq_false, Bool.false_eq_true]
    exact ⟨_, rfl, rfl⟩
  subst ha; subst hb; subst hx
  simp only [ne_eq, not_true, if_false, bne_self_eq_false, Bool.false_eq_true]
  obtain ⟨hforms, hlen⟩ := ok rfl
  obtain ⟨p0, p6, pm⟩ := x3 rfl
  have hplan := plan_ok b1
  have h60 := forms_len a1
  obtain ⟨t, ht, _⟩ := rangeB_inv (R := List staff_Duty × List staff_Duty × Int) (b := fun k28 s32 => Option.bind (idx plan (k28 : Int)) fun x43 => some (.nx (w64 (s32 + x43)))) plan.length (fun _ _ => True) (s := 0) trivial
    (fun k s hk _ => by rw [idx_lt _ _ hk]; exact ⟨_, rfl, trivial⟩)
  rw [ht]
  simp only [Option.bind_some, Lp.andThen_fin]
  by_cases h2 : (2000 : Int) < t
  · simp only [h2, decide_true, if_true]
    exact ⟨_, rfl, rfl⟩
  simp only [h2, decide_false, Bool.false_eq_true, if_false]
  have hm1 : makeL 11728124029610 r.people ([] : List staff_Form) = some (hs forms [] r.people.toNat) := by
    unfold makeL
    rw [if_pos (by omega), hs_nil]
  have hm2 : makeL 35184372088832 r.people (0 : Int) = some (ss forms [] r.people.toNat) := by
    unfold makeL
    rw [if_pos (by omega), ss_nil]
  rw [hm1, hm2]
  simp only [Option.bind_some]
  have hn : r.people = (r.people.toNat : Int) := by omega
  have hn6 : r.people.toNat ≤ 60 := by omega
  generalize r.people.toNat = n at hn hn6
  have sim := rangeB_sim (R := List staff_Duty × List staff_Duty × Int) forms.length
    (b := fun k68 (s82 : List (List staff_Form) × List Int × List staff_Duty × List staff_Duty) => Option.bind (Option.bind (idx forms (k68 : Int)) fun x119 => Option.bind (idx plan (k68 : Int)) fun x132 => Option.bind (whileB (R := Empty) (fun s153 => if (decide (s153.2.2.2.2 < x132)) = true then Option.bind (Option.bind (whileB (R := Empty) (fun s199 => if (decide (s199.2 < r.people)) = true then Option.bind (Option.bind (idx s153.2.1 s199.2) fun x219 => Option.bind (if (decide ((w64 (x219 + x119.slots)) ≤ r.most)) = true then (Option.bind (idx s153.1 s199.2) fun x228 => Option.bind (slices_ContainsFunc_Lstaff_Form_staff_Form x228 (fun y236 => staff_Roster_1 y236 x119 r)) fun x237 => some (!x237)) else (some false)) fun s227 => Option.bind (if s227 = true then (Option.bind (if (decide (s199.1 < 0)) = true then (some true) else (Option.bind (idx s153.2.1 s199.1) fun x257 => some (decide (x219 < x257)))) fun s252 => some s252) else (some false)) fun s250 => Option.bind (if s250 = true then some s199.2 else some s199.1) fun s266 => some s266) fun s212 => some (.nx (s212, w64 (s199.2 + 1))) else some (.bk (s199.1, s199.2))) ((-1), 0)) fun o190 => o190.andThen (fun y => y.elim) fun s191 => if (decide (s191.1 < 0)) = true then Option.bind (appendL 8796093022208 s153.2.2.2.1 ([(⟨(k68 : Int), 0⟩ : staff_Duty)] : List staff_Duty)) fun x284 => some (s153.1, s153.2.1, s153.2.2.1, x284) else Option.bind (idx s153.1 s191.1) fun x296 => Option.bind (appendL 8796093022208 x296 ([x119] : List staff_Form)) fun x310 => Option.bind (setI s153.1 s191.1 x310) fun x320 => Option.bind (idx s153.2.1 s191.1) fun x324 => Option.bind (setI s153.2.1 s191.1 (w64 (x324 + x119.slots))) fun x337 => Option.bind (appendL 8796093022208 s153.2.2.1 ([(⟨(k68 : Int), w64 (s191.1 + 1)⟩ : staff_Duty)] : List staff_Duty)) fun x346 => some (x320, x337, x346, s153.2.2.2.1)) fun s174 => some (.nx (s174.1, s174.2.1, s174.2.2.1, s174.2.2.2, w64 (s153.2.2.2.2 + 1))) else some (.bk (s153.1, s153.2.1, s153.2.2.1, s153.2.2.2.1, s153.2.2.2.2))) (s82.1, s82.2.1, s82.2.2.1, s82.2.2.2, 0)) fun o136 => o136.andThen (fun y => y.elim) fun s137 => some (s137.1, s137.2.1, s137.2.2.1, s137.2.2.2.1)) fun s104 => some (.nx (s104.1, s104.2.1, s104.2.2.1, s104.2.2.2)))
    (b' := fun k83 (s93 : List staff_Duty × List staff_Duty) => Option.bind (Option.bind (idx forms (k83 : Int)) fun x122 => Option.bind (idx plan (k83 : Int)) fun x135 => Option.bind (whileB (R := Empty) (fun s152 => if (decide (s152.2.1 < x135)) = true then Option.bind (Option.bind (whileB (R := Empty) (fun s198 => if (decide (s198.2 ≤ r.people)) = true then Option.bind (Option.bind (slices_ContainsFunc_Lstaff_Duty_staff_Duty s152.2.2 (fun y220 => portref2_RosterOf_2 y220 s198.2 forms x122 r)) fun x221 => Option.bind (if (!x221) = true then (Option.bind (portref2_RosterOf_1 s198.2 s152.2.2 forms) fun x235 => some (decide ((w64 (x235 + x122.slots)) ≤ r.most))) else (some false)) fun s234 => Option.bind (if s234 = true then (Option.bind (if (s198.1 == 0) = true then (some true) else (Option.bind (portref2_RosterOf_1 s198.2 s152.2.2 forms) fun x242 => Option.bind (portref2_RosterOf_1 s198.1 s152.2.2 forms) fun x243 => some (decide (x242 < x243)))) fun s241 => some s241) else (some false)) fun s239 => Option.bind (if s239 = true then some s198.2 else some s198.1) fun s248 => some s248) fun s213 => some (.nx (s213, w64 (s198.2 + 1))) else some (.bk (s198.1, s198.2))) (0, 1)) fun o188 => o188.andThen (fun y => y.elim) fun s189 => Option.bind (if (s189.1 == 0) = true then Option.bind (appendL 8796093022208 s152.1 ([(⟨(k83 : Int), 0⟩ : staff_Duty)] : List staff_Duty)) fun x289 => some (x289, s152.2.2) else Option.bind (appendL 8796093022208 s152.2.2 ([(⟨(k83 : Int), s189.1⟩ : staff_Duty)] : List staff_Duty)) fun x301 => some (s152.1, x301)) fun s272 => some (s272.1, s272.2)) fun s169 => some (.nx (s169.1, w64 (s152.2.1 + 1), s169.2)) else some (.bk (s152.1, s152.2.1, s152.2.2))) (s93.1, 0, s93.2)) fun o139 => o139.andThen (fun y => y.elim) fun s140 => some (s140.1, s140.2.2)) fun s111 => some (.nx (s111.1, s111.2)))
    (s := (hs forms [] n, ss forms [] n, [], [])) (s' := ([], [])) (fun _ => True)
    (fun k s s' => ∃ g l, s = (hs forms g n, ss forms g n, g, l) ∧ s' = (l, g) ∧ Good forms g ∧ g.length + l.length ≤ 60 * k)
    ⟨[], [], rfl, rfl, ⟨fun x hx => by simp at hx, fun q => by simp [sumOf]⟩, by simp⟩ ?_
  · rcases sim with ⟨q, e1, e2, _⟩ | ⟨u, u', e1, e2, g, l, rfl, rfl, _, _⟩
    · rw [e1, e2]
      exact ⟨q, rfl, rfl⟩
    · rw [e1, e2]
      exact ⟨_, rfl, rfl⟩
  · rintro k _ _ hk ⟨g, l, rfl, rfl, hg, hl⟩
    have hfk : idx forms (k : Int) = some forms[k] := idx_lt forms k hk
    have hf1 : forms[k]? = some forms[k] := List.getElem?_eq_getElem hk
    have hfo := hforms _ (List.getElem_mem hk)
    generalize forms[k] = f at hfk hf1 hfo
    have hpk : idx plan (k : Int) = some plan[k] := idx_lt plan k (by omega)
    have hpo := hplan _ (List.getElem_mem (by omega : k < plan.length))
    generalize plan[k] = c at hpk hpo
    have hst := stps_good forms r n f k (g, l) hf1 hfo pm hg c.toNat
    refine .inr ⟨(hs forms (stps forms r n f k (g, l) c.toNat).1 n, ss forms (stps forms r n f k (g, l) c.toNat).1 n, (stps forms r n f k (g, l) c.toNat).1, (stps forms r n f k (g, l) c.toNat).2), ((stps forms r n f k (g, l) c.toNat).2, (stps forms r n f k (g, l) c.toNat).1), ?_, ?_, _, _, rfl, rfl, hst.1, ?_⟩
    · simp only [hfk, hpk, Option.bind_some]
      rw [mid_one forms r n hn hn6 pm k f hf1 hfo c hpo.1 hpo.2 (g, l) hg (by dsimp only; omega)]
      rfl
    · simp only [hfk, hpk, Option.bind_some]
      rw [mid_two forms r n hn hn6 pm k f hf1 hfo c hpo.1 hpo.2 (g, l) hg (by dsimp only; omega)]
      rfl
    · have := hst.2
      dsimp only at this
      omega

theorem gives_true (forms : List staff_Form) (plan : List Int) (r : staff_Rules) : portlaw2_RosterGives forms plan r = some true := by
  obtain ⟨x, h1, h2⟩ := roster_eq forms plan r
  obtain ⟨y, y1, y2, _⟩ := rules_eq r
  unfold portlaw2_RosterGives
  rw [h1, h2]
  simp [equal_duty, y1, y2]
end Go.Proofs.Ytklcifchnpnpnaa.M
