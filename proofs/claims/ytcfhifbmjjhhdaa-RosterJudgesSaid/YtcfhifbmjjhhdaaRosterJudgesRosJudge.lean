/-
  Judge's loop: plain part.
-/
import Derived.Test.YtcfhifbmjjhhdaaRosterJudgesRosForm
import Derived.Test.YtcfhifbmjjhhdaaRosterJudgesCmpBase
import Derived.Test.YtcfhifbmjjhhdaaRosterJudgesMapBase
import Derived.Test.YtcfhifbmjjhhdaaRosterJudgesRngBase
namespace Go.Proofs.Ytcfhifbmjjhhdaa.M
open Go Go.Pu
set_option linter.unusedSimpArgs false
set_option linter.unusedVariables false

def du (l : List staff_Duty) (i : Nat) : staff_Duty := (l[i]?).getD ⟨0, 0⟩
theorem du_at {l : List staff_Duty} {i : Nat} (h : i < l.length) : l[i]? = some (du l i) := by
  unfold du; rw [List.getElem?_eq_getElem h]; rfl
def fo (forms : List staff_Form) (x : staff_Duty) : staff_Form := (forms[x.form.toNat]?).getD ⟨0, 0⟩
def okF (forms : List staff_Form) (x : staff_Duty) : Bool := staff_within x.form 0 ((forms.length : Int) - 1)
def okP (r : staff_Rules) (x : staff_Duty) : Bool := staff_within x.person 1 r.people
def okD (forms : List staff_Form) (r : staff_Rules) (x : staff_Duty) : Bool := okF forms x && okP r x
theorem okF_iff {forms : List staff_Form} {x : staff_Duty} : okF forms x = true ↔ 0 ≤ x.form ∧ x.form < forms.length := by
  unfold okF staff_within; simp; omega
theorem okP_iff {r : staff_Rules} {x : staff_Duty} : okP r x = true ↔ 1 ≤ x.person ∧ x.person ≤ r.people := by
  unfold okP staff_within; simp
theorem fo_at {forms : List staff_Form} {x : staff_Duty} (h : okF forms x = true) : idx forms x.form = some (fo forms x) := by
  obtain ⟨h0, h1⟩ := okF_iff.1 h
  unfold idx fo
  rw [if_pos h0, List.getElem?_eq_getElem (by omega)]
  rfl
def apB (a b : staff_Form) (rest : Int) : Bool := (decide ((w64 ((w64 (a.from_ + a.slots)) + rest)) ≤ b.from_)) || (decide ((w64 ((w64 (b.from_ + b.slots)) + rest)) ≤ a.from_))
theorem apB_comm (a b : staff_Form) (rest : Int) : apB a b rest = apB b a rest := Bool.or_comm _ _
section
variable (forms : List staff_Form) (r : staff_Rules) (l : List staff_Duty)
def mnC (p : Int) (i : Nat) : Bool := okD forms r (du l i) && ((du l i).person == p)
def sm (p : Int) : Nat → Int
  | 0 => 0
  | k + 1 => sm p k + if mnC forms r l p k then (fo forms (du l k)).slots else 0
def mn (p : Int) (k : Nat) : List Int := rng (fun i => if mnC forms r l p i then [(i : Int)] else []) k
def near (k i : Nat) : Bool := !(apB (fo forms (du l k)) (fo forms (du l i)) r.rest_)
def prs (k i : Nat) : List staff_Breach := if (okD forms r (du l k) && okD forms r (du l i) && ((du l k).person == (du l i).person) && near forms r l k i) = true then [⟨3, (k : Int), (i : Int)⟩] else []
def tm (i : Nat) : List staff_Breach := if (okD forms r (du l i) && decide (sm forms r l (du l i).person i ≤ r.most) && decide (r.most < sm forms r l (du l i).person (i + 1))) = true then [⟨4, (i : Int), -1⟩] else []
def hd (i : Nat) : List staff_Breach := (if (!(okF forms (du l i))) = true then [⟨1, (i : Int), -1⟩] else []) ++ (if (!(okP r (du l i))) = true then [⟨2, (i : Int), -1⟩] else [])
def outJ (i : Nat) : List staff_Breach := hd forms r l i ++ rng (fun k => prs forms r l k i) i ++ tm forms r l i
def outR (n i : Nat) : List staff_Breach := hd forms r l i ++ rng (fun k => if i < k then prs forms r l i k else []) n ++ tm forms r l i
end
section
variable {forms : List staff_Form} {r : staff_Rules} {l : List staff_Duty}
theorem prs_len (k i : Nat) : (prs forms r l k i).length ≤ 1 := by unfold prs; split <;> simp
theorem tm_len (i : Nat) : (tm forms r l i).length ≤ 1 := by unfold tm; split <;> simp
theorem hd_len (i : Nat) : (hd forms r l i).length ≤ 2 := by unfold hd; rw [List.length_append]; split <;> split <;> simp
theorem outJ_len (i : Nat) (h : i ≤ 2000) : (outJ forms r l i).length ≤ 2003 := by
  unfold outJ
  rw [List.length_append, List.length_append]
  have h1 := hd_len (forms := forms) (r := r) (l := l) i
  have h2 := rng_len (f := fun k => prs forms r l k i) 1 i (fun k _ => prs_len k i)
  have h3 := tm_len (forms := forms) (r := r) (l := l) i
  omega
theorem outR_len (n i : Nat) (h : n ≤ 2000) : (outR forms r l n i).length ≤ 2003 := by
  unfold outR
  rw [List.length_append, List.length_append]
  have h1 := hd_len (forms := forms) (r := r) (l := l) i
  have h2 := rng_len (f := fun k => if i < k then prs forms r l i k else []) 1 n (fun k _ => by split; exact prs_len i k; simp)
  have h3 := tm_len (forms := forms) (r := r) (l := l) i
  omega
theorem okD_form (hf : ∀ f ∈ forms, FormOk f) {x : staff_Duty} (h : okD forms r x = true) : FormOk (fo forms x) := by
  unfold okD at h
  rw [Bool.and_eq_true] at h
  exact hf _ (idx_mem (fo_at h.1))
theorem sm_bound (hf : ∀ f ∈ forms, FormOk f) (p : Int) : ∀ k, 0 ≤ sm forms r l p k ∧ sm forms r l p k ≤ 400 * (k : Int)
  | 0 => by simp [sm]
  | k + 1 => by
    have h1 := sm_bound hf p k
    rw [sm]
    by_cases h : mnC forms r l p k = true
    · have h2 : okD forms r (du l k) = true := by unfold mnC at h; rw [Bool.and_eq_true] at h; exact h.1
      obtain ⟨a1, a2, a3, a4⟩ := okD_form hf h2
      rw [if_pos h]; omega
    · rw [if_neg h]; omega
theorem sm_mono (hf : ∀ f ∈ forms, FormOk f) (p : Int) (k : Nat) : sm forms r l p k ≤ sm forms r l p (k + 1) := by
  rw [sm]
  by_cases h : mnC forms r l p k = true
  · have h2 : okD forms r (du l k) = true := by unfold mnC at h; rw [Bool.and_eq_true] at h; exact h.1
    obtain ⟨a1, a2, a3, a4⟩ := okD_form hf h2
    rw [if_pos h]; omega
  · rw [if_neg h]; omega
theorem mn_len (p : Int) (k : Nat) : (mn forms r l p k).length ≤ k := by
  have := rng_len (f := fun i => if mnC forms r l p i then [(i : Int)] else []) 1 k (fun i _ => by split <;> simp)
  unfold mn
  omega
theorem mn_pairs (k : Nat) (h : okD forms r (du l k) = true) : (mn forms r l (du l k).person k).flatMap (fun x => if near forms r l x.toNat k = true then [(⟨3, x, (k : Int)⟩ : staff_Breach)] else []) = rng (fun i => prs forms r l i k) k := by
  unfold mn
  rw [rng_flatMap]
  apply rng_congr
  intro i hi
  unfold prs mnC
  by_cases h1 : okD forms r (du l i) = true
  · by_cases h2 : (du l i).person = (du l k).person
    · simp [h1, h2, h]
    · simp [h1, h2]
  · simp [h1]
theorem judge_loop (hf : ∀ f ∈ forms, FormOk f) (hfl : forms.length ≤ 60) (hn : l.length ≤ 2000) (m : Nat) (hm : (m : Int) = r.people + 1) (hm6 : r.people ≤ 60) (hmost0 : 0 ≤ r.most) (hmost : r.most ≤ 400) :
    rangeB (R := List staff_Breach × Int) (fun k49 (s63 : List staff_Breach × List Int × List Bool × List (List Int)) => Option.bind (Option.bind (idx l (k49 : Int)) fun x101 => Option.bind (if (!(staff_within x101.form 0 (w64 ((forms.length : Int) - 1)))) = true then Option.bind (appendL 5864062014805 s63.1 ([(⟨1, (k49 : Int), (-1)⟩ : staff_Breach)] : List staff_Breach)) fun x133 => some x133 else some s63.1) fun s116 => Option.bind (if (!(staff_within x101.person 1 r.people)) = true then Option.bind (appendL 5864062014805 s116 ([(⟨2, (k49 : Int), (-1)⟩ : staff_Breach)] : List staff_Breach)) fun x161 => some x161 else some s116) fun s144 => if ((!(staff_within x101.form 0 (w64 ((forms.length : Int) - 1)))) || (!(staff_within x101.person 1 r.people))) = true then some (s144, s63.2.1, s63.2.2.1, s63.2.2.2) else Option.bind (idx s63.2.2.2 x101.person) fun x179 => Option.bind (rangeB (R := Empty) (fun k190 s198 => Option.bind (Option.bind (idx x179 (k190 : Int)) fun x223 => Option.bind (idx l x223) fun x228 => Option.bind (idx forms x228.form) fun x233 => Option.bind (idx forms x101.form) fun x239 => Option.bind (staff_apart x233 x239 r.rest_) fun x245 => Option.bind (if (!x245) = true then Option.bind (appendL 5864062014805 s198 ([(⟨3, x223, (k49 : Int)⟩ : staff_Breach)] : List staff_Breach)) fun x266 => some x266 else some s198) fun s250 => some s250) fun s214 => some (.nx s214)) x179.length 0 s144) fun o187 => o187.andThen (fun y => y.elim) fun s188 => Option.bind (appendL 17592186044416 x179 ([(k49 : Int)] : List Int)) fun x298 => Option.bind (setI s63.2.2.2 x101.person x298) fun x308 => Option.bind (idx s63.2.1 x101.person) fun x313 => Option.bind (idx forms x101.form) fun x319 => Option.bind (setI s63.2.1 x101.person (w64 (x313 + x319.slots))) fun x331 => Option.bind (idx x331 x101.person) fun x336 => Option.bind (if (decide (r.most < x336)) = true then (Option.bind (idx s63.2.2.1 x101.person) fun x345 => some (!x345)) else (some false)) fun s343 => Option.bind (if s343 = true then Option.bind (idx s63.2.2.1 x101.person) fun x367 => Option.bind (setI s63.2.2.1 x101.person true) fun x372 => Option.bind (appendL 5864062014805 s188 ([(⟨4, (k49 : Int), (-1)⟩ : staff_Breach)] : List staff_Breach)) fun x383 => some (x383, x372) else some (s188, s63.2.2.1)) fun s354 => some (s354.1, x331, s354.2, x308)) fun s86 => some (.nx (s86.1, s86.2.1, s86.2.2.1, s86.2.2.2))) l.length 0 (([] : (List staff_Breach)), tab (fun _ => 0) m, tab (fun _ => false) m, tab (fun _ => []) m)
    = some (.fin (rng (outJ forms r l) l.length, tab (fun p => sm forms r l (p : Int) l.length) m, tab (fun p => decide (r.most < sm forms r l (p : Int) l.length)) m, tab (fun p => mn forms r l (p : Int) l.length) m)) := by
  have e0 : tab (fun _ => false) m = tab (fun p => decide (r.most < sm forms r l (p : Int) 0)) m := tab_congr _ _ m fun q _ => by rw [sm]; simp; omega
  rw [e0]
  refine rangeB_known l.length (fun k => (rng (outJ forms r l) k, tab (fun p => sm forms r l (p : Int) k) m, tab (fun p => decide (r.most < sm forms r l (p : Int) k)) m, tab (fun p => mn forms r l (p : Int) k) m)) (fun k hk => ?_)
  dsimp only
  have hlen : (rng (outJ forms r l) k).length ≤ 2000 * 2003 := Nat.le_trans (rng_len 2003 k fun i hi => outJ_len i (by omega)) (Nat.mul_le_mul_right _ (by omega))
  have hhd := hd_len (forms := forms) (r := r) (l := l) k
  have hw1 : w64 ((forms.length : Int) - 1) = (forms.length : Int) - 1 := w64_id (by omega) (by omega)
  rw [idx_nat, du_at hk, Option.bind_some, hw1, appIf _ _ _ _ _ (by omega), appIf _ _ _ _ _ (by rw [List.length_append]; split <;> simp <;> omega)]
  rw [List.append_assoc]
  have hhde : ((if (!(staff_within (du l k).form 0 ((forms.length : Int) - 1))) = true then [(⟨1, (k : Int), -1⟩ : staff_Breach)] else []) ++ (if (!(staff_within (du l k).person 1 r.people)) = true then [(⟨2, (k : Int), -1⟩ : staff_Breach)] else [])) = hd forms r l k := rfl
  have hF' : staff_within (du l k).form 0 ((forms.length : Int) - 1) = okF forms (du l k) := rfl
  have hP' : staff_within (du l k).person 1 r.people = okP r (du l k) := rfl
  rw [hhde, hF', hP']
  have hout : rng (outJ forms r l) (k + 1) = rng (outJ forms r l) k ++ hd forms r l k ++ rng (fun i => prs forms r l i k) k ++ tm forms r l k := by
    rw [rng, outJ, List.append_assoc, List.append_assoc, List.append_assoc]
  by_cases hok : okD forms r (du l k) = true
  rotate_left
  · have h1 : ((!(okF forms (du l k))) || (!(okP r (du l k)))) = true := by unfold okD at hok; simpa [Bool.or_eq_true, Classical.or_iff_not_imp_left] using hok
    rw [if_pos h1]
    have hmn : ∀ p, mnC forms r l p k = false := fun p => by unfold mnC; simp [hok]
    have a1 : rng (fun i => prs forms r l i k) k = [] := rng_nil k fun i _ => by unfold prs; simp [hok]
    have a2 : tm forms r l k = [] := by unfold tm; simp [hok]
    rw [hout, a1, a2, List.append_nil, List.append_nil]
    simp only [Option.bind_some, sm, hmn, Bool.false_eq_true, if_false, Int.add_zero, mn, rng, List.append_nil]
  · have hokF : okF forms (du l k) = true := by unfold okD at hok; rw [Bool.and_eq_true] at hok; exact hok.1
    have hokP : okP r (du l k) = true := by unfold okD at hok; rw [Bool.and_eq_true] at hok; exact hok.2
    rw [if_neg (by rw [hokF, hokP]; decide)]
    obtain ⟨p1, p2⟩ := okP_iff.1 hokP
    obtain ⟨P, hP⟩ : ∃ P : Nat, (du l k).person = (P : Int) := ⟨(du l k).person.toNat, by omega⟩
    have hPm : P < m := by omega
    have hin := rangeB_map (R := Empty) (mn forms r l (du l k).person k) (fun x => if near forms r l x.toNat k = true then [(⟨3, x, (k : Int)⟩ : staff_Breach)] else []) 5864062014805
      (fun k190 s198 => Option.bind (Option.bind (idx (mn forms r l (du l k).person k) (k190 : Int)) fun x223 => Option.bind (idx l x223) fun x228 => Option.bind (idx forms x228.form) fun x233 => Option.bind (idx forms (du l k).form) fun x239 => Option.bind (staff_apart x233 x239 r.rest_) fun x245 => Option.bind (if (!x245) = true then Option.bind (appendL 5864062014805 s198 ([(⟨3, x223, (k : Int)⟩ : staff_Breach)] : List staff_Breach)) fun x266 => some x266 else some s198) fun s250 => some s250) fun s214 => some (.nx s214))
      (fun j x s hx hs => by
        obtain ⟨i, hi, hxi⟩ := rng_mem (List.mem_of_getElem? hx)
        split at hxi
        · rename_i hc
          simp only [List.mem_singleton] at hxi
          subst hxi
          unfold mnC at hc
          rw [Bool.and_eq_true] at hc
          have hFi : okF forms (du l i) = true := by have := hc.1; unfold okD at this; rw [Bool.and_eq_true] at this; exact this.1
          have hap : staff_apart (fo forms (du l i)) (fo forms (du l k)) r.rest_ = some (apB (fo forms (du l i)) (fo forms (du l k)) r.rest_) := rfl
          rw [idx_nat, hx]
          simp only [Option.bind_some, idx_nat, du_at (show i < l.length by omega), fo_at hFi, fo_at hokF, hap]
          unfold near at hs ⊢
          rw [Int.toNat_natCast] at hs ⊢
          cases hb : apB (fo forms (du l i)) (fo forms (du l k)) r.rest_ with
          | true => simp
          | false =>
            rw [hb] at hs
            simp at hs
            simp [appendL, show s.length + 1 ≤ 5864062014805 by omega]
        · simp at hxi)
    have hml := mn_len (forms := forms) (r := r) (l := l) (du l k).person k
    have hpl := rng_len (f := fun i => prs forms r l i k) 1 k (fun i _ => prs_len i k)
    have hin2 := hin (rng (outJ forms r l) k ++ hd forms r l k) (by rw [mn_pairs k hok, List.length_append]; omega)
    rw [mn_pairs k hok] at hin2
    have hmc : mnC forms r l (P : Int) k = true := by unfold mnC; rw [hok, hP]; simp
    have hmo : ∀ q : Nat, q ≠ P → mnC forms r l (q : Int) k = false := fun q hq => by unfold mnC; rw [hok, hP]; simp; omega
    have hsk : sm forms r l (P : Int) (k + 1) = sm forms r l (P : Int) k + (fo forms (du l k)).slots := by rw [sm, if_pos hmc]
    have hso : ∀ q : Nat, q ≠ P → sm forms r l (q : Int) (k + 1) = sm forms r l (q : Int) k := fun q hq => by rw [sm, if_neg (by rw [hmo q hq]; decide)]; omega
    have hmk : mn forms r l (P : Int) (k + 1) = mn forms r l (P : Int) k ++ [(k : Int)] := by unfold mn; rw [rng, if_pos hmc]
    have hmoq : ∀ q : Nat, q ≠ P → mn forms r l (q : Int) (k + 1) = mn forms r l (q : Int) k := fun q hq => by unfold mn; rw [rng, if_neg (by rw [hmo q hq]; decide), List.append_nil]
    have hb1 := sm_bound (forms := forms) (r := r) (l := l) hf (P : Int) k
    have hb2 := sm_bound (forms := forms) (r := r) (l := l) hf (P : Int) (k + 1)
    have hbm := sm_mono (forms := forms) (r := r) (l := l) hf (P : Int) k
    have hsw : w64 (sm forms r l (P : Int) k + (fo forms (du l k)).slots) = sm forms r l (P : Int) (k + 1) := by rw [hsk]; exact w64_id (by omega) (by omega)
    have t1 : setI (tab (fun p : Nat => mn forms r l (p : Int) k) m) (P : Int) (mn forms r l (P : Int) k ++ [(k : Int)]) = some (tab (fun p : Nat => mn forms r l (p : Int) (k + 1)) m) := tab_set _ _ _ _ _ hPm hmk.symm (fun q _ hq => (hmoq q hq).symm)
    have t2 : setI (tab (fun p : Nat => sm forms r l (p : Int) k) m) (P : Int) (sm forms r l (P : Int) (k + 1)) = some (tab (fun p : Nat => sm forms r l (p : Int) (k + 1)) m) := tab_set _ _ _ _ _ hPm rfl (fun q _ hq => (hso q hq).symm)
    have hap2 : appendL 17592186044416 (mn forms r l (P : Int) k) [(k : Int)] = some (mn forms r l (P : Int) k ++ [(k : Int)]) := by rw [appendL, if_pos]; rw [hP] at hml; simp; omega
    have htm : tm forms r l k = if (decide (sm forms r l (P : Int) k ≤ r.most) && decide (r.most < sm forms r l (P : Int) (k + 1))) = true then [⟨4, (k : Int), -1⟩] else [] := by unfold tm; rw [hok, hP, Bool.true_and]
    rw [hP] at hin2
    rw [hP, tab_idx _ m P hPm, Option.bind_some, hin2, Option.bind_some, Lp.andThen_fin]
    simp only [tab_idx _ m P hPm, Option.bind_some, hap2, t1, fo_at hokF, hsw, t2]
    rw [hout, htm]
    have hl2 : (rng (outJ forms r l) k ++ hd forms r l k ++ rng (fun i => prs forms r l i k) k).length < 5864062014805 := by rw [List.length_append, List.length_append]; omega
    by_cases c1 : r.most < sm forms r l (P : Int) (k + 1)
    · by_cases c2 : r.most < sm forms r l (P : Int) k
      · have c3 : ¬ sm forms r l (P : Int) k ≤ r.most := by omega
        have t3 : tab (fun p : Nat => decide (r.most < sm forms r l (p : Int) k)) m = tab (fun p : Nat => decide (r.most < sm forms r l (p : Int) (k + 1))) m := tab_congr _ _ m fun q _ => by
          by_cases hq : q = P
          · subst hq; simp [c1, c2]
          · rw [hso q hq]
        simp [c1, c2, c3, t3]
      · have c3 : sm forms r l (P : Int) k ≤ r.most := by omega
        have t3 : setI (tab (fun p : Nat => decide (r.most < sm forms r l (p : Int) k)) m) (P : Int) true = some (tab (fun p : Nat => decide (r.most < sm forms r l (p : Int) (k + 1))) m) := tab_set _ _ _ _ _ hPm (by simp [c1]) (fun q _ hq => by rw [hso q hq])
        have hap3 : appendL 5864062014805 (rng (outJ forms r l) k ++ hd forms r l k ++ rng (fun i => prs forms r l i k) k) [(⟨4, (k : Int), -1⟩ : staff_Breach)] = some (rng (outJ forms r l) k ++ hd forms r l k ++ rng (fun i => prs forms r l i k) k ++ [(⟨4, (k : Int), -1⟩ : staff_Breach)]) := by rw [appendL, if_pos]; simp only [List.length_singleton]; omega
        simp only [c1, c2, c3, decide_true, decide_false, if_true, Option.bind_some, Bool.not_false, t3, hap3, Bool.and_self]
    · have c2 : ¬ r.most < sm forms r l (P : Int) k := by omega
      have t3 : tab (fun p : Nat => decide (r.most < sm forms r l (p : Int) k)) m = tab (fun p : Nat => decide (r.most < sm forms r l (p : Int) (k + 1))) m := tab_congr _ _ m fun q _ => by
        by_cases hq : q = P
        · subst hq; simp [c1, c2]
        · rw [hso q hq]
      simp [c1, t3]
end
end Go.Proofs.Ytcfhifbmjjhhdaa.M
