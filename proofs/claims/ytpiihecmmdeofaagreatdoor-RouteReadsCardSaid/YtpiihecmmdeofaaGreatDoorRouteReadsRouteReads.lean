/-
  ReadPeople and its document agree: plain part.
-/
import Derived.Test.YtpiihecmmdeofaaGreatDoorRouteReadsPeopleDoc
import Derived.Test.YtpiihecmmdeofaaGreatDoorRouteReadsRouteBase
namespace Go.Proofs.YtpiihecmmdeofaaGreatDoor.M
open Go Go.Pu
set_option linter.unusedSimpArgs false
set_option linter.unusedVariables false

/-- what the lines make -/
def goR (t : List UInt8) : List (List UInt8) → Nat → List route_Person → Sum Nat (List route_Person)
  | [], k, acc => if t = [] then .inr acc else .inl (k + 1)
  | u :: us, k, acc => match perW (spl 32 u) with
    | none => .inl (k + 1)
    | some p => goR t us (k + 1) (acc ++ [p])
theorem code_loop (t : List UInt8) (ht : noFeed t) : ∀ (us : List (List UInt8)) (k : Nat) (acc : List route_Person), (∀ u ∈ us, noFeed u) → (flt us t).length + k ≤ 400000 → acc.length ≤ k →
    ∃ q, whileB (R := (List route_Person) × Int × Int) (fun s13 : ByteArray × List route_Person × Int => if (!(strEq s13.1 (⟨#[]⟩ : ByteArray))) = true then Option.bind (strings_Cut s13.1 (⟨#[10]⟩ : ByteArray)) fun x27 => Option.bind (route_readPerson x27.1) fun x31 => if ((!x31.2) || (!x27.2.2)) = true then some (.rt (([] : (List route_Person)), s13.2.2, 8)) else Option.bind (appendL 2932031007402 s13.2.1 ([x31.1] : List route_Person)) fun x62 => some (.nx (x27.2.1, x62, w64 (s13.2.2 + 1))) else some (.bk (s13.1, s13.2.1, s13.2.2))) (tb (flt us t), acc, ((k + 1 : Nat) : Int))
      = some (match goR t us k acc with | .inl m => .rt (([] : List route_Person), (m : Int), 8) | .inr r => .fin (tb [], r, q))
  | [], k, acc, _, hl, hc => by
    have hf : flt [] t = t := rfl
    rw [hf] at hl ⊢
    rw [whileB_eq]
    have e0 : strEq (tb t) (⟨#[]⟩ : ByteArray) = decide (t = []) := tb_eq t []
    simp only [e0, goR]
    by_cases h : t = []
    · subst h
      exact ⟨((k + 1 : Nat) : Int), by simp⟩
    · refine ⟨0, ?_⟩
      have hcut : strings_Cut (tb t) (⟨#[10]⟩ : ByteArray) = some (tb (cutA 10 t), tb (cutB 10 t), decide (10 ∈ t)) := cut_val 10 t (by omega)
      have hno : (10 : UInt8) ∉ t := fun h => ht 10 h rfl
      obtain ⟨p, hp, _⟩ := person_code (cutA 10 t) (by have := cutA_len 10 t; omega)
      rw [if_neg h, if_pos (by simpa using h), hcut, Option.bind_some, hp, Option.bind_some, decide_eq_false hno, if_pos (by simp)]
      rfl
  | u :: us, k, acc, hu, hl, hc => by
    have hf : flt (u :: us) t = u ++ 10 :: flt us t := by simp [flt]
    rw [hf, List.length_append, List.length_cons] at hl
    rw [hf, whileB_eq]
    have e0 : strEq (tb (u ++ 10 :: flt us t)) (⟨#[]⟩ : ByteArray) = decide (u ++ 10 :: flt us t = []) := tb_eq _ []
    have hcut : strings_Cut (tb (u ++ 10 :: flt us t)) (⟨#[10]⟩ : ByteArray) = some (tb (cutA 10 (u ++ 10 :: flt us t)), tb (cutB 10 (u ++ 10 :: flt us t)), decide (10 ∈ u ++ 10 :: flt us t)) := cut_val 10 _ (by rw [List.length_append, List.length_cons]; omega)
    have hno : (10 : UInt8) ∉ u := fun h => hu u List.mem_cons_self 10 h rfl
    obtain ⟨c1, c2⟩ := cut_at 10 u (flt us t) hno
    have hw : w64 (((k + 1 : Nat) : Int) + 1) = ((k + 1 + 1 : Nat) : Int) := by rw [w64_id (by omega) (by omega)]; rfl
    rw [c1, c2, decide_eq_true (by simp)] at hcut
    obtain ⟨p, hp, hq⟩ := person_code u (by omega)
    simp only [e0]
    rw [if_pos (by simp), hcut, Option.bind_some, hp, Option.bind_some, goR]
    cases hr : perW (spl 32 u) with
    | none =>
      refine ⟨0, ?_⟩
      rw [if_pos (by simp)]
      rfl
    | some r =>
      obtain rfl := hq r hr
      simp only [Option.isSome_some, Bool.not_true, Bool.or_self, Bool.false_eq_true, if_false]
      rw [appendL, if_pos (by simp; omega), Option.bind_some, Option.bind_some, hw]
      exact code_loop t ht us (k + 1) (acc ++ [p]) (fun x hx => hu x (List.mem_cons_of_mem _ hx)) (by omega) (by simp; omega)
theorem ref_loop (n : Nat) (hn : n ≤ 500000) (t : List UInt8) (ht : noFeed t) : ∀ (us : List (List UInt8)) (k : Nat) (acc : List route_Person), k + us.length + 1 = n → (∀ u ∈ us, noFeed u) → (flt us t).length + k ≤ 400000 → acc.length ≤ k →
    forL (R := (List route_Person) × Int × Int) (fun (k11 : Nat) (x34 : ByteArray) (s19 : List route_Person) => if ((strEq x34 (⟨#[]⟩ : ByteArray)) && ((k11 : Int) == (((n - 1 : Nat) : Int)))) = true then some (.bk s19) else Option.bind (strings_CutSuffix x34 (⟨#[10]⟩ : ByteArray)) fun x42 => Option.bind (portref2_readPerson x42.1) fun x43 => if ((!x42.2) || (!x43.2)) = true then some (.rt (([] : (List route_Person)), w64 ((k11 : Int) + 1), 8)) else Option.bind (appendL 2932031007402 s19 ([x43.1] : List route_Person)) fun x74 => some (.nx x74)) (us.map (fun u => tb (u ++ [10])) ++ [tb t]) k acc = some (match goR t us k acc with | .inl m => .rt (([] : List route_Person), (m : Int), 8) | .inr r => .fin r)
  | [], k, acc, hk, _, hl, hc => by
    have hf : flt [] t = t := rfl
    rw [hf] at hl
    simp only [List.length_nil, Nat.add_zero] at hk
    simp only [List.map_nil, List.nil_append, goR]
    rw [forL]
    have e0 : strEq (tb t) (⟨#[]⟩ : ByteArray) = decide (t = []) := tb_eq t []
    have ek : (((k : Nat) : Int) == ((n - 1 : Nat) : Int)) = true := by rw [beq_iff_eq]; omega
    have hw : w64 ((k : Int) + 1) = ((k + 1 : Nat) : Int) := by rw [w64_id (by omega) (by omega)]; rfl
    rw [e0, ek, Bool.and_true]
    by_cases h : t = []
    · rw [if_pos (by simpa using h), if_pos h]
    · obtain ⟨p, hp, _⟩ := person_doc t (by omega)
      rw [if_neg (by simpa using h), if_neg h, suffix_none t (by omega) ht, Option.bind_some, hp, Option.bind_some, if_pos (by simp), hw]
  | u :: us, k, acc, hk, hu, hl, hc => by
    have hf : flt (u :: us) t = u ++ 10 :: flt us t := by simp [flt]
    rw [hf, List.length_append, List.length_cons] at hl
    rw [List.map_cons, List.cons_append, forL]
    have e0 : strEq (tb (u ++ [10])) (⟨#[]⟩ : ByteArray) = decide (u ++ [10] = []) := tb_eq _ []
    have hw : w64 ((k : Int) + 1) = ((k + 1 : Nat) : Int) := by rw [w64_id (by omega) (by omega)]; rfl
    obtain ⟨p, hp, hq⟩ := person_doc u (by omega)
    rw [e0, if_neg (by simp), suffix_feed u (by omega), Option.bind_some, hp, Option.bind_some, goR]
    cases hr : perW (spl 32 u) with
    | none => rw [if_pos (by simp), hw]
    | some r =>
      obtain rfl := hq r hr
      rw [if_neg (by simp), appendL, if_pos (by simp; omega), Option.bind_some]
      simp only
      exact ref_loop n hn t ht us (k + 1) (acc ++ [p]) (by rw [List.length_cons] at hk; omega) (fun x hx => hu x (List.mem_cons_of_mem _ hx)) (by omega) (by simp; omega)
/-- the names are not long -/
theorem goR_names (t : List UInt8) : ∀ (us : List (List UInt8)) (k : Nat) (acc r : List route_Person), (∀ u ∈ us, u.length ≤ 400000) → (∀ p ∈ acc, ∀ q ∈ p.skills, q.name.size ≤ 400000) → goR t us k acc = .inr r → ∀ p ∈ r, ∀ q ∈ p.skills, q.name.size ≤ 400000
  | [], k, acc, r, _, ha, h => by
    rw [goR] at h
    split at h
    · cases h; exact ha
    · cases h
  | u :: us, k, acc, r, hu, ha, h => by
    rw [goR] at h
    cases hr : perW (spl 32 u) with
    | none => rw [hr] at h; cases h
    | some p =>
      rw [hr] at h
      refine goR_names t us (k + 1) (acc ++ [p]) r (fun x hx => hu x (List.mem_cons_of_mem _ hx)) (fun x hx => ?_) h
      rcases List.mem_append.1 hx with hx | hx
      · exact ha x hx
      · obtain rfl : x = p := by simpa using hx
        have hsm := spl_small 32 u
        generalize spl 32 u = ws at hr hsm
        unfold perW at hr
        split at hr
        · split at hr
          · obtain ⟨sk, h1, rfl⟩ := Option.map_eq_some_iff.1 hr
            exact prsR_names 400000 _ sk (fun w hw => Nat.le_trans (hsm w (by simp [hw])) (hu u List.mem_cons_self)) h1
          · cases hr
        · cases hr
theorem equal_skills (l : List route_Skill) : slices_Equal_Lroute_Skill_route_Skill l l = some true := by
  unfold slices_Equal_Lroute_Skill_route_Skill
  simp only [bne_self_eq_false, Bool.false_eq_true, if_false]
  obtain ⟨t, h, _⟩ := rangeB_inv (R := Bool) (b := fun k9 (_ : Unit) => Option.bind (idx l (k9 : Int)) fun x29 => Option.bind (idx l (k9 : Int)) fun x34 => if (!(strEq x29.name x34.name && (x29.rank == x34.rank))) = true then some (.rt false) else some (.nx ())) l.length (fun _ _ => True) (s := ()) trivial
    (fun k s hk _ => by
      have he : strEq l[k].name l[k].name = true := by unfold strEq; simp
      rw [idx_lt _ _ hk]; simp [he])
  rw [h]
  rfl
theorem alike_self (l : List route_Person) : portref2_Alike l l = some true := by
  have h0 : slices_EqualFunc_Lroute_Person_Lroute_Person_route_Person_route_Person l l (fun y15 y16 => portref2_Alike_6 y15 y16) = some true := by
    unfold slices_EqualFunc_Lroute_Person_Lroute_Person_route_Person_route_Person
    simp only [bne_self_eq_false, Bool.false_eq_true, if_false]
    obtain ⟨t, h, _⟩ := rangeB_inv (R := Bool) (b := fun k9 (_ : Unit) => Option.bind (idx l (k9 : Int)) fun x29 => Option.bind (idx l (k9 : Int)) fun x47 => Option.bind (portref2_Alike_6 x29 x47) fun x71 => if (!x71) = true then some (.rt false) else some (.nx ())) l.length (fun _ _ => True) (s := ()) trivial
      (fun k s hk _ => by
        rw [idx_lt _ _ hk]
        simp [portref2_Alike_6, equal_skills])
    rw [h]
    rfl
  unfold portref2_Alike
  simp [h0]
theorem read_eq (s : ByteArray) : ∃ r, route_ReadPeople s = some r ∧ portref2_ReadPeopleOf s = some r := by
  unfold route_ReadPeople portref2_ReadPeopleOf
  by_cases hs : s.size ≤ 400000
  rotate_left
  · rw [if_pos (by simp; omega), if_pos (by simp; omega)]
    exact ⟨_, rfl, rfl⟩
  rw [if_neg (by simp; omega), if_neg (by simp; omega)]
  have hl : s.data.toList.length ≤ 400000 := hs
  rw [← tb_of s]
  generalize s.data.toList = l at hl
  obtain ⟨ls, t, h1, h2, h3, h4⟩ := cut_spec l
  obtain ⟨us, rfl, hus⟩ : ∃ us : List (List UInt8), ls = us.map (· ++ [10]) ∧ ∀ u ∈ us, noFeed u := by
    clear h1 h4
    induction ls with
    | nil => exact ⟨[], rfl, by simp⟩
    | cons x ls ih =>
      obtain ⟨us, e, hus⟩ := ih fun y hy => h3 y (List.mem_cons_of_mem _ hy)
      obtain ⟨u, hu, rfl⟩ := h3 x List.mem_cons_self
      refine ⟨u :: us, by rw [e]; rfl, fun y hy => ?_⟩
      rcases List.mem_cons.1 hy with rfl | hy
      · exact hu
      · exact hus y hy
  have hfl : l = flt us t := h4.symm
  have hsa : strings_SplitAfter (tb l) (⟨#[10]⟩ : ByteArray) = _ := after_val l (by omega)
  rw [hsa, h1, Option.bind_some]
  have hfn : ∀ us : List (List UInt8), us.length ≤ ((us.map (· ++ [10])).flatten).length ∧ ∀ u ∈ us, u.length ≤ ((us.map (· ++ [10])).flatten).length := by
    intro us
    induction us with
    | nil => simp
    | cons u us ih =>
      simp only [List.map_cons, List.flatten_cons, List.length_append, List.length_cons]
      refine ⟨by omega, fun x hx => ?_⟩
      rcases List.mem_cons.1 hx with rfl | hx
      · omega
      · have := ih.2 x hx; omega
  have hul : us.length + t.length ≤ l.length := by
    rw [hfl]
    unfold flt
    rw [List.length_append]
    have := (hfn us).1
    omega
  have hul2 : ∀ u ∈ us, u.length ≤ 400000 := by
    intro u hu
    have h5 := (hfn us).2 u hu
    have h6 := congrArg List.length hfl
    unfold flt at h6
    rw [List.length_append] at h6
    omega
  obtain ⟨q, hcode⟩ := code_loop t h2 us 0 [] hus (by rw [← hfl]; omega) (by simp)
  rw [← hfl] at hcode
  have hcode' := hcode
  rw [show (((0 + 1 : Nat) : Int)) = 1 from rfl] at hcode'
  rw [hcode', Option.bind_some]
  have hmap : (us.map (· ++ [10]) ++ [t]).map tb = us.map (fun u => tb (u ++ [10])) ++ [tb t] := by simp
  rw [hmap]
  generalize hP : us.map (fun u => tb (u ++ [10])) ++ [tb t] = P
  have hPl : P.length = us.length + 1 := by rw [← hP]; simp
  have hwn : w64 ((P.length : Int) - 1) = ((us.length + 1 - 1 : Nat) : Int) := by rw [hPl, w64_id (by omega) (by omega)]; simp
  rw [rangeB_forL (R := (List route_Person) × Int × Int) P (fun (k11 : Nat) (x34 : ByteArray) (s19 : List route_Person) => if ((strEq x34 (⟨#[]⟩ : ByteArray)) && ((k11 : Int) == (w64 ((P.length : Int) - 1)))) = true then some (.bk s19) else Option.bind (strings_CutSuffix x34 (⟨#[10]⟩ : ByteArray)) fun x42 => Option.bind (portref2_readPerson x42.1) fun x43 => if ((!x42.2) || (!x43.2)) = true then some (.rt (([] : (List route_Person)), w64 ((k11 : Int) + 1), 8)) else Option.bind (appendL 2932031007402 s19 ([x43.1] : List route_Person)) fun x74 => some (.nx x74)) _ (fun k s x hx => by rw [idx_nat, hx]; rfl)]
  rw [hwn, ← hP, ref_loop (us.length + 1) (by omega) t h2 us 0 [] (by omega) hus (by rw [← hfl]; omega) (by simp), Option.bind_some]
  cases hg : goR t us 0 [] with
  | inl m => exact ⟨_, rfl, rfl⟩
  | inr r =>
    simp only [Lp.andThen_fin]
    have hnm := goR_names t us 0 [] r hul2 (by simp) hg
    obtain ⟨e, a1, b1, _⟩ := people_eq r (fun p hp k hk => by have := hnm p hp k hk; omega)
    rw [a1, b1, Option.bind_some]
    split <;> exact ⟨_, rfl, rfl⟩
theorem reads_true (s : ByteArray) : portlaw2_RouteReads s = some true := by
  obtain ⟨r, h1, h2⟩ := read_eq s
  unfold portlaw2_RouteReads
  rw [h1, h2]
  simp [alike_self]
end Go.Proofs.YtpiihecmmdeofaaGreatDoor.M
