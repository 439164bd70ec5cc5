/-
  CalMoments: the text of a moment is the reference's.
-/
import Derived.Test.YtkdkejikbcdadaaDoorCalMomentsCalSol
namespace Go.Proofs.YtkdkejikbcdadaaDoor.M
open Go Go.Pu
set_option linter.unusedSimpArgs false
set_option linter.unusedVariables false

theorem digits_len : ∀ (n u : Nat), u ≤ n → (Go.Lib.decDigits u).length ≤ u + 1
  | n, u, h => by
    rw [Go.Lib.decDigits]
    split
    · simp
    · rename_i h10
      cases n with
      | zero => omega
      | succ n =>
        have := digits_len n (u / 10) (by omega)
        simp only [List.length_append, List.length_singleton]
        omega
theorem itoa_len (n : Int) (h0 : -1 ≤ n) : (Go.Lib.itoa n).length ≤ n.natAbs + 2 := by
  unfold Go.Lib.itoa
  split
  · have := digits_len n.natAbs n.natAbs (Nat.le_refl _)
    simp only [List.length_cons]
    omega
  · have := digits_len n.toNat n.toNat (Nat.le_refl _)
    omega
theorem itoa_val (n : Int) (h0 : -1 ≤ n) (h1 : n ≤ 4000000) : ∃ s, strconv_Itoa n = some s ∧ s.size ≤ 4000002 := by
  unfold strconv_Itoa
  rw [if_pos ⟨by omega, by omega⟩]
  refine ⟨_, rfl, ?_⟩
  have := itoa_len n h0
  show (Go.Lib.itoa n).toArray.size ≤ _
  simp
  omega
theorem cat_val (s t : ByteArray) (hs : s.size ≤ 100000000) (ht : t.size ≤ 100000000) : catS s t = some (s ++ t) ∧ (s ++ t).size = s.size + t.size := by
  constructor
  · unfold catS
    rw [if_neg]
    have : IntKind.i64.max = 9223372036854775807 := by decide
    rw [this]
    omega
  · exact ByteArray.size_append

theorem three_digits (n : Nat) (h0 : 100 ≤ n) (h1 : n < 200) : Go.Lib.decDigits n = [49, UInt8.ofNat (48 + n / 10 % 10), UInt8.ofNat (48 + n % 10)] := by
  rw [Go.Lib.decDigits, dif_neg (by omega), Go.Lib.decDigits, dif_neg (by omega), Go.Lib.decDigits, dif_pos (by omega)]
  have e : n / 10 / 10 = 1 := by omega
  rw [e]
  rfl

theorem two_eq (n : Nat) (h : n < 100) : ∃ r, cal_two (n : Int) = some r ∧ portref2_two (n : Int) = some r ∧ r.size = 2 := by
  have hw : w64 (100 + (n : Int)) = ((100 + n : Nat) : Int) := by rw [w64_id (by omega) (by omega)]; omega
  have hd : Int.tdiv (n : Int) 10 = ((n / 10 : Nat) : Int) := by rw [Int.tdiv_eq_ediv_of_nonneg (by omega)]; omega
  have hm : Int.tmod (n : Int) 10 = ((n % 10 : Nat) : Int) := by rw [Int.tmod_eq_emod_of_nonneg (by omega)]; omega
  have hw1 : w64 (48 + w64 ((n / 10 : Nat) : Int)) = ((48 + n / 10 : Nat) : Int) := by rw [w64_id (n := ((n / 10 : Nat) : Int)) (by omega) (by omega), w64_id (by omega) (by omega)]; omega
  have hw2 : w64 (48 + ((n % 10 : Nat) : Int)) = ((48 + n % 10 : Nat) : Int) := by rw [w64_id (by omega) (by omega)]; omega
  have hu : ∀ k : Nat, k < 256 → toU8 ((k : Nat) : Int) = UInt8.ofNat k := by
    intro k hk
    apply UInt8.toNat_inj.1
    have h1 := toU8_nat (k : Int)
    have h2 : (IntKind.u8).wrap (k : Int) = (k : Int) := by
      simp only [IntKind.wrap, IntKind.bits, IntKind.signed]
      simp
      omega
    rw [h2] at h1
    rw [UInt8.toNat_ofNat']
    omega
  unfold cal_two portref2_two
  rw [hw, hd, hm, hw1, hw2, hu _ (by omega), hu _ (by omega)]
  have hi : strconv_Itoa ((100 + n : Nat) : Int) = some ⟨(Go.Lib.decDigits (100 + n)).toArray⟩ := by
    unfold strconv_Itoa
    rw [if_pos ⟨by omega, by omega⟩]
    unfold Go.Lib.itoa
    rw [if_neg (by omega), Int.toNat_natCast]
  rw [hi, three_digits (100 + n) (by omega) (by omega)]
  have e1 : (100 + n) / 10 % 10 = n / 10 := by omega
  have e2 : (100 + n) % 10 = n % 10 := by omega
  rw [e1, e2]
  generalize UInt8.ofNat (48 + n / 10) = a
  generalize UInt8.ofNat (48 + n % 10) = b
  refine ⟨⟨#[a, b]⟩, ?_, rfl, rfl⟩
  rfl

theorem sol_mem (z : cal_Zone) (L : Int) : ∀ (n : Nat) (x : Int), x ∈ Sol z L n → x < (n : Int)
  | 0, x, h => by simp [Sol] at h
  | n + 1, x, h => by
    rw [Sol] at h
    split at h
    · rcases List.mem_append.1 h with h | h
      · have := sol_mem z L n x h
        omega
      · rw [List.mem_singleton.1 h]
        omega
    · have := sol_mem z L n x h
      omega
theorem sol_inj (z : cal_Zone) (L m : Int) : ∀ (n i j : Nat), (Sol z L n)[i]? = some m → (Sol z L n)[j]? = some m → i = j
  | 0, i, j, h, _ => by simp [Sol] at h
  | n + 1, i, j, h1, h2 => by
    rw [Sol] at h1 h2
    split at h1
    · rename_i hL
      rw [if_pos hL] at h2
      have key : ∀ i : Nat, (Sol z L n ++ [(n : Int)])[i]? = some m → (i < (Sol z L n).length ∧ (Sol z L n)[i]? = some m ∧ m < (n : Int)) ∨ (i = (Sol z L n).length ∧ m = (n : Int)) := by
        intro i hi
        by_cases hlt : i < (Sol z L n).length
        · rw [List.getElem?_append_left hlt] at hi
          exact .inl ⟨hlt, hi, sol_mem z L n m (List.mem_of_getElem? hi)⟩
        · rw [List.getElem?_append_right (by omega)] at hi
          by_cases h0 : i - (Sol z L n).length = 0
          · rw [h0] at hi
            exact .inr ⟨by omega, by simpa using hi.symm⟩
          · rw [List.getElem?_eq_none (by simp; omega)] at hi
            cases hi
      rcases key i h1 with ⟨_, a2, a3⟩ | ⟨a1, a2⟩ <;> rcases key j h2 with ⟨_, b2, b3⟩ | ⟨b1, b2⟩
      · exact sol_inj z L m n i j a2 b2
      · omega
      · omega
      · omega
    · rename_i hL
      rw [if_neg hL] at h2
      exact sol_inj z L m n i j h1 h2

theorem index_val (l : List Int) (m : Int) : (∃ k : Nat, slices_Index_Lint_int l m = some (k : Int) ∧ l[k]? = some m) ∨ (slices_Index_Lint_int l m = some (-1) ∧ ∀ k : Nat, l[k]? ≠ some m) := by
  unfold slices_Index_Lint_int
  obtain ⟨x, hx, hq⟩ := rangeB_spec (R := Int) (body := fun k6 (_ : Unit) => Option.bind (idx l (k6 : Int)) fun x21 => if (m == x21) = true then some (.rt (k6 : Int)) else some (.nx ()))
    l.length (fun k _ => ∀ j : Nat, j < k → l[j]? ≠ some m) (fun x => (∃ k : Nat, x = .rt (k : Int) ∧ l[k]? = some m) ∨ (x = .fin () ∧ ∀ j : Nat, j < l.length → l[j]? ≠ some m)) (s := ()) (fun j h => absurd h (Nat.not_lt_zero _))
    (by
      rintro k _ hk hI
      have hx : l[k]? = some l[k] := List.getElem?_eq_getElem hk
      generalize l[k] = x at hx
      simp only [idx_nat, hx, Option.bind_some]
      by_cases h : m = x
      · subst h
        exact ⟨.rt (k : Int), by simp, .inl ⟨k, rfl, hx⟩⟩
      · refine ⟨.nx (), by simp [h], fun j hj => ?_⟩
        rcases Nat.lt_or_eq_of_le (Nat.le_of_lt_succ hj) with h3 | rfl
        · exact hI j h3
        · rw [hx]
          intro e
          exact h (Option.some.inj e).symm)
    (fun s h => .inr ⟨rfl, h⟩)
  rw [hx]
  rcases hq with ⟨k, rfl, hk⟩ | ⟨rfl, h⟩
  · exact .inl ⟨k, rfl, hk⟩
  · refine .inr ⟨rfl, fun k e => ?_⟩
    exact h k (List.getElem?_eq_some_iff.1 e).1 e

theorem text_eq (l : List Int) (m : Int) (t : ByteArray) (ht : t.size ≤ 5000000) (hlen : l.length ≤ 3000001) (hinj : ∀ i j : Nat, l[i]? = some m → l[j]? = some m → i = j) :
    ∃ r, rangeB (R := ByteArray × Int) (fun k47 s53 => Option.bind (Option.bind (idx l (k47 : Int)) fun x74 => Option.bind (if ((x74 == m) && (decide ((0 : Int) < (k47 : Int)))) = true then Option.bind (strconv_Itoa (w64 ((k47 : Int) + 1))) fun x90 => Option.bind (catS (⟨#[47]⟩ : ByteArray) x90) fun x94 => Option.bind (catS s53 x94) fun x95 => some x95 else some s53) fun s82 => some s82) fun s67 => some (.nx s67)) l.length 0 t = some (.fin r) ∧
      (Option.bind (slices_Index_Lint_int l m) fun x52 => Option.bind (if (decide ((0 : Int) < x52)) = true then Option.bind (strconv_Itoa (w64 (x52 + 1))) fun x62 => Option.bind (catS (⟨#[47]⟩ : ByteArray) x62) fun x66 => Option.bind (catS t x66) fun x67 => some x67 else some t) fun s54 => some (s54, (0 : Int))) = some (r, 0) := by
  have hap : ∀ k : Nat, k < l.length → ∃ s, strconv_Itoa (w64 ((k : Int) + 1)) = some s ∧ catS (⟨#[47]⟩ : ByteArray) s = some ((⟨#[47]⟩ : ByteArray) ++ s) ∧ catS t ((⟨#[47]⟩ : ByteArray) ++ s) = some (t ++ ((⟨#[47]⟩ : ByteArray) ++ s)) := by
    intro k hk
    obtain ⟨s, h1, h2⟩ := itoa_val ((k : Int) + 1) (by omega) (by omega)
    have h3 : (⟨#[47]⟩ : ByteArray).size = 1 := rfl
    obtain ⟨c1, c2⟩ := cat_val (⟨#[47]⟩ : ByteArray) s (by omega) (by omega)
    exact ⟨s, by rw [w64_id (by omega) (by omega)]; exact h1, c1, (cat_val t _ (by omega) (by omega)).1⟩
  have stay : ∀ k : Nat, (∀ j : Nat, 0 < j → l[j]? ≠ some m) → True := fun _ _ => trivial
  rcases index_val l m with ⟨k0, hk0, hm⟩ | ⟨hk0, hno⟩
  · by_cases h0 : 0 < k0
    · have hlt := (List.getElem?_eq_some_iff.1 hm).1
      obtain ⟨s, e1, e2, e3⟩ := hap k0 hlt
      refine ⟨t ++ ((⟨#[47]⟩ : ByteArray) ++ s), ?_, ?_⟩
      · obtain ⟨u, hu, hI⟩ := rangeB_inv (R := ByteArray × Int) (b := fun k47 s53 => Option.bind (Option.bind (idx l (k47 : Int)) fun x74 => Option.bind (if ((x74 == m) && (decide ((0 : Int) < (k47 : Int)))) = true then Option.bind (strconv_Itoa (w64 ((k47 : Int) + 1))) fun x90 => Option.bind (catS (⟨#[47]⟩ : ByteArray) x90) fun x94 => Option.bind (catS s53 x94) fun x95 => some x95 else some s53) fun s82 => some s82) fun s67 => some (.nx s67))
          l.length (fun k r => r = if k0 < k then t ++ ((⟨#[47]⟩ : ByteArray) ++ s) else t) (s := t) (by simp)
          (by
            rintro k r hk rfl
            have hx : l[k]? = some l[k] := List.getElem?_eq_getElem hk
            generalize l[k] = x at hx
            simp only [idx_nat, hx, Option.bind_some]
            by_cases hxm : x = m
            · subst hxm
              obtain rfl := hinj k k0 hx hm
              have e : ((x == x) && decide ((0 : Int) < (k : Int))) = true := by simp; omega
              rw [if_pos e, if_neg (Nat.lt_irrefl _)]
              simp only [e1, e2, e3, Option.bind_some]
              exact ⟨_, rfl, by rw [if_pos (Nat.lt_succ_self _)]⟩
            · have e : ((x == m) && decide ((0 : Int) < (k : Int))) = false := by simp [hxm]
              rw [e]
              refine ⟨_, rfl, ?_⟩
              have hne : k ≠ k0 := fun h => by
                subst h
                rw [hx] at hm
                exact hxm (Option.some.inj hm)
              by_cases h : k0 < k
              · rw [if_pos h, if_pos (by omega)]
              · rw [if_neg h, if_neg (by omega)])
        rw [hu, hI, if_pos hlt]
      · rw [hk0]
        simp only [Option.bind_some, decide_eq_true (show (0 : Int) < (k0 : Int) by omega), if_true, e1, e2, e3]
    · obtain rfl : k0 = 0 := by omega
      refine ⟨t, ?_, ?_⟩
      · obtain ⟨u, hu, hI⟩ := rangeB_inv (R := ByteArray × Int) (b := fun k47 s53 => Option.bind (Option.bind (idx l (k47 : Int)) fun x74 => Option.bind (if ((x74 == m) && (decide ((0 : Int) < (k47 : Int)))) = true then Option.bind (strconv_Itoa (w64 ((k47 : Int) + 1))) fun x90 => Option.bind (catS (⟨#[47]⟩ : ByteArray) x90) fun x94 => Option.bind (catS s53 x94) fun x95 => some x95 else some s53) fun s82 => some s82) fun s67 => some (.nx s67))
          l.length (fun k r => r = t) (s := t) rfl
          (by
            rintro k r hk rfl
            have hx : l[k]? = some l[k] := List.getElem?_eq_getElem hk
            generalize l[k] = x at hx
            simp only [idx_nat, hx, Option.bind_some]
            have e : ((x == m) && decide ((0 : Int) < (k : Int))) = false := by
              by_cases hxm : x = m
              · subst hxm
                obtain rfl := hinj k 0 hx hm
                simp
              · simp [hxm]
            rw [e]
            exact ⟨_, rfl, rfl⟩)
        rw [hu, hI]
      · rw [hk0]
        rfl
  · refine ⟨t, ?_, ?_⟩
    · obtain ⟨u, hu, hI⟩ := rangeB_inv (R := ByteArray × Int) (b := fun k47 s53 => Option.bind (Option.bind (idx l (k47 : Int)) fun x74 => Option.bind (if ((x74 == m) && (decide ((0 : Int) < (k47 : Int)))) = true then Option.bind (strconv_Itoa (w64 ((k47 : Int) + 1))) fun x90 => Option.bind (catS (⟨#[47]⟩ : ByteArray) x90) fun x94 => Option.bind (catS s53 x94) fun x95 => some x95 else some s53) fun s82 => some s82) fun s67 => some (.nx s67))
        l.length (fun k r => r = t) (s := t) rfl
        (by
          rintro k r hk rfl
          have hx : l[k]? = some l[k] := List.getElem?_eq_getElem hk
          have hne := hno k
          generalize l[k] = x at hx
          rw [hx] at hne
          simp only [idx_nat, hx, Option.bind_some]
          have e : ((x == m) && decide ((0 : Int) < (k : Int))) = false := by
            have : x ≠ m := fun h => hne (by rw [h])
            simp [this]
          rw [e]
          exact ⟨_, rfl, rfl⟩)
      rw [hu, hI]
    · rw [hk0]
      rfl

theorem moment_eq (z : cal_Zone) (m : Int) : ∃ x, cal_MomentText z m = some x ∧ portref2_MomentString z m = some x := by
  obtain ⟨r, e1, e2, hok⟩ := zone_eq z
  unfold cal_MomentText portref2_MomentString cal_Local
  simp only [e1, e2, or_two, Option.bind_some]
  by_cases hr : r = 0
  rotate_left
  · have : (r != 0) = true := by simpa using hr
    simp only [ne_eq, hr, not_false_eq_true, if_true, this, Option.bind_some]
    exact ⟨_, rfl, rfl⟩
  have hz := hok hr
  have h60 : z.changes.length ≤ 60 := by
    have := e1
    rw [hr] at this
    unfold cal_CheckZone at this
    by_cases h1 : (!(cal_within z.offset (-1440) 1440)) = true
    · simp [h1] at this
    · by_cases h : (60 : Int) < (z.changes.length : Int)
      · simp [h1, h] at this
      · omega
  subst hr
  simp only [ne_eq, not_true, if_false, bne_self_eq_false, Bool.false_eq_true]
  by_cases hm : 0 ≤ m ∧ m ≤ 3000000
  rotate_left
  · have h1 : cal_moment m = 2 := by
      unfold cal_moment
      rw [if_pos]
      simp [cal_within]
      omega
    have h2 : (!(portref2_IsMoment m)) = true := by
      simp [portref2_IsMoment]
      omega
    simp only [h1, h2, if_true, Option.bind_some]
    exact ⟨_, rfl, rfl⟩
  have h1 : cal_moment m = 0 := by
    unfold cal_moment
    rw [if_neg]
    simp [cal_within]
    omega
  have h2 : (!(portref2_IsMoment m)) = false := by
    simp [portref2_IsMoment]
    omega
  have hoff : cal_Zone_offsetAt z m = some (off z m) := by
    have := offsetIn_val z m
    unfold portref2_OffsetIn at this
    unfold cal_Zone_offsetAt
    exact this
  have ob := off_bound hz m
  have hw : w64 (m + off z m) = m + off z m := w64_id (by omega) (by omega)
  unfold portref2_LocalIn
  simp only [h1, h2, bne_self_eq_false, Bool.false_eq_true, if_false, hoff, offsetIn_val, hw, floor1440 _ (show -4000000000 ≤ m + off z m by omega) (by omega), floorDiv1440 _ (show -4000000000 ≤ m + off z m by omega) (by omega), Option.bind_some]
  generalize ha : m + off z m = a at hw
  have hd1 : w64 (a / 1440 * 1440) = a / 1440 * 1440 := w64_id (by omega) (by omega)
  have hd2 : w64 (a - a / 1440 * 1440) = a % 1440 := by rw [w64_id (by omega) (by omega)]; omega
  rw [hd1, hd2]
  have hday : -1 ≤ a / 1440 ∧ a / 1440 ≤ 2084 := by omega
  have hmin : 0 ≤ a % 1440 ∧ a % 1440 ≤ 1439 := by omega
  obtain ⟨p, hp⟩ := Int.eq_ofNat_of_zero_le hmin.1
  generalize hdy : a / 1440 = day at hday
  rw [hp]
  rw [hp] at hmin
  have hq1 : Int.tdiv (p : Int) 60 = ((p / 60 : Nat) : Int) := by rw [Int.tdiv_eq_ediv_of_nonneg (by omega)]; omega
  have hq2 : Int.tmod (p : Int) 60 = ((p % 60 : Nat) : Int) := by rw [Int.tmod_eq_emod_of_nonneg (by omega)]; omega
  have hq3 : w64 ((p / 60 : Nat) : Int) = ((p / 60 : Nat) : Int) := w64_id (by omega) (by omega)
  obtain ⟨s1, i1, i2⟩ := itoa_val day hday.1 (by omega)
  obtain ⟨t1, j1, j2, j3⟩ := two_eq (p / 60) (by omega)
  obtain ⟨t2, k1, k2, k3⟩ := two_eq (p % 60) (by omega)
  have z1 : (⟨#[46]⟩ : ByteArray).size = 1 := rfl
  have z2 : (⟨#[58]⟩ : ByteArray).size = 1 := rfl
  obtain ⟨c1, d1⟩ := cat_val s1 (⟨#[46]⟩ : ByteArray) (by omega) (by omega)
  obtain ⟨c2, d2⟩ := cat_val (s1 ++ (⟨#[46]⟩ : ByteArray)) t1 (by omega) (by omega)
  obtain ⟨c3, d3⟩ := cat_val (s1 ++ (⟨#[46]⟩ : ByteArray) ++ t1) (⟨#[58]⟩ : ByteArray) (by omega) (by omega)
  obtain ⟨c4, d4⟩ := cat_val (s1 ++ (⟨#[46]⟩ : ByteArray) ++ t1 ++ (⟨#[58]⟩ : ByteArray)) t2 (by omega) (by omega)
  have hl : cal_localTime day (p : Int) = 0 := by
    unfold cal_localTime
    rw [if_neg]
    simp [cal_within]
    omega
  have hL : -5000 ≤ day * 1440 + (p : Int) ∧ day * 1440 + (p : Int) ≤ 4000000 := by omega
  have hw1 : w64 (day * 1440) = day * 1440 := w64_id (by omega) (by omega)
  have hw2 : w64 (day * 1440 + (p : Int)) = day * 1440 + (p : Int) := w64_id (by omega) (by omega)
  obtain ⟨b, q5⟩ := shownIn_loop hz (day * 1440 + (p : Int)) _ _ hL rfl rfl
  have hsh : cal_Shown z day (p : Int) = some (Sol z (day * 1440 + (p : Int)) 3000001, 0) := by
    unfold cal_Shown
    simp only [e1, hl, or_two, Option.bind_some, ne_eq, not_true, if_false, bne_self_eq_false, Bool.false_eq_true, parts_val z h60, hw1, hw2]
    rw [shown_loop hz h60 _ hL]
    rfl
  have hsi : portref2_ShownIn z day (p : Int) = some (Sol z (day * 1440 + (p : Int)) 3000001) := by
    unfold portref2_ShownIn
    simp only [hw1, hw2]
    rw [w64_id (n := day * 1440 + (p : Int) - 1440) (by omega) (by omega), w64_id (n := day * 1440 + (p : Int) + 1440) (by omega) (by omega), q5]
    rfl
  simp only [hq1, hq2, hq3, i1, j1, j2, k1, k2, c1, c2, c3, c4, hsh, hsi, Option.bind_some]
  obtain ⟨r, r1, r2⟩ := text_eq (Sol z (day * 1440 + (p : Int)) 3000001) m (s1 ++ (⟨#[46]⟩ : ByteArray) ++ t1 ++ (⟨#[58]⟩ : ByteArray) ++ t2) (by omega) (sol_len _ _ _) (fun i j => sol_inj z _ m 3000001 i j)
  rw [r1]
  refine ⟨(r, 0), rfl, ?_⟩
  exact r2

theorem moments_true (z : cal_Zone) (m : Int) : portlaw2_CalMoments z m = some true := by
  unfold portlaw2_CalMoments
  obtain ⟨x, h1, h2⟩ := moment_eq z m
  simp only [h1, h2, Option.bind_some]
  have : strEq x.1 x.1 = true := by unfold strEq; simp
  simp [this]
end Go.Proofs.YtkdkejikbcdadaaDoor.M
