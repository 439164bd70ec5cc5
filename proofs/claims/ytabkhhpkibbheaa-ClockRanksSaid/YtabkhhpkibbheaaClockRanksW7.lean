import Derived.Test.YtabkhhpkibbheaaClockRanksW6
namespace Go.Proofs.Ytabkhhpkibbheaa.W
open Go Go.RowKit Go.Pu Go.Gw Go.Proofs Go.Proofs.Ytabkhhpkibbheaa.M
set_option linter.unusedVariables false
set_option linter.unusedSimpArgs false
variable {Dw : Prop}
set_option maxRecDepth 4000 in
set_option maxHeartbeats 4000000 in
theorem portlaw2_ClockRanks_c (w : World) {A : Nat → Prop} (hA : ∀ b, w.heap.size ≤ b → A b) (l : (List level_Clock)) (v_l : Value) (h_l : Sl A w v_l l) (cals : (List cal_Calendar)) (v_cals : Value) (h_cals : Sl A w v_cals cals) (m : Int) {r : Bool} (hm : portlaw2_ClockRanks l cals m = some r) : Ret Try.prog 3 #[v_l, v_cals, .int .i64 m] w fun v w' => v = .bool r ∧ Kp Dw w w' := by
 unfold portlaw2_ClockRanks at hm
 refine enter Try.func3 rfl Try.ntmps3 rfl ?_
 have hA0 := hA
 have hB := Nat.le_refl w.heap.size
 have hK : Tr Dw w.heap.size A w A w := Tr.refl (Dw := Dw) hA
 have hH : Hp w.heap.size A w [] := Hp.nil
 refine C_seq ?_
 refine C_region ?_
 refine V_y (Y_assign rfl) rfl rfl rfl ?_
 refine V_to (fun _ _ => rfl) ?_
 refine C_seq ?_
 refine C_region ?_
 refine V_y (Y_move rfl) rfl rfl rfl ?_
 refine V_y (Y_move rfl) rfl rfl rfl ?_
 refine V_y (Y_move rfl) rfl rfl rfl ?_
 obtain ⟨x5, hx5, hm⟩ := Option.bind_eq_some_iff.1 hm
 refine V_call Try.call4 rfl rfl rfl rfl (level_Next_c (Dw := Dw) w hA l v_l h_l cals v_cals h_cals m hx5) ?_
 rintro _ w6 ⟨rfl, hk7⟩
 have ht8 := Kp.tr (Dw := Dw) hk7 hA hB
 replace hH := Hp.kp (Dw := Dw) hH hk7
 replace h_l := Sl.tr (Dw := Dw) h_l ht8
 replace h_cals := Sl.tr (Dw := Dw) h_cals ht8
 replace hK := Tr.trans (Dw := Dw) hK ht8
 replace hB := Nat.le_trans hB ht8.ex.size
 replace hA := ht8.new
 refine V_y (Y_move rfl) rfl rfl rfl ?_
 refine V_y (Y_extract rfl rfl) rfl rfl rfl ?_
 refine V_y (Y_extract rfl rfl) rfl rfl rfl ?_
 refine V_y (Y_extract rfl rfl) rfl rfl rfl ?_
 refine V_y (Y_assign rfl) rfl rfl rfl ?_
 refine V_y (Y_assign rfl) rfl rfl rfl ?_
 refine V_y (Y_assign rfl) rfl rfl rfl ?_
 refine V_to (fun _ _ => rfl) ?_
 refine C_seq ?_
 refine C_region ?_
 refine V_y (Y_move rfl) rfl rfl rfl ?_
 refine V_y (Y_move rfl) rfl rfl rfl ?_
 refine V_y (Y_move rfl) rfl rfl rfl ?_
 obtain ⟨x9, hx9, hm⟩ := Option.bind_eq_some_iff.1 hm
 refine V_call Try.call5 rfl rfl rfl rfl (level_Rank_c (Dw := Dw) w6 hA l v_l h_l cals v_cals h_cals m hx9) ?_
 rintro _ w12 ⟨v10, rfl, h11, hk13⟩
 obtain ⟨A14, ht15, hH16⟩ := Hp.addOwnd (Dw := Dw) hH hB hA hk13 h11
 replace h_l := Sl.tr (Dw := Dw) h_l ht15
 replace h_cals := Sl.tr (Dw := Dw) h_cals ht15
 replace hK := Tr.trans (Dw := Dw) hK ht15
 replace hB := Nat.le_trans hB ht15.ex.size
 replace hA := ht15.new
 replace hH : Hp w.heap.size A14 w12 (obS (α := Int) 3 v10 x9.1 :: []) := hH16
 refine V_y (Y_move rfl) rfl rfl rfl ?_
 refine V_y (Y_extract rfl rfl) rfl rfl rfl ?_
 refine V_y (Y_extract rfl rfl) rfl rfl rfl ?_
 refine V_y (Y_assign rfl) rfl rfl rfl ?_
 refine V_y (Y_assign rfl) rfl rfl rfl ?_
 refine V_to (fun _ _ => rfl) ?_
 refine C_seq ?_
 refine C_region ?_
 refine V_y (Y_move rfl) rfl rfl rfl ?_
 refine V_y (Y_move rfl) rfl rfl rfl ?_
 refine V_y (Y_move rfl) rfl rfl rfl ?_
 obtain ⟨x17, hx17, hm⟩ := Option.bind_eq_some_iff.1 hm
 refine V_call Try.call6 rfl rfl rfl rfl (portref2_NextOf_c (Dw := Dw) w12 hA l v_l h_l cals v_cals h_cals m hx17) ?_
 rintro _ w18 ⟨rfl, hk19⟩
 have ht20 := Kp.tr (Dw := Dw) hk19 hA hB
 replace hH := Hp.kp (Dw := Dw) hH hk19
 replace h_l := Sl.tr (Dw := Dw) h_l ht20
 replace h_cals := Sl.tr (Dw := Dw) h_cals ht20
 replace hK := Tr.trans (Dw := Dw) hK ht20
 replace hB := Nat.le_trans hB ht20.ex.size
 replace hA := ht20.new
 refine V_y (Y_move rfl) rfl rfl rfl ?_
 refine V_y (Y_extract rfl rfl) rfl rfl rfl ?_
 refine V_y (Y_extract rfl rfl) rfl rfl rfl ?_
 refine V_y (Y_extract rfl rfl) rfl rfl rfl ?_
 refine V_y (Y_assign rfl) rfl rfl rfl ?_
 refine V_y (Y_assign rfl) rfl rfl rfl ?_
 refine V_y (Y_assign rfl) rfl rfl rfl ?_
 refine V_to (fun _ _ => rfl) ?_
 refine C_seq ?_
 refine C_region ?_
 refine V_y (Y_move rfl) rfl rfl rfl ?_
 refine V_y (Y_move rfl) rfl rfl rfl ?_
 refine V_y (Y_move rfl) rfl rfl rfl ?_
 obtain ⟨x21, hx21, hm⟩ := Option.bind_eq_some_iff.1 hm
 refine V_call Try.call7 rfl rfl rfl rfl (portref2_RankOf_c (Dw := Dw) w18 hA l v_l h_l cals v_cals h_cals m hx21) ?_
 rintro _ w24 ⟨v22, rfl, h23, hk25⟩
 obtain ⟨A26, ht27, hH28⟩ := Hp.addOwnd (Dw := Dw) hH hB hA hk25 h23
 replace hK := Tr.trans (Dw := Dw) hK ht27
 replace hB := Nat.le_trans hB ht27.ex.size
 replace hA := ht27.new
 replace hH : Hp w.heap.size A26 w24 (obS (α := Int) 3 v22 x21.1 :: obS (α := Int) 3 v10 x9.1 :: []) := hH28
 refine V_y (Y_move rfl) rfl rfl rfl ?_
 refine V_y (Y_extract rfl rfl) rfl rfl rfl ?_
 refine V_y (Y_extract rfl rfl) rfl rfl rfl ?_
 refine V_y (Y_assign rfl) rfl rfl rfl ?_
 refine V_y (Y_assign rfl) rfl rfl rfl ?_
 refine V_to (fun _ _ => rfl) ?_
 refine C_seq ?_
 obtain ⟨s30, ho29, hm⟩ := Option.bind_eq_some_iff.1 hm
 refine C_cutG (ι := (Nat → Prop)) (fun (A36 : (Nat → Prop)) => [(6, .bool s30)]) (fun (A36 : (Nat → Prop)) => fun w' => Hp w.heap.size A36 w' (obS (α := Int) 3 v22 x21.1 :: obS (α := Int) 3 v10 x9.1 :: []) ∧ Tr Dw w.heap.size A26 w24 A36 w') ?_ ?_
 ·have hr31 : Tr Dw w.heap.size A26 w24 A26 w24 := Tr.refl (Dw := Dw) hA
  refine C_region ?_
  refine V_y (Y_move rfl) rfl rfl rfl ?_
  refine V_y (Y_move rfl) rfl rfl rfl ?_
  refine V_y (Y_eql rfl rfl) rfl rfl rfl ?_
  refine V_y (Y_move rfl) rfl rfl rfl ?_
  rcases Bool.eq_false_or_eq_true (x5.1 == x17.1) with hc38 | hc38
  ·rw [if_pos hc38] at ho29
   refine V_ge rfl rfl rfl hc38 ?_
   refine V_y (Y_move rfl) rfl rfl rfl ?_
   refine V_ge rfl rfl rfl hc38 ?_
   refine V_y (Y_move rfl) rfl rfl rfl ?_
   refine V_ge rfl rfl rfl hc38 ?_
   refine V_y (Y_eql rfl rfl) rfl rfl rfl ?_
   refine V_y (Y_pick_te rfl hc38 rfl) rfl rfl rfl ?_
   refine V_y (Y_move rfl) rfl rfl rfl ?_
   rcases Bool.eq_false_or_eq_true (x5.2.1 == x17.2.1) with hc39 | hc39
   ·rw [if_pos hc39] at ho29
    refine V_ge rfl rfl rfl hc39 ?_
    refine V_y (Y_move rfl) rfl rfl rfl ?_
    refine V_ge rfl rfl rfl hc39 ?_
    refine V_y (Y_move rfl) rfl rfl rfl ?_
    refine V_ge rfl rfl rfl hc39 ?_
    refine V_y (Y_eql rfl rfl) rfl rfl rfl ?_
    refine V_y (Y_pick_te rfl hc39 rfl) rfl rfl rfl ?_
    refine V_y (Y_move rfl) rfl rfl rfl ?_
    rcases Bool.eq_false_or_eq_true (x5.2.2 == x17.2.2) with hc40 | hc40
    ·rw [if_pos hc40] at ho29
     refine V_ge rfl rfl rfl hc40 ?_
     refine V_y (Y_move rfl) rfl rfl rfl ?_
     refine V_ge rfl rfl rfl hc40 ?_
     refine V_y (Y_move rfl) rfl rfl rfl ?_
     refine V_ge rfl rfl rfl hc40 ?_
     refine V_y (Y_eql rfl rfl) rfl rfl rfl ?_
     refine V_y (Y_pick_te rfl hc40 rfl) rfl rfl rfl ?_
     refine V_y (Y_move rfl) rfl rfl rfl ?_
     rcases Bool.eq_false_or_eq_true (x9.2 == x21.2) with hc41 | hc41
     ·rw [if_pos hc41] at ho29
      refine V_ge rfl rfl rfl hc41 ?_
      refine V_y (Y_move rfl) rfl rfl rfl ?_
      refine V_ge rfl rfl rfl hc41 ?_
      refine V_y (Y_move rfl) rfl rfl rfl ?_
      refine V_ge rfl rfl rfl hc41 ?_
      obtain ⟨x42, hx42, ho29⟩ := Option.bind_eq_some_iff.1 ho29
      refine V_call Try.call8 rfl rfl rfl rfl (slices_Equal_Lint_int_c (Dw := Dw) w24 (A := fun _ => True) (fun _ _ => trivial) x9.1 v10 (Hp.any (α := Int) (e := 3) (v := v10) (l := x9.1) hH (i := 1) rfl) x21.1 v22 (Hp.any (α := Int) (e := 3) (v := v22) (l := x21.1) hH (i := 0) rfl) hx42) ?_
      rintro _ w43 ⟨rfl, hk44⟩
      have ht45 := Kp.tr (Dw := Dw) hk44 hA hB
      replace hH := Hp.kp (Dw := Dw) hH hk44
      replace hr31 := Tr.trans (Dw := Dw) hr31 ht45
      refine V_y (Y_pick_te rfl hc41 rfl) rfl rfl rfl ?_
      refine V_y (Y_assign rfl) rfl rfl rfl ?_
      obtain rfl := Option.some.inj ho29
      refine V_end (fun a ha46 => ?_)
      exact ⟨A26, ha46.sub ⟨rfl, trivial⟩, ⟨hH, hr31⟩⟩
     ·rw [if_neg (nt hc41)] at ho29
      refine V_gn rfl rfl rfl hc41 rfl rfl rfl ?_
      refine V_gn rfl rfl rfl hc41 rfl rfl rfl ?_
      refine V_gn rfl rfl rfl hc41 rfl rfl rfl ?_
      refine V_y (Y_pick_fe rfl hc41 rfl) rfl rfl rfl ?_
      refine V_y (Y_assign rfl) rfl rfl rfl ?_
      obtain rfl := Option.some.inj ho29
      refine V_end (fun a ha47 => ?_)
      exact ⟨A26, ha47.sub ⟨rfl, trivial⟩, ⟨hH, hr31⟩⟩
    ·rw [if_neg (nt hc40)] at ho29
     refine V_gn rfl rfl rfl hc40 rfl rfl rfl ?_
     refine V_gn rfl rfl rfl hc40 rfl rfl rfl ?_
     refine V_gn rfl rfl rfl hc40 rfl rfl rfl ?_
     refine V_y (Y_pick_fe rfl hc40 rfl) rfl rfl rfl ?_
     refine V_y (Y_move rfl) rfl rfl rfl ?_
     rcases Bool.eq_false_or_eq_true (false) with hc48 | hc48
     ·rw [if_pos hc48] at ho29
      refine V_ge rfl rfl rfl hc48 ?_
      refine V_y (Y_move rfl) rfl rfl rfl ?_
      refine V_ge rfl rfl rfl hc48 ?_
      refine V_y (Y_move rfl) rfl rfl rfl ?_
      refine V_ge rfl rfl rfl hc48 ?_
      obtain ⟨x49, hx49, ho29⟩ := Option.bind_eq_some_iff.1 ho29
      refine V_call Try.call8 rfl rfl rfl rfl (slices_Equal_Lint_int_c (Dw := Dw) w24 (A := fun _ => True) (fun _ _ => trivial) x9.1 v10 (Hp.any (α := Int) (e := 3) (v := v10) (l := x9.1) hH (i := 1) rfl) x21.1 v22 (Hp.any (α := Int) (e := 3) (v := v22) (l := x21.1) hH (i := 0) rfl) hx49) ?_
      rintro _ w50 ⟨rfl, hk51⟩
      have ht52 := Kp.tr (Dw := Dw) hk51 hA hB
      replace hH := Hp.kp (Dw := Dw) hH hk51
      replace hr31 := Tr.trans (Dw := Dw) hr31 ht52
      refine V_y (Y_pick_te rfl hc48 rfl) rfl rfl rfl ?_
      refine V_y (Y_assign rfl) rfl rfl rfl ?_
      obtain rfl := Option.some.inj ho29
      refine V_end (fun a ha53 => ?_)
      exact ⟨A26, ha53.sub ⟨rfl, trivial⟩, ⟨hH, hr31⟩⟩
     ·rw [if_neg (nt hc48)] at ho29
      refine V_gn rfl rfl rfl hc48 rfl rfl rfl ?_
      refine V_gn rfl rfl rfl hc48 rfl rfl rfl ?_
      refine V_gn rfl rfl rfl hc48 rfl rfl rfl ?_
      refine V_y (Y_pick_fe rfl hc48 rfl) rfl rfl rfl ?_
      refine V_y (Y_assign rfl) rfl rfl rfl ?_
      obtain rfl := Option.some.inj ho29
      refine V_end (fun a ha54 => ?_)
      exact ⟨A26, ha54.sub ⟨rfl, trivial⟩, ⟨hH, hr31⟩⟩
   ·rw [if_neg (nt hc39)] at ho29
    refine V_gn rfl rfl rfl hc39 rfl rfl rfl ?_
    refine V_gn rfl rfl rfl hc39 rfl rfl rfl ?_
    refine V_gn rfl rfl rfl hc39 rfl rfl rfl ?_
    refine V_y (Y_pick_fe rfl hc39 rfl) rfl rfl rfl ?_
    refine V_y (Y_move rfl) rfl rfl rfl ?_
    rcases Bool.eq_false_or_eq_true (false) with hc55 | hc55
    ·rw [if_pos hc55] at ho29
     refine V_ge rfl rfl rfl hc55 ?_
     refine V_y (Y_move rfl) rfl rfl rfl ?_
     refine V_ge rfl rfl rfl hc55 ?_
     refine V_y (Y_move rfl) rfl rfl rfl ?_
     refine V_ge rfl rfl rfl hc55 ?_
     refine V_y (Y_eql rfl rfl) rfl rfl rfl ?_
     refine V_y (Y_pick_te rfl hc55 rfl) rfl rfl rfl ?_
     refine V_y (Y_move rfl) rfl rfl rfl ?_
     rcases Bool.eq_false_or_eq_true (x9.2 == x21.2) with hc56 | hc56
     ·rw [if_pos hc56] at ho29
      refine V_ge rfl rfl rfl hc56 ?_
      refine V_y (Y_move rfl) rfl rfl rfl ?_
      refine V_ge rfl rfl rfl hc56 ?_
      refine V_y (Y_move rfl) rfl rfl rfl ?_
      refine V_ge rfl rfl rfl hc56 ?_
      obtain ⟨x57, hx57, ho29⟩ := Option.bind_eq_some_iff.1 ho29
      refine V_call Try.call8 rfl rfl rfl rfl (slices_Equal_Lint_int_c (Dw := Dw) w24 (A := fun _ => True) (fun _ _ => trivial) x9.1 v10 (Hp.any (α := Int) (e := 3) (v := v10) (l := x9.1) hH (i := 1) rfl) x21.1 v22 (Hp.any (α := Int) (e := 3) (v := v22) (l := x21.1) hH (i := 0) rfl) hx57) ?_
      rintro _ w58 ⟨rfl, hk59⟩
      have ht60 := Kp.tr (Dw := Dw) hk59 hA hB
      replace hH := Hp.kp (Dw := Dw) hH hk59
      replace hr31 := Tr.trans (Dw := Dw) hr31 ht60
      refine V_y (Y_pick_te rfl hc56 rfl) rfl rfl rfl ?_
      refine V_y (Y_assign rfl) rfl rfl rfl ?_
      obtain rfl := Option.some.inj ho29
      refine V_end (fun a ha61 => ?_)
      exact ⟨A26, ha61.sub ⟨rfl, trivial⟩, ⟨hH, hr31⟩⟩
     ·rw [if_neg (nt hc56)] at ho29
      refine V_gn rfl rfl rfl hc56 rfl rfl rfl ?_
      refine V_gn rfl rfl rfl hc56 rfl rfl rfl ?_
      refine V_gn rfl rfl rfl hc56 rfl rfl rfl ?_
      refine V_y (Y_pick_fe rfl hc56 rfl) rfl rfl rfl ?_
      refine V_y (Y_assign rfl) rfl rfl rfl ?_
      obtain rfl := Option.some.inj ho29
      refine V_end (fun a ha62 => ?_)
      exact ⟨A26, ha62.sub ⟨rfl, trivial⟩, ⟨hH, hr31⟩⟩
    ·rw [if_neg (nt hc55)] at ho29
     refine V_gn rfl rfl rfl hc55 rfl rfl rfl ?_
     refine V_gn rfl rfl rfl hc55 rfl rfl rfl ?_
     refine V_gn rfl rfl rfl hc55 rfl rfl rfl ?_
     refine V_y (Y_pick_fe rfl hc55 rfl) rfl rfl rfl ?_
     refine V_y (Y_move rfl) rfl rfl rfl ?_
     rcases Bool.eq_false_or_eq_true (false) with hc63 | hc63
     ·rw [if_pos hc63] at ho29
      refine V_ge rfl rfl rfl hc63 ?_
      refine V_y (Y_move rfl) rfl rfl rfl ?_
      refine V_ge rfl rfl rfl hc63 ?_
      refine V_y (Y_move rfl) rfl rfl rfl ?_
      refine V_ge rfl rfl rfl hc63 ?_
      obtain ⟨x64, hx64, ho29⟩ := Option.bind_eq_some_iff.1 ho29
      refine V_call Try.call8 rfl rfl rfl rfl (slices_Equal_Lint_int_c (Dw := Dw) w24 (A := fun _ => True) (fun _ _ => trivial) x9.1 v10 (Hp.any (α := Int) (e := 3) (v := v10) (l := x9.1) hH (i := 1) rfl) x21.1 v22 (Hp.any (α := Int) (e := 3) (v := v22) (l := x21.1) hH (i := 0) rfl) hx64) ?_
      rintro _ w65 ⟨rfl, hk66⟩
      have ht67 := Kp.tr (Dw := Dw) hk66 hA hB
      replace hH := Hp.kp (Dw := Dw) hH hk66
      replace hr31 := Tr.trans (Dw := Dw) hr31 ht67
      refine V_y (Y_pick_te rfl hc63 rfl) rfl rfl rfl ?_
      refine V_y (Y_assign rfl) rfl rfl rfl ?_
      obtain rfl := Option.some.inj ho29
      refine V_end (fun a ha68 => ?_)
      exact ⟨A26, ha68.sub ⟨rfl, trivial⟩, ⟨hH, hr31⟩⟩
     ·rw [if_neg (nt hc63)] at ho29
      refine V_gn rfl rfl rfl hc63 rfl rfl rfl ?_
      refine V_gn rfl rfl rfl hc63 rfl rfl rfl ?_
      refine V_gn rfl rfl rfl hc63 rfl rfl rfl ?_
      refine V_y (Y_pick_fe rfl hc63 rfl) rfl rfl rfl ?_
      refine V_y (Y_assign rfl) rfl rfl rfl ?_
      obtain rfl := Option.some.inj ho29
      refine V_end (fun a ha69 => ?_)
      exact ⟨A26, ha69.sub ⟨rfl, trivial⟩, ⟨hH, hr31⟩⟩
  ·rw [if_neg (nt hc38)] at ho29
   refine V_gn rfl rfl rfl hc38 rfl rfl rfl ?_
   refine V_gn rfl rfl rfl hc38 rfl rfl rfl ?_
   refine V_gn rfl rfl rfl hc38 rfl rfl rfl ?_
   refine V_y (Y_pick_fe rfl hc38 rfl) rfl rfl rfl ?_
   refine V_y (Y_move rfl) rfl rfl rfl ?_
   rcases Bool.eq_false_or_eq_true (false) with hc70 | hc70
   ·rw [if_pos hc70] at ho29
    refine V_ge rfl rfl rfl hc70 ?_
    refine V_y (Y_move rfl) rfl rfl rfl ?_
    refine V_ge rfl rfl rfl hc70 ?_
    refine V_y (Y_move rfl) rfl rfl rfl ?_
    refine V_ge rfl rfl rfl hc70 ?_
    refine V_y (Y_eql rfl rfl) rfl rfl rfl ?_
    refine V_y (Y_pick_te rfl hc70 rfl) rfl rfl rfl ?_
    refine V_y (Y_move rfl) rfl rfl rfl ?_
    rcases Bool.eq_false_or_eq_true (x5.2.2 == x17.2.2) with hc71 | hc71
    ·rw [if_pos hc71] at ho29
     refine V_ge rfl rfl rfl hc71 ?_
     refine V_y (Y_move rfl) rfl rfl rfl ?_
     refine V_ge rfl rfl rfl hc71 ?_
     refine V_y (Y_move rfl) rfl rfl rfl ?_
     refine V_ge rfl rfl rfl hc71 ?_
     refine V_y (Y_eql rfl rfl) rfl rfl rfl ?_
     refine V_y (Y_pick_te rfl hc71 rfl) rfl rfl rfl ?_
     refine V_y (Y_move rfl) rfl rfl rfl ?_
     rcases Bool.eq_false_or_eq_true (x9.2 == x21.2) with hc72 | hc72
     ·rw [if_pos hc72] at ho29
      refine V_ge rfl rfl rfl hc72 ?_
      refine V_y (Y_move rfl) rfl rfl rfl ?_
      refine V_ge rfl rfl rfl hc72 ?_
      refine V_y (Y_move rfl) rfl rfl rfl ?_
      refine V_ge rfl rfl rfl hc72 ?_
      obtain ⟨x73, hx73, ho29⟩ := Option.bind_eq_some_iff.1 ho29
      refine V_call Try.call8 rfl rfl rfl rfl (slices_Equal_Lint_int_c (Dw := Dw) w24 (A := fun _ => True) (fun _ _ => trivial) x9.1 v10 (Hp.any (α := Int) (e := 3) (v := v10) (l := x9.1) hH (i := 1) rfl) x21.1 v22 (Hp.any (α := Int) (e := 3) (v := v22) (l := x21.1) hH (i := 0) rfl) hx73) ?_
      rintro _ w74 ⟨rfl, hk75⟩
      have ht76 := Kp.tr (Dw := Dw) hk75 hA hB
      replace hH := Hp.kp (Dw := Dw) hH hk75
      replace hr31 := Tr.trans (Dw := Dw) hr31 ht76
      refine V_y (Y_pick_te rfl hc72 rfl) rfl rfl rfl ?_
      refine V_y (Y_assign rfl) rfl rfl rfl ?_
      obtain rfl := Option.some.inj ho29
      refine V_end (fun a ha77 => ?_)
      exact ⟨A26, ha77.sub ⟨rfl, trivial⟩, ⟨hH, hr31⟩⟩
     ·rw [if_neg (nt hc72)] at ho29
      refine V_gn rfl rfl rfl hc72 rfl rfl rfl ?_
      refine V_gn rfl rfl rfl hc72 rfl rfl rfl ?_
      refine V_gn rfl rfl rfl hc72 rfl rfl rfl ?_
      refine V_y (Y_pick_fe rfl hc72 rfl) rfl rfl rfl ?_
      refine V_y (Y_assign rfl) rfl rfl rfl ?_
      obtain rfl := Option.some.inj ho29
      refine V_end (fun a ha78 => ?_)
      exact ⟨A26, ha78.sub ⟨rfl, trivial⟩, ⟨hH, hr31⟩⟩
    ·rw [if_neg (nt hc71)] at ho29
     refine V_gn rfl rfl rfl hc71 rfl rfl rfl ?_
     refine V_gn rfl rfl rfl hc71 rfl rfl rfl ?_
     refine V_gn rfl rfl rfl hc71 rfl rfl rfl ?_
     refine V_y (Y_pick_fe rfl hc71 rfl) rfl rfl rfl ?_
     refine V_y (Y_move rfl) rfl rfl rfl ?_
     rcases Bool.eq_false_or_eq_true (false) with hc79 | hc79
     ·rw [if_pos hc79] at ho29
      refine V_ge rfl rfl rfl hc79 ?_
      refine V_y (Y_move rfl) rfl rfl rfl ?_
      refine V_ge rfl rfl rfl hc79 ?_
      refine V_y (Y_move rfl) rfl rfl rfl ?_
      refine V_ge rfl rfl rfl hc79 ?_
      obtain ⟨x80, hx80, ho29⟩ := Option.bind_eq_some_iff.1 ho29
      refine V_call Try.call8 rfl rfl rfl rfl (slices_Equal_Lint_int_c (Dw := Dw) w24 (A := fun _ => True) (fun _ _ => trivial) x9.1 v10 (Hp.any (α := Int) (e := 3) (v := v10) (l := x9.1) hH (i := 1) rfl) x21.1 v22 (Hp.any (α := Int) (e := 3) (v := v22) (l := x21.1) hH (i := 0) rfl) hx80) ?_
      rintro _ w81 ⟨rfl, hk82⟩
      have ht83 := Kp.tr (Dw := Dw) hk82 hA hB
      replace hH := Hp.kp (Dw := Dw) hH hk82
      replace hr31 := Tr.trans (Dw := Dw) hr31 ht83
      refine V_y (Y_pick_te rfl hc79 rfl) rfl rfl rfl ?_
      refine V_y (Y_assign rfl) rfl rfl rfl ?_
      obtain rfl := Option.some.inj ho29
      refine V_end (fun a ha84 => ?_)
      exact ⟨A26, ha84.sub ⟨rfl, trivial⟩, ⟨hH, hr31⟩⟩
     ·rw [if_neg (nt hc79)] at ho29
      refine V_gn rfl rfl rfl hc79 rfl rfl rfl ?_
      refine V_gn rfl rfl rfl hc79 rfl rfl rfl ?_
      refine V_gn rfl rfl rfl hc79 rfl rfl rfl ?_
      refine V_y (Y_pick_fe rfl hc79 rfl) rfl rfl rfl ?_
      refine V_y (Y_assign rfl) rfl rfl rfl ?_
      obtain rfl := Option.some.inj ho29
      refine V_end (fun a ha85 => ?_)
      exact ⟨A26, ha85.sub ⟨rfl, trivial⟩, ⟨hH, hr31⟩⟩
   ·rw [if_neg (nt hc70)] at ho29
    refine V_gn rfl rfl rfl hc70 rfl rfl rfl ?_
    refine V_gn rfl rfl rfl hc70 rfl rfl rfl ?_
    refine V_gn rfl rfl rfl hc70 rfl rfl rfl ?_
    refine V_y (Y_pick_fe rfl hc70 rfl) rfl rfl rfl ?_
    refine V_y (Y_move rfl) rfl rfl rfl ?_
    rcases Bool.eq_false_or_eq_true (false) with hc86 | hc86
    ·rw [if_pos hc86] at ho29
     refine V_ge rfl rfl rfl hc86 ?_
     refine V_y (Y_move rfl) rfl rfl rfl ?_
     refine V_ge rfl rfl rfl hc86 ?_
     refine V_y (Y_move rfl) rfl rfl rfl ?_
     refine V_ge rfl rfl rfl hc86 ?_
     refine V_y (Y_eql rfl rfl) rfl rfl rfl ?_
     refine V_y (Y_pick_te rfl hc86 rfl) rfl rfl rfl ?_
     refine V_y (Y_move rfl) rfl rfl rfl ?_
     rcases Bool.eq_false_or_eq_true (x9.2 == x21.2) with hc87 | hc87
     ·rw [if_pos hc87] at ho29
      refine V_ge rfl rfl rfl hc87 ?_
      refine V_y (Y_move rfl) rfl rfl rfl ?_
      refine V_ge rfl rfl rfl hc87 ?_
      refine V_y (Y_move rfl) rfl rfl rfl ?_
      refine V_ge rfl rfl rfl hc87 ?_
      obtain ⟨x88, hx88, ho29⟩ := Option.bind_eq_some_iff.1 ho29
      refine V_call Try.call8 rfl rfl rfl rfl (slices_Equal_Lint_int_c (Dw := Dw) w24 (A := fun _ => True) (fun _ _ => trivial) x9.1 v10 (Hp.any (α := Int) (e := 3) (v := v10) (l := x9.1) hH (i := 1) rfl) x21.1 v22 (Hp.any (α := Int) (e := 3) (v := v22) (l := x21.1) hH (i := 0) rfl) hx88) ?_
      rintro _ w89 ⟨rfl, hk90⟩
      have ht91 := Kp.tr (Dw := Dw) hk90 hA hB
      replace hH := Hp.kp (Dw := Dw) hH hk90
      replace hr31 := Tr.trans (Dw := Dw) hr31 ht91
      refine V_y (Y_pick_te rfl hc87 rfl) rfl rfl rfl ?_
      refine V_y (Y_assign rfl) rfl rfl rfl ?_
      obtain rfl := Option.some.inj ho29
      refine V_end (fun a ha92 => ?_)
      exact ⟨A26, ha92.sub ⟨rfl, trivial⟩, ⟨hH, hr31⟩⟩
     ·rw [if_neg (nt hc87)] at ho29
      refine V_gn rfl rfl rfl hc87 rfl rfl rfl ?_
      refine V_gn rfl rfl rfl hc87 rfl rfl rfl ?_
      refine V_gn rfl rfl rfl hc87 rfl rfl rfl ?_
      refine V_y (Y_pick_fe rfl hc87 rfl) rfl rfl rfl ?_
      refine V_y (Y_assign rfl) rfl rfl rfl ?_
      obtain rfl := Option.some.inj ho29
      refine V_end (fun a ha93 => ?_)
      exact ⟨A26, ha93.sub ⟨rfl, trivial⟩, ⟨hH, hr31⟩⟩
    ·rw [if_neg (nt hc86)] at ho29
     refine V_gn rfl rfl rfl hc86 rfl rfl rfl ?_
     refine V_gn rfl rfl rfl hc86 rfl rfl rfl ?_
     refine V_gn rfl rfl rfl hc86 rfl rfl rfl ?_
     refine V_y (Y_pick_fe rfl hc86 rfl) rfl rfl rfl ?_
     refine V_y (Y_move rfl) rfl rfl rfl ?_
     rcases Bool.eq_false_or_eq_true (false) with hc94 | hc94
     ·rw [if_pos hc94] at ho29
      refine V_ge rfl rfl rfl hc94 ?_
      refine V_y (Y_move rfl) rfl rfl rfl ?_
      refine V_ge rfl rfl rfl hc94 ?_
      refine V_y (Y_move rfl) rfl rfl rfl ?_
      refine V_ge rfl rfl rfl hc94 ?_
      obtain ⟨x95, hx95, ho29⟩ := Option.bind_eq_some_iff.1 ho29
      refine V_call Try.call8 rfl rfl rfl rfl (slices_Equal_Lint_int_c (Dw := Dw) w24 (A := fun _ => True) (fun _ _ => trivial) x9.1 v10 (Hp.any (α := Int) (e := 3) (v := v10) (l := x9.1) hH (i := 1) rfl) x21.1 v22 (Hp.any (α := Int) (e := 3) (v := v22) (l := x21.1) hH (i := 0) rfl) hx95) ?_
      rintro _ w96 ⟨rfl, hk97⟩
      have ht98 := Kp.tr (Dw := Dw) hk97 hA hB
      replace hH := Hp.kp (Dw := Dw) hH hk97
      replace hr31 := Tr.trans (Dw := Dw) hr31 ht98
      refine V_y (Y_pick_te rfl hc94 rfl) rfl rfl rfl ?_
      refine V_y (Y_assign rfl) rfl rfl rfl ?_
      obtain rfl := Option.some.inj ho29
      refine V_end (fun a ha99 => ?_)
      exact ⟨A26, ha99.sub ⟨rfl, trivial⟩, ⟨hH, hr31⟩⟩
     ·rw [if_neg (nt hc94)] at ho29
      refine V_gn rfl rfl rfl hc94 rfl rfl rfl ?_
      refine V_gn rfl rfl rfl hc94 rfl rfl rfl ?_
      refine V_gn rfl rfl rfl hc94 rfl rfl rfl ?_
      refine V_y (Y_pick_fe rfl hc94 rfl) rfl rfl rfl ?_
      refine V_y (Y_assign rfl) rfl rfl rfl ?_
      obtain rfl := Option.some.inj ho29
      refine V_end (fun a ha100 => ?_)
      exact ⟨A26, ha100.sub ⟨rfl, trivial⟩, ⟨hH, hr31⟩⟩
 rintro A36 w33 ⟨hH37, hk34⟩ a ha35
 replace hK := Tr.trans (Dw := Dw) hK hk34
 replace hA := hk34.new
 replace hH : Hp w.heap.size A36 w33 (obS (α := Int) 3 v22 x21.1 :: obS (α := Int) 3 v10 x9.1 :: []) := hH37
 refine C_at (n := ⟨70, [], none⟩) (fun _ _ => rfl) ?_ ha35
 obtain rfl := Option.some.inj hm
 refine C_ret ?_
 try simp only [↓inBlock_ret, ↓then_ret]
 exact retQ rfl (Res.one Try.results3 rfl) ⟨rfl, hK.kp⟩
end Go.Proofs.Ytabkhhpkibbheaa.W
