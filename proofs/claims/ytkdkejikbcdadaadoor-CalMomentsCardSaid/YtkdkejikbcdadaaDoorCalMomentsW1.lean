/-
  Written by program (gen.py) from the IR of the dump: each function computes its model.
-/
import Derived.Test.YtkdkejikbcdadaaDoorCalMomentsW0
namespace Go.Proofs.YtkdkejikbcdadaaDoor.W
open Go Go.RowKit Go.Pu Go.Gw Go.Proofs Go.Proofs.YtkdkejikbcdadaaDoor.M
set_option linter.unusedVariables false
set_option linter.unusedSimpArgs false

set_option maxRecDepth 4000 in
set_option maxHeartbeats 4000000 in
theorem portref2_MomentString_c (w : World) {A : Nat → Prop} (hA : ∀ b, w.heap.size ≤ b → A b) (hT : Tb Tryd.prog A w) (z : cal_Zone) (v_z : Value) (h_z : Sl A w v_z z.changes) (m : Int) {r : (ByteArray × Int)} (hm : portref2_MomentString z m = some r) : Ret Tryd.prog 6 #[.agg #[.int .i64 z.offset, v_z], .int .i64 m] w fun v w' => v = .tuple #[.string r.1, .int .i64 r.2] ∧ Kp w w' := by
  unfold portref2_MomentString at hm
  refine enter Tryd.func6 rfl Tryd.ntmps6 rfl ?_
  have hA0 := hA
  have hB := Nat.le_refl w.heap.size
  have hK : Tr w.heap.size A w A w := Tr.refl hA
  have hH : Hp w.heap.size A w [] := Hp.nil
  refine C_seq ?_
  refine C_region ?_
  refine V_box rfl rfl ?_
  intro b3 w4 h5
  have hk7 := h5.kp
  have h6 : El (α := cal_Zone) A w4 b3 0 z := h5.el hA ⟨[.int .i64 z.offset], _, rfl, rfl, ⟨_, rfl, h_z⟩⟩
  have ht8 := Kp.tr hk7 hA hB
  replace hH := Hp.kp hH hk7
  replace h_z := Sl.tr h_z ht8
  replace hK := Tr.trans hK ht8
  replace hB := Nat.le_trans hB ht8.ex.size
  replace hA := ht8.new
  refine V_y (Y_assign rfl) rfl rfl rfl ?_
  refine V_y (Y_assign rfl) rfl rfl rfl ?_
  refine V_to (fun _ _ => rfl) ?_
  refine C_seq ?_
  refine C_seq ?_
  refine C_region ?_
  obtain ⟨v9, h11, h10⟩ := El_cal_Zone h6
  refine V_y (Y_loadA h11 Tryd.isAgg24 Tryd.sizeOf24 rfl) rfl rfl rfl ?_
  obtain ⟨x12, hx12, hm⟩ := Option.bind_eq_some_iff.1 hm
  refine V_call Tryd.call15 rfl rfl rfl rfl (portref2_ZoneFault_c w4 hA z v9 h10 hx12) ?_
  rintro _ w13 ⟨rfl, hk14⟩
  have ht15 := Kp.tr hk14 hA hB
  replace hH := Hp.kp hH hk14
  replace h6 := El.tr h6 ht15
  replace h10 := Sl.tr h10 ht15
  replace hK := Tr.trans hK ht15
  replace hB := Nat.le_trans hB ht15.ex.size
  replace hA := ht15.new
  refine V_y (Y_assign rfl) rfl rfl rfl ?_
  refine V_to (fun _ _ => rfl) ?_
  refine C_seq ?_
  refine C_region ?_
  refine V_y (Y_move rfl) rfl rfl rfl ?_
  refine V_y (Y_neq rfl rfl) rfl rfl rfl ?_
  refine V_to (fun _ _ => rfl) ?_
  refine C_cond rfl (fun hc16 => ?_) (fun hc16 => ?_)
  · rw [if_pos hc16] at hm
    refine C_seq ?_
    refine C_region ?_
    refine V_y (Y_move rfl) rfl rfl rfl ?_
    refine V_y (Y_assign rfl) rfl rfl rfl ?_
    refine V_y (Y_assign rfl) rfl rfl rfl ?_
    refine V_to (fun _ _ => rfl) ?_
    obtain rfl := Option.some.inj hm
    refine C_ret ?_
    try simp only [↓inBlock_ret, ↓then_ret]
    exact retQ rfl (Res.two Tryd.results6 rfl rfl) ⟨rfl, hK.kp⟩
  · rw [if_neg (nt hc16)] at hm
    refine C_skip_to (fun _ _ => rfl) ?_
    refine C_seq ?_
    refine C_seq ?_
    refine C_region ?_
    refine V_y (Y_move rfl) rfl rfl rfl ?_
    refine V_call Tryd.call16 rfl rfl rfl rfl (portref2_IsMoment_c w13 m) ?_
    rintro _ _ ⟨rfl, rfl⟩
    refine V_y (Y_not rfl) rfl rfl rfl ?_
    refine V_to (fun _ _ => rfl) ?_
    refine C_cond rfl (fun hc17 => ?_) (fun hc17 => ?_)
    · rw [if_pos hc17] at hm
      refine C_seq ?_
      refine C_region ?_
      refine V_y (Y_assign rfl) rfl rfl rfl ?_
      refine V_y (Y_assign rfl) rfl rfl rfl ?_
      refine V_to (fun _ _ => rfl) ?_
      obtain rfl := Option.some.inj hm
      refine C_ret ?_
      try simp only [↓inBlock_ret, ↓then_ret]
      exact retQ rfl (Res.two Tryd.results6 rfl rfl) ⟨rfl, hK.kp⟩
    · rw [if_neg (nt hc17)] at hm
      refine C_skip_to (fun _ _ => rfl) ?_
      refine C_seq ?_
      refine C_region ?_
      obtain ⟨v18, h20, h19⟩ := El_cal_Zone h6
      refine V_y (Y_loadA h20 Tryd.isAgg24 Tryd.sizeOf24 rfl) rfl rfl rfl ?_
      refine V_y (Y_move rfl) rfl rfl rfl ?_
      obtain ⟨x21, hx21, hm⟩ := Option.bind_eq_some_iff.1 hm
      refine V_call Tryd.call17 rfl rfl rfl rfl (portref2_LocalIn_c w13 hA z v18 h19 m hx21) ?_
      rintro _ w22 ⟨rfl, hk23⟩
      have ht24 := Kp.tr hk23 hA hB
      replace hH := Hp.kp hH hk23
      replace h6 := El.tr h6 ht24
      replace h19 := Sl.tr h19 ht24
      replace hK := Tr.trans hK ht24
      replace hB := Nat.le_trans hB ht24.ex.size
      replace hA := ht24.new
      refine V_y (Y_move rfl) rfl rfl rfl ?_
      refine V_y (Y_extract rfl rfl) rfl rfl rfl ?_
      refine V_y (Y_extract rfl rfl) rfl rfl rfl ?_
      refine V_y (Y_assign rfl) rfl rfl rfl ?_
      refine V_y (Y_assign rfl) rfl rfl rfl ?_
      refine V_to (fun _ _ => rfl) ?_
      refine C_seq ?_
      refine C_region ?_
      refine V_y (Y_move rfl) rfl rfl rfl ?_
      obtain ⟨x25, hx25, hm⟩ := Option.bind_eq_some_iff.1 hm
      refine V_call Tryd.call12 rfl rfl rfl rfl (strconv_Itoa_c w22 hA (Tb.tr hT hK) x21.1 hx25) ?_
      rintro _ w26 ⟨rfl, hk27⟩
      have ht28 := Kp.tr hk27 hA hB
      replace hH := Hp.kp hH hk27
      replace h6 := El.tr h6 ht28
      replace hK := Tr.trans hK ht28
      replace hB := Nat.le_trans hB ht28.ex.size
      replace hA := ht28.new
      obtain ⟨x29, hx29, hm⟩ := Option.bind_eq_some_iff.1 hm
      refine V_y (Y_sadd hx29 rfl rfl) rfl rfl rfl ?_
      refine V_y (Y_move rfl) rfl rfl rfl ?_
      refine V_y (Y_quo (by rw [quo, if_neg (by decide)]) rfl rfl) rfl rfl rfl ?_
      obtain ⟨x30, hx30, hm⟩ := Option.bind_eq_some_iff.1 hm
      refine V_call Tryd.call18 rfl rfl rfl rfl (portref2_two_c w26 hA (w64 (Int.tdiv x21.2 60)) hx30) ?_
      rintro _ w31 ⟨rfl, hk32⟩
      have ht33 := Kp.tr hk32 hA hB
      replace hH := Hp.kp hH hk32
      replace h6 := El.tr h6 ht33
      replace hK := Tr.trans hK ht33
      replace hB := Nat.le_trans hB ht33.ex.size
      replace hA := ht33.new
      obtain ⟨x34, hx34, hm⟩ := Option.bind_eq_some_iff.1 hm
      refine V_y (Y_sadd hx34 rfl rfl) rfl rfl rfl ?_
      obtain ⟨x35, hx35, hm⟩ := Option.bind_eq_some_iff.1 hm
      refine V_y (Y_sadd hx35 rfl rfl) rfl rfl rfl ?_
      refine V_y (Y_move rfl) rfl rfl rfl ?_
      refine V_y (Y_rem (by rw [rem, if_neg (by decide)]) rfl rfl) rfl rfl rfl ?_
      obtain ⟨x36, hx36, hm⟩ := Option.bind_eq_some_iff.1 hm
      refine V_call Tryd.call18 rfl rfl rfl rfl (portref2_two_c w31 hA (Int.tmod x21.2 60) hx36) ?_
      rintro _ w37 ⟨rfl, hk38⟩
      have ht39 := Kp.tr hk38 hA hB
      replace hH := Hp.kp hH hk38
      replace h6 := El.tr h6 ht39
      replace hK := Tr.trans hK ht39
      replace hB := Nat.le_trans hB ht39.ex.size
      replace hA := ht39.new
      obtain ⟨x40, hx40, hm⟩ := Option.bind_eq_some_iff.1 hm
      refine V_y (Y_sadd hx40 rfl rfl) rfl rfl rfl ?_
      refine V_y (Y_assign rfl) rfl rfl rfl ?_
      refine V_to (fun _ _ => rfl) ?_
      refine C_seq ?_
      refine C_seq ?_
      refine C_region ?_
      obtain ⟨v41, h43, h42⟩ := El_cal_Zone h6
      refine V_y (Y_loadA h43 Tryd.isAgg24 Tryd.sizeOf24 rfl) rfl rfl rfl ?_
      refine V_y (Y_move rfl) rfl rfl rfl ?_
      refine V_y (Y_move rfl) rfl rfl rfl ?_
      obtain ⟨x44, hx44, hm⟩ := Option.bind_eq_some_iff.1 hm
      refine V_call Tryd.call20 rfl rfl rfl rfl (portref2_ShownIn_c w37 hA z v41 h42 x21.1 x21.2 hx44) ?_
      rintro v45 w47 ⟨_, rfl, h46, hk48⟩
      obtain ⟨A49, ht50, hH51⟩ := Hp.addOwnd hH hB hA hk48 h46
      replace h6 := El.tr h6 ht50
      replace h42 := Sl.tr h42 ht50
      replace hK := Tr.trans hK ht50
      replace hB := Nat.le_trans hB ht50.ex.size
      replace hA := ht50.new
      replace hH : Hp w.heap.size A49 w47 (obS (α := Int) 3 v45 x44 :: []) := hH51
      refine V_y (Y_move rfl) rfl rfl rfl ?_
      obtain ⟨x52, hx52, hm⟩ := Option.bind_eq_some_iff.1 hm
      refine V_call Tryd.call19 rfl rfl rfl rfl (slices_Index_Lint_int_c w47 x44 v45 (Hp.any (α := Int) (e := 3) (v := v45) (l := x44) hH (i := 0) rfl) m hx52) ?_
      rintro _ _ ⟨rfl, rfl⟩
      refine V_y (Y_assign rfl) rfl rfl rfl ?_
      refine V_to (fun _ _ => rfl) ?_
      refine C_seq ?_
      refine C_region ?_
      refine V_y (Y_move rfl) rfl rfl rfl ?_
      refine V_y (Y_gtr rfl rfl) rfl rfl rfl ?_
      refine V_to (fun _ _ => rfl) ?_
      obtain ⟨s54, ho53, hm⟩ := Option.bind_eq_some_iff.1 hm
      refine C_cutG (ι := (Nat → Prop)) (fun (A59 : (Nat → Prop)) => [(9, .string s54)]) (fun (A59 : (Nat → Prop)) => fun w' => Hp w.heap.size A59 w' (obS (α := Int) 3 v45 x44 :: []) ∧ Tr w.heap.size A49 w47 A59 w') ?_ ?_
      · have hr55 : Tr w.heap.size A49 w47 A49 w47 := Tr.refl hA
        refine C_cond rfl (fun hc61 => ?_) (fun hc61 => ?_)
        · rw [if_pos hc61] at ho53
          refine C_region ?_
          refine V_y (Y_move rfl) rfl rfl rfl ?_
          refine V_y (Y_move rfl) rfl rfl rfl ?_
          refine V_y (Y_addI rfl rfl) rfl rfl rfl ?_
          obtain ⟨x62, hx62, ho53⟩ := Option.bind_eq_some_iff.1 ho53
          refine V_call Tryd.call12 rfl rfl rfl rfl (strconv_Itoa_c w47 hA (Tb.tr hT hK) (w64 (x52 + 1)) hx62) ?_
          rintro _ w63 ⟨rfl, hk64⟩
          have ht65 := Kp.tr hk64 hA hB
          replace hH := Hp.kp hH hk64
          replace hK := Tr.trans hK ht65
          replace hr55 := Tr.trans hr55 ht65
          replace hB := Nat.le_trans hB ht65.ex.size
          replace hA := ht65.new
          obtain ⟨x66, hx66, ho53⟩ := Option.bind_eq_some_iff.1 ho53
          refine V_y (Y_sadd hx66 rfl rfl) rfl rfl rfl ?_
          obtain ⟨x67, hx67, ho53⟩ := Option.bind_eq_some_iff.1 ho53
          refine V_y (Y_sadd hx67 rfl rfl) rfl rfl rfl ?_
          refine V_y (Y_assign rfl) rfl rfl rfl ?_
          obtain rfl := Option.some.inj ho53
          refine V_end (fun a ha68 => ?_)
          exact ⟨A49, ha68.sub ⟨rfl, trivial⟩, ⟨hH, hr55⟩⟩
        · rw [if_neg (nt hc61)] at ho53
          obtain rfl := Option.some.inj ho53
          refine C_skip (fun a ha69 => ?_)
          exact ⟨A49, ha69.sub ⟨rfl, trivial⟩, ⟨hH, hr55⟩⟩
      rintro A59 w56 ⟨hH60, hk57⟩ a ha58
      replace hK := Tr.trans hK hk57
      replace hB := Nat.le_trans hB hk57.ex.size
      replace hA := hk57.new
      replace hH : Hp w.heap.size A59 w56 (obS (α := Int) 3 v45 x44 :: []) := hH60
      refine C_at (n := ⟨52, [], none⟩) (fun _ _ => rfl) ?_ ha58
      refine C_seq ?_
      refine C_region ?_
      refine V_y (Y_move rfl) rfl rfl rfl ?_
      refine V_y (Y_assign rfl) rfl rfl rfl ?_
      refine V_y (Y_assign rfl) rfl rfl rfl ?_
      refine V_to (fun _ _ => rfl) ?_
      obtain rfl := Option.some.inj hm
      refine C_ret ?_
      try simp only [↓inBlock_ret, ↓then_ret]
      exact retQ rfl (Res.two Tryd.results6 rfl rfl) ⟨rfl, hK.kp⟩

set_option maxRecDepth 4000 in
set_option maxHeartbeats 4000000 in
theorem portlaw2_CalMoments_c (w : World) {A : Nat → Prop} (hA : ∀ b, w.heap.size ≤ b → A b) (hT : Tb Tryd.prog A w) (z : cal_Zone) (v_z : Value) (h_z : Sl A w v_z z.changes) (m : Int) {r : Bool} (hm : portlaw2_CalMoments z m = some r) : Ret Tryd.prog 3 #[.agg #[.int .i64 z.offset, v_z], .int .i64 m] w fun v w' => v = .bool r ∧ Kp w w' := by
  unfold portlaw2_CalMoments at hm
  refine enter Tryd.func3 rfl Tryd.ntmps3 rfl ?_
  have hA0 := hA
  have hB := Nat.le_refl w.heap.size
  have hK : Tr w.heap.size A w A w := Tr.refl hA
  have hH : Hp w.heap.size A w [] := Hp.nil
  refine C_seq ?_
  refine C_region ?_
  refine V_box rfl rfl ?_
  intro b3 w4 h5
  have hk7 := h5.kp
  have h6 : El (α := cal_Zone) A w4 b3 0 z := h5.el hA ⟨[.int .i64 z.offset], _, rfl, rfl, ⟨_, rfl, h_z⟩⟩
  have ht8 := Kp.tr hk7 hA hB
  replace hH := Hp.kp hH hk7
  replace h_z := Sl.tr h_z ht8
  replace hK := Tr.trans hK ht8
  replace hB := Nat.le_trans hB ht8.ex.size
  replace hA := ht8.new
  refine V_y (Y_assign rfl) rfl rfl rfl ?_
  refine V_to (fun _ _ => rfl) ?_
  refine C_seq ?_
  refine C_region ?_
  obtain ⟨v9, h11, h10⟩ := El_cal_Zone h6
  refine V_y (Y_loadA h11 Tryd.isAgg24 Tryd.sizeOf24 rfl) rfl rfl rfl ?_
  refine V_y (Y_move rfl) rfl rfl rfl ?_
  obtain ⟨x12, hx12, hm⟩ := Option.bind_eq_some_iff.1 hm
  refine V_call Tryd.call5 rfl rfl rfl rfl (cal_MomentText_c w4 hA (Tb.tr hT hK) z v9 h10 m hx12) ?_
  rintro _ w13 ⟨rfl, hk14⟩
  have ht15 := Kp.tr hk14 hA hB
  replace hH := Hp.kp hH hk14
  replace h6 := El.tr h6 ht15
  replace h10 := Sl.tr h10 ht15
  replace hK := Tr.trans hK ht15
  replace hB := Nat.le_trans hB ht15.ex.size
  replace hA := ht15.new
  refine V_y (Y_move rfl) rfl rfl rfl ?_
  refine V_y (Y_extract rfl rfl) rfl rfl rfl ?_
  refine V_y (Y_extract rfl rfl) rfl rfl rfl ?_
  refine V_y (Y_assign rfl) rfl rfl rfl ?_
  refine V_y (Y_assign rfl) rfl rfl rfl ?_
  refine V_to (fun _ _ => rfl) ?_
  refine C_seq ?_
  refine C_region ?_
  obtain ⟨v16, h18, h17⟩ := El_cal_Zone h6
  refine V_y (Y_loadA h18 Tryd.isAgg24 Tryd.sizeOf24 rfl) rfl rfl rfl ?_
  refine V_y (Y_move rfl) rfl rfl rfl ?_
  obtain ⟨x19, hx19, hm⟩ := Option.bind_eq_some_iff.1 hm
  refine V_call Tryd.call6 rfl rfl rfl rfl (portref2_MomentString_c w13 hA (Tb.tr hT hK) z v16 h17 m hx19) ?_
  rintro _ w20 ⟨rfl, hk21⟩
  have ht22 := Kp.tr hk21 hA hB
  replace hH := Hp.kp hH hk21
  replace h6 := El.tr h6 ht22
  replace h17 := Sl.tr h17 ht22
  replace hK := Tr.trans hK ht22
  replace hB := Nat.le_trans hB ht22.ex.size
  replace hA := ht22.new
  refine V_y (Y_move rfl) rfl rfl rfl ?_
  refine V_y (Y_extract rfl rfl) rfl rfl rfl ?_
  refine V_y (Y_extract rfl rfl) rfl rfl rfl ?_
  refine V_y (Y_assign rfl) rfl rfl rfl ?_
  refine V_y (Y_assign rfl) rfl rfl rfl ?_
  refine V_to (fun _ _ => rfl) ?_
  refine C_seq ?_
  refine C_region ?_
  refine V_y (Y_move rfl) rfl rfl rfl ?_
  refine V_y (Y_move rfl) rfl rfl rfl ?_
  refine V_y (Y_seql rfl rfl) rfl rfl rfl ?_
  refine V_y (Y_move rfl) rfl rfl rfl ?_
  refine V_cut 4 (fun _ : Unit => [(28, .bool ((strEq x12.1 x19.1) && (x12.2 == x19.2)))]) (fun _ w' => w20 = w') ?_ ?_
  · simp only [List.take, List.drop]
    rcases Bool.eq_false_or_eq_true (strEq x12.1 x19.1) with hc23 | hc23
    · refine V_ge rfl rfl rfl hc23 ?_
      refine V_y (Y_move rfl) rfl rfl rfl ?_
      refine V_ge rfl rfl rfl hc23 ?_
      refine V_y (Y_move rfl) rfl rfl rfl ?_
      refine V_ge rfl rfl rfl hc23 ?_
      refine V_y (Y_eql rfl rfl) rfl rfl rfl ?_
      refine V_y (Y_pick_te rfl hc23 rfl) rfl rfl rfl ?_
      exact V_end fun a ha => ⟨(), ha.sub ⟨(by rw [hc23]; rfl), trivial⟩, rfl⟩
    · refine V_gn rfl rfl rfl hc23 rfl rfl rfl ?_
      refine V_gn rfl rfl rfl hc23 rfl rfl rfl ?_
      refine V_gn rfl rfl rfl hc23 rfl rfl rfl ?_
      refine V_y (Y_pick_fe rfl hc23 rfl) rfl rfl rfl ?_
      exact V_end fun a ha => ⟨(), ha.sub ⟨(by rw [hc23]; rfl), trivial⟩, rfl⟩
  simp only [List.take, List.drop]
  rintro _ _ rfl
  refine V_y (Y_assign rfl) rfl rfl rfl ?_
  refine V_to (fun _ _ => rfl) ?_
  obtain rfl := Option.some.inj hm
  refine C_ret ?_
  try simp only [↓inBlock_ret, ↓then_ret]
  exact retQ rfl (Res.one Tryd.results3 rfl) ⟨rfl, hK.kp⟩

end Go.Proofs.YtkdkejikbcdadaaDoor.W
