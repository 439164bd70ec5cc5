/-
  Written by program (gen.py) from the IR of the dump: each function computes its model.
-/
import Derived.Test.YtjmgafmjendnaaaCalShownW0
namespace Go.Proofs.Ytjmgafmjendnaaa.W
open Go Go.RowKit Go.Pu Go.Gw Go.Proofs Go.Proofs.Ytjmgafmjendnaaa.M
set_option linter.unusedVariables false

set_option maxRecDepth 4000 in
set_option maxHeartbeats 4000000 in
theorem portlaw2_CalShown_c (w : World) {A : Nat → Prop} (hA : ∀ b, w.heap.size ≤ b → A b) (z : cal_Zone) (v_z : Value) (h_z : Sl A w v_z z.changes) (day : Int) (minute : Int) {r : Bool} (hm : portlaw2_CalShown z day minute = some r) : Ret Try.prog 4 #[.agg #[.int .i64 z.offset, v_z], .int .i64 day, .int .i64 minute] w fun v w' => v = .bool r ∧ Kp w w' := by
  unfold portlaw2_CalShown at hm
  refine enter Try.func4 rfl Try.ntmps4 rfl ?_
  have hA0 := hA
  have hB := Nat.le_refl w.heap.size
  have hK : Tr w.heap.size A w A w := Tr.refl hA
  have hH : Hp w.heap.size A w [] := Hp.nil
  refine C_seq ?_
  refine C_region ?_
  refine V_box rfl rfl ?_
  intro b3 w4 h5
  have hk7 := h5.kp
  have h6 : El (α := cal_Zone) A w4 b3 0 z := h5.el hA ⟨[.int .i64 z.offset], _, rfl, rfl, ⟨_, rfl, h_z⟩⟩
  have ht8 := Kp.tr hk7 hA hB
  replace hH := Hp.kp hH hk7
  replace h_z := Sl.tr h_z ht8
  replace hK := Tr.trans hK ht8
  replace hB := Nat.le_trans hB ht8.ex.size
  replace hA := ht8.new
  refine V_y (Y_assign rfl) rfl rfl rfl ?_
  refine V_to (fun _ _ => rfl) ?_
  refine C_seq ?_
  refine C_region ?_
  obtain ⟨v9, h11, h10⟩ := El_cal_Zone h6
  refine V_y (Y_loadA h11 Try.isAgg24 Try.sizeOf24 rfl) rfl rfl rfl ?_
  refine V_y (Y_move rfl) rfl rfl rfl ?_
  refine V_y (Y_move rfl) rfl rfl rfl ?_
  obtain ⟨x12, hx12, hm⟩ := Option.bind_eq_some_iff.1 hm
  refine V_call Try.call19 rfl rfl rfl rfl (cal_Shown_c w4 hA z v9 h10 day minute hx12) ?_
  rintro _ w15 ⟨v13, rfl, h14, hk16⟩
  obtain ⟨A17, ht18, hH19⟩ := Hp.addOwnd hH hB hA hk16 h14
  replace h6 := El.tr h6 ht18
  replace h10 := Sl.tr h10 ht18
  replace hK := Tr.trans hK ht18
  replace hB := Nat.le_trans hB ht18.ex.size
  replace hA := ht18.new
  replace hH : Hp w.heap.size A17 w15 (obS (α := Int) 3 v13 x12.1 :: []) := hH19
  refine V_y (Y_move rfl) rfl rfl rfl ?_
  refine V_y (Y_extract rfl rfl) rfl rfl rfl ?_
  refine V_y (Y_extract rfl rfl) rfl rfl rfl ?_
  refine V_y (Y_assign rfl) rfl rfl rfl ?_
  refine V_y (Y_assign rfl) rfl rfl rfl ?_
  refine V_to (fun _ _ => rfl) ?_
  refine C_seq ?_
  refine C_region ?_
  obtain ⟨v20, h22, h21⟩ := El_cal_Zone h6
  refine V_y (Y_loadA h22 Try.isAgg24 Try.sizeOf24 rfl) rfl rfl rfl ?_
  refine V_y (Y_move rfl) rfl rfl rfl ?_
  refine V_y (Y_move rfl) rfl rfl rfl ?_
  obtain ⟨x23, hx23, hm⟩ := Option.bind_eq_some_iff.1 hm
  refine V_call Try.call20 rfl rfl rfl rfl (cal_Earliest_c w15 hA z v20 h21 day minute hx23) ?_
  rintro _ w24 ⟨rfl, hk25⟩
  have ht26 := Kp.tr hk25 hA hB
  replace hH := Hp.kp hH hk25
  replace h6 := El.tr h6 ht26
  replace h21 := Sl.tr h21 ht26
  replace hK := Tr.trans hK ht26
  replace hB := Nat.le_trans hB ht26.ex.size
  replace hA := ht26.new
  refine V_y (Y_move rfl) rfl rfl rfl ?_
  refine V_y (Y_extract rfl rfl) rfl rfl rfl ?_
  refine V_y (Y_extract rfl rfl) rfl rfl rfl ?_
  refine V_y (Y_assign rfl) rfl rfl rfl ?_
  refine V_y (Y_assign rfl) rfl rfl rfl ?_
  refine V_to (fun _ _ => rfl) ?_
  refine C_seq ?_
  refine C_seq ?_
  refine C_region ?_
  obtain ⟨v27, h29, h28⟩ := El_cal_Zone h6
  refine V_y (Y_loadA h29 Try.isAgg24 Try.sizeOf24 rfl) rfl rfl rfl ?_
  refine V_y (Y_move rfl) rfl rfl rfl ?_
  refine V_y (Y_move rfl) rfl rfl rfl ?_
  obtain ⟨x30, hx30, hm⟩ := Option.bind_eq_some_iff.1 hm
  refine V_call Try.call21 rfl rfl rfl rfl (portref2_LocalFault_c w24 hA z v27 h28 day minute hx30) ?_
  rintro _ w31 ⟨rfl, hk32⟩
  have ht33 := Kp.tr hk32 hA hB
  replace hH := Hp.kp hH hk32
  replace h6 := El.tr h6 ht33
  replace h28 := Sl.tr h28 ht33
  replace hK := Tr.trans hK ht33
  replace hB := Nat.le_trans hB ht33.ex.size
  replace hA := ht33.new
  refine V_y (Y_assign rfl) rfl rfl rfl ?_
  refine V_to (fun _ _ => rfl) ?_
  refine C_seq ?_
  refine C_region ?_
  refine V_y (Y_move rfl) rfl rfl rfl ?_
  refine V_y (Y_neq rfl rfl) rfl rfl rfl ?_
  refine V_to (fun _ _ => rfl) ?_
  refine C_cond rfl (fun hc34 => ?_) (fun hc34 => ?_)
  · rw [if_pos hc34] at hm
    refine C_seq ?_
    refine C_region ?_
    refine V_y (Y_move rfl) rfl rfl rfl ?_
    refine V_y (Y_lenSl (Hp.any (α := Int) (e := 3) (v := v13) (l := x12.1) hH (i := 0) rfl) rfl Try.underlying36 rfl) rfl rfl rfl ?_
    refine V_y (Y_eql rfl rfl) rfl rfl rfl ?_
    refine V_y (Y_move rfl) rfl rfl rfl ?_
    refine V_cut 3 (fun _ : Unit => [(8, .int .i64 x12.2), (10, .int .i64 x23.2), (11, .int .i64 x30), (39, .bool (((x12.1.length : Int) == 0) && (x23.1 == 0)))]) (fun _ w' => w31 = w') ?_ ?_
    · simp only [List.take, List.drop]
      rcases Bool.eq_false_or_eq_true ((x12.1.length : Int) == 0) with hc35 | hc35
      · refine V_ge rfl rfl rfl hc35 ?_
        refine V_y (Y_move rfl) rfl rfl rfl ?_
        refine V_ge rfl rfl rfl hc35 ?_
        refine V_y (Y_eql rfl rfl) rfl rfl rfl ?_
        refine V_y (Y_pick_te rfl hc35 rfl) rfl rfl rfl ?_
        exact V_end fun a ha => ⟨(), ha.sub ⟨rfl, rfl, rfl, (by rw [hc35]; rfl), trivial⟩, rfl⟩
      · refine V_gn rfl rfl rfl hc35 rfl rfl rfl ?_
        refine V_gn rfl rfl rfl hc35 rfl rfl rfl ?_
        refine V_y (Y_pick_fe rfl hc35 rfl) rfl rfl rfl ?_
        exact V_end fun a ha => ⟨(), ha.sub ⟨rfl, rfl, rfl, (by rw [hc35]; rfl), trivial⟩, rfl⟩
    simp only [List.take, List.drop]
    rintro _ _ rfl
    refine V_y (Y_move rfl) rfl rfl rfl ?_
    refine V_cut 4 (fun _ : Unit => [(10, .int .i64 x23.2), (11, .int .i64 x30), (44, .bool ((((x12.1.length : Int) == 0) && (x23.1 == 0)) && (x12.2 == x30)))]) (fun _ w' => w31 = w') ?_ ?_
    · simp only [List.take, List.drop]
      rcases Bool.eq_false_or_eq_true ((((x12.1.length : Int) == 0) && (x23.1 == 0))) with hc37 | hc37
      · refine V_ge rfl rfl rfl hc37 ?_
        refine V_y (Y_move rfl) rfl rfl rfl ?_
        refine V_ge rfl rfl rfl hc37 ?_
        refine V_y (Y_move rfl) rfl rfl rfl ?_
        refine V_ge rfl rfl rfl hc37 ?_
        refine V_y (Y_eql rfl rfl) rfl rfl rfl ?_
        refine V_y (Y_pick_te rfl hc37 rfl) rfl rfl rfl ?_
        exact V_end fun a ha => ⟨(), ha.sub ⟨rfl, rfl, (by rw [hc37]; rfl), trivial⟩, rfl⟩
      · refine V_gn rfl rfl rfl hc37 rfl rfl rfl ?_
        refine V_gn rfl rfl rfl hc37 rfl rfl rfl ?_
        refine V_gn rfl rfl rfl hc37 rfl rfl rfl ?_
        refine V_y (Y_pick_fe rfl hc37 rfl) rfl rfl rfl ?_
        exact V_end fun a ha => ⟨(), ha.sub ⟨rfl, rfl, (by rw [hc37]; rfl), trivial⟩, rfl⟩
    simp only [List.take, List.drop]
    rintro _ _ rfl
    refine V_y (Y_move rfl) rfl rfl rfl ?_
    refine V_cut 4 (fun _ : Unit => [(49, .bool (((((x12.1.length : Int) == 0) && (x23.1 == 0)) && (x12.2 == x30)) && (x23.2 == x30)))]) (fun _ w' => w31 = w') ?_ ?_
    · simp only [List.take, List.drop]
      rcases Bool.eq_false_or_eq_true (((((x12.1.length : Int) == 0) && (x23.1 == 0)) && (x12.2 == x30))) with hc39 | hc39
      · refine V_ge rfl rfl rfl hc39 ?_
        refine V_y (Y_move rfl) rfl rfl rfl ?_
        refine V_ge rfl rfl rfl hc39 ?_
        refine V_y (Y_move rfl) rfl rfl rfl ?_
        refine V_ge rfl rfl rfl hc39 ?_
        refine V_y (Y_eql rfl rfl) rfl rfl rfl ?_
        refine V_y (Y_pick_te rfl hc39 rfl) rfl rfl rfl ?_
        exact V_end fun a ha => ⟨(), ha.sub ⟨(by rw [hc39]; rfl), trivial⟩, rfl⟩
      · refine V_gn rfl rfl rfl hc39 rfl rfl rfl ?_
        refine V_gn rfl rfl rfl hc39 rfl rfl rfl ?_
        refine V_gn rfl rfl rfl hc39 rfl rfl rfl ?_
        refine V_y (Y_pick_fe rfl hc39 rfl) rfl rfl rfl ?_
        exact V_end fun a ha => ⟨(), ha.sub ⟨(by rw [hc39]; rfl), trivial⟩, rfl⟩
    simp only [List.take, List.drop]
    rintro _ _ rfl
    refine V_y (Y_assign rfl) rfl rfl rfl ?_
    refine V_to (fun _ _ => rfl) ?_
    obtain rfl := Option.some.inj hm
    refine C_ret ?_
    try simp only [↓inBlock_ret, ↓then_ret]
    exact retQ rfl (Res.one Try.results4 rfl) ⟨rfl, hK.kp⟩
  · rw [if_neg (nt hc34)] at hm
    refine C_skip_to (fun _ _ => rfl) ?_
    refine C_seq ?_
    refine C_region ?_
    obtain ⟨v41, h43, h42⟩ := El_cal_Zone h6
    refine V_y (Y_loadA h43 Try.isAgg24 Try.sizeOf24 rfl) rfl rfl rfl ?_
    refine V_y (Y_move rfl) rfl rfl rfl ?_
    refine V_y (Y_move rfl) rfl rfl rfl ?_
    obtain ⟨x44, hx44, hm⟩ := Option.bind_eq_some_iff.1 hm
    refine V_call Try.call22 rfl rfl rfl rfl (portref2_EarliestIn_c w31 hA z v41 h42 day minute hx44) ?_
    rintro _ w45 ⟨rfl, hk46⟩
    have ht47 := Kp.tr hk46 hA hB
    replace hH := Hp.kp hH hk46
    replace h6 := El.tr h6 ht47
    replace h42 := Sl.tr h42 ht47
    replace hK := Tr.trans hK ht47
    replace hB := Nat.le_trans hB ht47.ex.size
    replace hA := ht47.new
    refine V_y (Y_assign rfl) rfl rfl rfl ?_
    refine V_to (fun _ _ => rfl) ?_
    refine C_seq ?_
    refine C_seq ?_
    refine C_region ?_
    refine V_y (Y_move rfl) rfl rfl rfl ?_
    refine V_y (Y_lss rfl rfl) rfl rfl rfl ?_
    refine V_to (fun _ _ => rfl) ?_
    refine C_cond rfl (fun hc48 => ?_) (fun hc48 => ?_)
    · rw [if_pos hc48] at hm
      refine C_seq ?_
      obtain ⟨s50, ho49, hm⟩ := Option.bind_eq_some_iff.1 hm
      refine C_cutG (ι := (Nat → Prop)) (fun (A55 : (Nat → Prop)) => [(6, .bool s50)]) (fun (A55 : (Nat → Prop)) => fun w' => Hp w.heap.size A55 w' (obS (α := Int) 3 v13 x12.1 :: []) ∧ Tr w.heap.size A17 w45 A55 w') ?_ ?_
      · have hr51 : Tr w.heap.size A17 w45 A17 w45 := Tr.refl hA
        refine C_region ?_
        refine V_y (Y_move rfl) rfl rfl rfl ?_
        refine V_y (Y_eql rfl rfl) rfl rfl rfl ?_
        refine V_y (Y_move rfl) rfl rfl rfl ?_
        rcases Bool.eq_false_or_eq_true (x23.1 == 0) with hc57 | hc57
        · rw [if_pos hc57] at ho49
          refine V_ge rfl rfl rfl hc57 ?_
          refine V_y (Y_move rfl) rfl rfl rfl ?_
          refine V_ge rfl rfl rfl hc57 ?_
          refine V_y (Y_eql rfl rfl) rfl rfl rfl ?_
          refine V_y (Y_pick_te rfl hc57 rfl) rfl rfl rfl ?_
          refine V_y (Y_move rfl) rfl rfl rfl ?_
          rcases Bool.eq_false_or_eq_true (x23.2 == 7) with hc58 | hc58
          · rw [if_pos hc58] at ho49
            refine V_ge rfl rfl rfl hc58 ?_
            refine V_y (Y_move rfl) rfl rfl rfl ?_
            refine V_ge rfl rfl rfl hc58 ?_
            refine V_y (Y_eql rfl rfl) rfl rfl rfl ?_
            refine V_y (Y_pick_te rfl hc58 rfl) rfl rfl rfl ?_
            refine V_y (Y_move rfl) rfl rfl rfl ?_
            rcases Bool.eq_false_or_eq_true (x12.2 == 0) with hc59 | hc59
            · rw [if_pos hc59] at ho49
              refine V_ge rfl rfl rfl hc59 ?_
              refine V_y (Y_move rfl) rfl rfl rfl ?_
              refine V_ge rfl rfl rfl hc59 ?_
              obtain ⟨v60, h62, h61⟩ := El_cal_Zone h6
              refine V_y (Y_loadA h62 Try.isAgg24 Try.sizeOf24 rfl) rfl rfl rfl ?_
              refine V_ge rfl rfl rfl hc59 ?_
              refine V_y (Y_move rfl) rfl rfl rfl ?_
              refine V_ge rfl rfl rfl hc59 ?_
              refine V_y (Y_move rfl) rfl rfl rfl ?_
              refine V_ge rfl rfl rfl hc59 ?_
              obtain ⟨x63, hx63, ho49⟩ := Option.bind_eq_some_iff.1 ho49
              refine V_call Try.call24 rfl rfl rfl rfl (portref2_ShownIn_c w45 hA z v60 h61 day minute hx63) ?_
              rintro v64 w66 ⟨_, rfl, h65, hk67⟩
              obtain ⟨A68, ht69, hH70⟩ := Hp.addOwnd hH hB hA hk67 h65
              replace h6 := El.tr h6 ht69
              replace h61 := Sl.tr h61 ht69
              replace hK := Tr.trans hK ht69
              replace hr51 := Tr.trans hr51 ht69
              replace hB := Nat.le_trans hB ht69.ex.size
              replace hA := ht69.new
              replace hH : Hp w.heap.size A68 w66 (obS (α := Int) 3 v64 x63 :: obS (α := Int) 3 v13 x12.1 :: []) := hH70
              refine V_ge rfl rfl rfl hc59 ?_
              obtain ⟨x71, hx71, ho49⟩ := Option.bind_eq_some_iff.1 ho49
              refine V_call Try.call23 rfl rfl rfl rfl (slices_Equal_Lint_int_c w66 (A := fun _ => True) (fun _ _ => trivial) x12.1 v13 (Hp.any (α := Int) (e := 3) (v := v13) (l := x12.1) hH (i := 1) rfl) x63 v64 (Hp.any (α := Int) (e := 3) (v := v64) (l := x63) hH (i := 0) rfl) hx71) ?_
              rintro _ w72 ⟨rfl, hk73⟩
              have ht74 := Kp.tr hk73 hA hB
              replace hH := Hp.kp hH hk73
              replace h6 := El.tr h6 ht74
              replace h61 := Sl.tr h61 ht74
              replace hK := Tr.trans hK ht74
              replace hr51 := Tr.trans hr51 ht74
              replace hB := Nat.le_trans hB ht74.ex.size
              replace hA := ht74.new
              refine V_y (Y_pick_te rfl hc59 rfl) rfl rfl rfl ?_
              refine V_y (Y_assign rfl) rfl rfl rfl ?_
              obtain rfl := Option.some.inj ho49
              refine V_end (fun a ha75 => ?_)
              replace hH : Hp w.heap.size A68 w72 (obS (α := Int) 3 v13 x12.1 :: obS (α := Int) 3 v64 x63 :: []) := Hp.front hH (i := 1) rfl
              replace hH : Hp w.heap.size A68 w72 (obS (α := Int) 3 v13 x12.1 :: []) := Hp.drop hH (i := 1) rfl
              exact ⟨A68, ha75.sub ⟨rfl, trivial⟩, ⟨hH, hr51⟩⟩
            · rw [if_neg (nt hc59)] at ho49
              refine V_gn rfl rfl rfl hc59 rfl rfl rfl ?_
              refine V_gn rfl rfl rfl hc59 rfl rfl rfl ?_
              refine V_gn rfl rfl rfl hc59 rfl rfl rfl ?_
              refine V_gn rfl rfl rfl hc59 rfl rfl rfl ?_
              refine V_gn rfl rfl rfl hc59 rfl rfl rfl ?_
              refine V_gn rfl rfl rfl hc59 rfl rfl rfl ?_
              refine V_y (Y_pick_fe rfl hc59 rfl) rfl rfl rfl ?_
              refine V_y (Y_assign rfl) rfl rfl rfl ?_
              obtain rfl := Option.some.inj ho49
              refine V_end (fun a ha76 => ?_)
              exact ⟨A17, ha76.sub ⟨rfl, trivial⟩, ⟨hH, hr51⟩⟩
          · rw [if_neg (nt hc58)] at ho49
            refine V_gn rfl rfl rfl hc58 rfl rfl rfl ?_
            refine V_gn rfl rfl rfl hc58 rfl rfl rfl ?_
            refine V_y (Y_pick_fe rfl hc58 rfl) rfl rfl rfl ?_
            refine V_y (Y_move rfl) rfl rfl rfl ?_
            rcases Bool.eq_false_or_eq_true (false) with hc77 | hc77
            · rw [if_pos hc77] at ho49
              refine V_ge rfl rfl rfl hc77 ?_
              refine V_y (Y_move rfl) rfl rfl rfl ?_
              refine V_ge rfl rfl rfl hc77 ?_
              obtain ⟨v78, h80, h79⟩ := El_cal_Zone h6
              refine V_y (Y_loadA h80 Try.isAgg24 Try.sizeOf24 rfl) rfl rfl rfl ?_
              refine V_ge rfl rfl rfl hc77 ?_
              refine V_y (Y_move rfl) rfl rfl rfl ?_
              refine V_ge rfl rfl rfl hc77 ?_
              refine V_y (Y_move rfl) rfl rfl rfl ?_
              refine V_ge rfl rfl rfl hc77 ?_
              obtain ⟨x81, hx81, ho49⟩ := Option.bind_eq_some_iff.1 ho49
              refine V_call Try.call24 rfl rfl rfl rfl (portref2_ShownIn_c w45 hA z v78 h79 day minute hx81) ?_
              rintro v82 w84 ⟨_, rfl, h83, hk85⟩
              obtain ⟨A86, ht87, hH88⟩ := Hp.addOwnd hH hB hA hk85 h83
              replace h6 := El.tr h6 ht87
              replace h79 := Sl.tr h79 ht87
              replace hK := Tr.trans hK ht87
              replace hr51 := Tr.trans hr51 ht87
              replace hB := Nat.le_trans hB ht87.ex.size
              replace hA := ht87.new
              replace hH : Hp w.heap.size A86 w84 (obS (α := Int) 3 v82 x81 :: obS (α := Int) 3 v13 x12.1 :: []) := hH88
              refine V_ge rfl rfl rfl hc77 ?_
              obtain ⟨x89, hx89, ho49⟩ := Option.bind_eq_some_iff.1 ho49
              refine V_call Try.call23 rfl rfl rfl rfl (slices_Equal_Lint_int_c w84 (A := fun _ => True) (fun _ _ => trivial) x12.1 v13 (Hp.any (α := Int) (e := 3) (v := v13) (l := x12.1) hH (i := 1) rfl) x81 v82 (Hp.any (α := Int) (e := 3) (v := v82) (l := x81) hH (i := 0) rfl) hx89) ?_
              rintro _ w90 ⟨rfl, hk91⟩
              have ht92 := Kp.tr hk91 hA hB
              replace hH := Hp.kp hH hk91
              replace h6 := El.tr h6 ht92
              replace h79 := Sl.tr h79 ht92
              replace hK := Tr.trans hK ht92
              replace hr51 := Tr.trans hr51 ht92
              replace hB := Nat.le_trans hB ht92.ex.size
              replace hA := ht92.new
              refine V_y (Y_pick_te rfl hc77 rfl) rfl rfl rfl ?_
              refine V_y (Y_assign rfl) rfl rfl rfl ?_
              obtain rfl := Option.some.inj ho49
              refine V_end (fun a ha93 => ?_)
              replace hH : Hp w.heap.size A86 w90 (obS (α := Int) 3 v13 x12.1 :: obS (α := Int) 3 v82 x81 :: []) := Hp.front hH (i := 1) rfl
              replace hH : Hp w.heap.size A86 w90 (obS (α := Int) 3 v13 x12.1 :: []) := Hp.drop hH (i := 1) rfl
              exact ⟨A86, ha93.sub ⟨rfl, trivial⟩, ⟨hH, hr51⟩⟩
            · rw [if_neg (nt hc77)] at ho49
              refine V_gn rfl rfl rfl hc77 rfl rfl rfl ?_
              refine V_gn rfl rfl rfl hc77 rfl rfl rfl ?_
              refine V_gn rfl rfl rfl hc77 rfl rfl rfl ?_
              refine V_gn rfl rfl rfl hc77 rfl rfl rfl ?_
              refine V_gn rfl rfl rfl hc77 rfl rfl rfl ?_
              refine V_gn rfl rfl rfl hc77 rfl rfl rfl ?_
              refine V_y (Y_pick_fe rfl hc77 rfl) rfl rfl rfl ?_
              refine V_y (Y_assign rfl) rfl rfl rfl ?_
              obtain rfl := Option.some.inj ho49
              refine V_end (fun a ha94 => ?_)
              exact ⟨A17, ha94.sub ⟨rfl, trivial⟩, ⟨hH, hr51⟩⟩
        · rw [if_neg (nt hc57)] at ho49
          refine V_gn rfl rfl rfl hc57 rfl rfl rfl ?_
          refine V_gn rfl rfl rfl hc57 rfl rfl rfl ?_
          refine V_y (Y_pick_fe rfl hc57 rfl) rfl rfl rfl ?_
          refine V_y (Y_move rfl) rfl rfl rfl ?_
          rcases Bool.eq_false_or_eq_true (false) with hc95 | hc95
          · rw [if_pos hc95] at ho49
            refine V_ge rfl rfl rfl hc95 ?_
            refine V_y (Y_move rfl) rfl rfl rfl ?_
            refine V_ge rfl rfl rfl hc95 ?_
            refine V_y (Y_eql rfl rfl) rfl rfl rfl ?_
            refine V_y (Y_pick_te rfl hc95 rfl) rfl rfl rfl ?_
            refine V_y (Y_move rfl) rfl rfl rfl ?_
            rcases Bool.eq_false_or_eq_true (x12.2 == 0) with hc96 | hc96
            · rw [if_pos hc96] at ho49
              refine V_ge rfl rfl rfl hc96 ?_
              refine V_y (Y_move rfl) rfl rfl rfl ?_
              refine V_ge rfl rfl rfl hc96 ?_
              obtain ⟨v97, h99, h98⟩ := El_cal_Zone h6
              refine V_y (Y_loadA h99 Try.isAgg24 Try.sizeOf24 rfl) rfl rfl rfl ?_
              refine V_ge rfl rfl rfl hc96 ?_
              refine V_y (Y_move rfl) rfl rfl rfl ?_
              refine V_ge rfl rfl rfl hc96 ?_
              refine V_y (Y_move rfl) rfl rfl rfl ?_
              refine V_ge rfl rfl rfl hc96 ?_
              obtain ⟨x100, hx100, ho49⟩ := Option.bind_eq_some_iff.1 ho49
              refine V_call Try.call24 rfl rfl rfl rfl (portref2_ShownIn_c w45 hA z v97 h98 day minute hx100) ?_
              rintro v101 w103 ⟨_, rfl, h102, hk104⟩
              obtain ⟨A105, ht106, hH107⟩ := Hp.addOwnd hH hB hA hk104 h102
              replace h6 := El.tr h6 ht106
              replace h98 := Sl.tr h98 ht106
              replace hK := Tr.trans hK ht106
              replace hr51 := Tr.trans hr51 ht106
              replace hB := Nat.le_trans hB ht106.ex.size
              replace hA := ht106.new
              replace hH : Hp w.heap.size A105 w103 (obS (α := Int) 3 v101 x100 :: obS (α := Int) 3 v13 x12.1 :: []) := hH107
              refine V_ge rfl rfl rfl hc96 ?_
              obtain ⟨x108, hx108, ho49⟩ := Option.bind_eq_some_iff.1 ho49
              refine V_call Try.call23 rfl rfl rfl rfl (slices_Equal_Lint_int_c w103 (A := fun _ => True) (fun _ _ => trivial) x12.1 v13 (Hp.any (α := Int) (e := 3) (v := v13) (l := x12.1) hH (i := 1) rfl) x100 v101 (Hp.any (α := Int) (e := 3) (v := v101) (l := x100) hH (i := 0) rfl) hx108) ?_
              rintro _ w109 ⟨rfl, hk110⟩
              have ht111 := Kp.tr hk110 hA hB
              replace hH := Hp.kp hH hk110
              replace h6 := El.tr h6 ht111
              replace h98 := Sl.tr h98 ht111
              replace hK := Tr.trans hK ht111
              replace hr51 := Tr.trans hr51 ht111
              replace hB := Nat.le_trans hB ht111.ex.size
              replace hA := ht111.new
              refine V_y (Y_pick_te rfl hc96 rfl) rfl rfl rfl ?_
              refine V_y (Y_assign rfl) rfl rfl rfl ?_
              obtain rfl := Option.some.inj ho49
              refine V_end (fun a ha112 => ?_)
              replace hH : Hp w.heap.size A105 w109 (obS (α := Int) 3 v13 x12.1 :: obS (α := Int) 3 v101 x100 :: []) := Hp.front hH (i := 1) rfl
              replace hH : Hp w.heap.size A105 w109 (obS (α := Int) 3 v13 x12.1 :: []) := Hp.drop hH (i := 1) rfl
              exact ⟨A105, ha112.sub ⟨rfl, trivial⟩, ⟨hH, hr51⟩⟩
            · rw [if_neg (nt hc96)] at ho49
              refine V_gn rfl rfl rfl hc96 rfl rfl rfl ?_
              refine V_gn rfl rfl rfl hc96 rfl rfl rfl ?_
              refine V_gn rfl rfl rfl hc96 rfl rfl rfl ?_
              refine V_gn rfl rfl rfl hc96 rfl rfl rfl ?_
              refine V_gn rfl rfl rfl hc96 rfl rfl rfl ?_
              refine V_gn rfl rfl rfl hc96 rfl rfl rfl ?_
              refine V_y (Y_pick_fe rfl hc96 rfl) rfl rfl rfl ?_
              refine V_y (Y_assign rfl) rfl rfl rfl ?_
              obtain rfl := Option.some.inj ho49
              refine V_end (fun a ha113 => ?_)
              exact ⟨A17, ha113.sub ⟨rfl, trivial⟩, ⟨hH, hr51⟩⟩
          · rw [if_neg (nt hc95)] at ho49
            refine V_gn rfl rfl rfl hc95 rfl rfl rfl ?_
            refine V_gn rfl rfl rfl hc95 rfl rfl rfl ?_
            refine V_y (Y_pick_fe rfl hc95 rfl) rfl rfl rfl ?_
            refine V_y (Y_move rfl) rfl rfl rfl ?_
            rcases Bool.eq_false_or_eq_true (false) with hc114 | hc114
            · rw [if_pos hc114] at ho49
              refine V_ge rfl rfl rfl hc114 ?_
              refine V_y (Y_move rfl) rfl rfl rfl ?_
              refine V_ge rfl rfl rfl hc114 ?_
              obtain ⟨v115, h117, h116⟩ := El_cal_Zone h6
              refine V_y (Y_loadA h117 Try.isAgg24 Try.sizeOf24 rfl) rfl rfl rfl ?_
              refine V_ge rfl rfl rfl hc114 ?_
              refine V_y (Y_move rfl) rfl rfl rfl ?_
              refine V_ge rfl rfl rfl hc114 ?_
              refine V_y (Y_move rfl) rfl rfl rfl ?_
              refine V_ge rfl rfl rfl hc114 ?_
              obtain ⟨x118, hx118, ho49⟩ := Option.bind_eq_some_iff.1 ho49
              refine V_call Try.call24 rfl rfl rfl rfl (portref2_ShownIn_c w45 hA z v115 h116 day minute hx118) ?_
              rintro v119 w121 ⟨_, rfl, h120, hk122⟩
              obtain ⟨A123, ht124, hH125⟩ := Hp.addOwnd hH hB hA hk122 h120
              replace h6 := El.tr h6 ht124
              replace h116 := Sl.tr h116 ht124
              replace hK := Tr.trans hK ht124
              replace hr51 := Tr.trans hr51 ht124
              replace hB := Nat.le_trans hB ht124.ex.size
              replace hA := ht124.new
              replace hH : Hp w.heap.size A123 w121 (obS (α := Int) 3 v119 x118 :: obS (α := Int) 3 v13 x12.1 :: []) := hH125
              refine V_ge rfl rfl rfl hc114 ?_
              obtain ⟨x126, hx126, ho49⟩ := Option.bind_eq_some_iff.1 ho49
              refine V_call Try.call23 rfl rfl rfl rfl (slices_Equal_Lint_int_c w121 (A := fun _ => True) (fun _ _ => trivial) x12.1 v13 (Hp.any (α := Int) (e := 3) (v := v13) (l := x12.1) hH (i := 1) rfl) x118 v119 (Hp.any (α := Int) (e := 3) (v := v119) (l := x118) hH (i := 0) rfl) hx126) ?_
              rintro _ w127 ⟨rfl, hk128⟩
              have ht129 := Kp.tr hk128 hA hB
              replace hH := Hp.kp hH hk128
              replace h6 := El.tr h6 ht129
              replace h116 := Sl.tr h116 ht129
              replace hK := Tr.trans hK ht129
              replace hr51 := Tr.trans hr51 ht129
              replace hB := Nat.le_trans hB ht129.ex.size
              replace hA := ht129.new
              refine V_y (Y_pick_te rfl hc114 rfl) rfl rfl rfl ?_
              refine V_y (Y_assign rfl) rfl rfl rfl ?_
              obtain rfl := Option.some.inj ho49
              refine V_end (fun a ha130 => ?_)
              replace hH : Hp w.heap.size A123 w127 (obS (α := Int) 3 v13 x12.1 :: obS (α := Int) 3 v119 x118 :: []) := Hp.front hH (i := 1) rfl
              replace hH : Hp w.heap.size A123 w127 (obS (α := Int) 3 v13 x12.1 :: []) := Hp.drop hH (i := 1) rfl
              exact ⟨A123, ha130.sub ⟨rfl, trivial⟩, ⟨hH, hr51⟩⟩
            · rw [if_neg (nt hc114)] at ho49
              refine V_gn rfl rfl rfl hc114 rfl rfl rfl ?_
              refine V_gn rfl rfl rfl hc114 rfl rfl rfl ?_
              refine V_gn rfl rfl rfl hc114 rfl rfl rfl ?_
              refine V_gn rfl rfl rfl hc114 rfl rfl rfl ?_
              refine V_gn rfl rfl rfl hc114 rfl rfl rfl ?_
              refine V_gn rfl rfl rfl hc114 rfl rfl rfl ?_
              refine V_y (Y_pick_fe rfl hc114 rfl) rfl rfl rfl ?_
              refine V_y (Y_assign rfl) rfl rfl rfl ?_
              obtain rfl := Option.some.inj ho49
              refine V_end (fun a ha131 => ?_)
              exact ⟨A17, ha131.sub ⟨rfl, trivial⟩, ⟨hH, hr51⟩⟩
      rintro A55 w52 ⟨hH56, hk53⟩ a ha54
      replace hK := Tr.trans hK hk53
      replace hB := Nat.le_trans hB hk53.ex.size
      replace hA := hk53.new
      replace hH : Hp w.heap.size A55 w52 (obS (α := Int) 3 v13 x12.1 :: []) := hH56
      refine C_at (n := ⟨93, [], none⟩) (fun _ _ => rfl) ?_ ha54
      obtain rfl := Option.some.inj hm
      refine C_ret ?_
      try simp only [↓inBlock_ret, ↓then_ret]
      exact retQ rfl (Res.one Try.results4 rfl) ⟨rfl, hK.kp⟩
    · rw [if_neg (nt hc48)] at hm
      refine C_skip_to (fun _ _ => rfl) ?_
      refine C_seq ?_
      obtain ⟨s133, ho132, hm⟩ := Option.bind_eq_some_iff.1 hm
      refine C_cutG (ι := (Nat → Prop)) (fun (A138 : (Nat → Prop)) => [(6, .bool s133)]) (fun (A138 : (Nat → Prop)) => fun w' => Hp w.heap.size A138 w' (obS (α := Int) 3 v13 x12.1 :: []) ∧ Tr w.heap.size A17 w45 A138 w') ?_ ?_
      · have hr134 : Tr w.heap.size A17 w45 A17 w45 := Tr.refl hA
        refine C_region ?_
        refine V_y (Y_move rfl) rfl rfl rfl ?_
        refine V_y (Y_move rfl) rfl rfl rfl ?_
        refine V_y (Y_eql rfl rfl) rfl rfl rfl ?_
        refine V_y (Y_move rfl) rfl rfl rfl ?_
        rcases Bool.eq_false_or_eq_true (x23.1 == x44) with hc140 | hc140
        · rw [if_pos hc140] at ho132
          refine V_ge rfl rfl rfl hc140 ?_
          refine V_y (Y_move rfl) rfl rfl rfl ?_
          refine V_ge rfl rfl rfl hc140 ?_
          refine V_y (Y_eql rfl rfl) rfl rfl rfl ?_
          refine V_y (Y_pick_te rfl hc140 rfl) rfl rfl rfl ?_
          refine V_y (Y_move rfl) rfl rfl rfl ?_
          rcases Bool.eq_false_or_eq_true (x12.2 == 0) with hc141 | hc141
          · rw [if_pos hc141] at ho132
            refine V_ge rfl rfl rfl hc141 ?_
            refine V_y (Y_move rfl) rfl rfl rfl ?_
            refine V_ge rfl rfl rfl hc141 ?_
            refine V_y (Y_eql rfl rfl) rfl rfl rfl ?_
            refine V_y (Y_pick_te rfl hc141 rfl) rfl rfl rfl ?_
            refine V_y (Y_move rfl) rfl rfl rfl ?_
            rcases Bool.eq_false_or_eq_true (x23.2 == 0) with hc142 | hc142
            · rw [if_pos hc142] at ho132
              refine V_ge rfl rfl rfl hc142 ?_
              refine V_y (Y_move rfl) rfl rfl rfl ?_
              refine V_ge rfl rfl rfl hc142 ?_
              obtain ⟨v143, h145, h144⟩ := El_cal_Zone h6
              refine V_y (Y_loadA h145 Try.isAgg24 Try.sizeOf24 rfl) rfl rfl rfl ?_
              refine V_ge rfl rfl rfl hc142 ?_
              refine V_y (Y_move rfl) rfl rfl rfl ?_
              refine V_ge rfl rfl rfl hc142 ?_
              refine V_y (Y_move rfl) rfl rfl rfl ?_
              refine V_ge rfl rfl rfl hc142 ?_
              obtain ⟨x146, hx146, ho132⟩ := Option.bind_eq_some_iff.1 ho132
              refine V_call Try.call24 rfl rfl rfl rfl (portref2_ShownIn_c w45 hA z v143 h144 day minute hx146) ?_
              rintro v147 w149 ⟨_, rfl, h148, hk150⟩
              obtain ⟨A151, ht152, hH153⟩ := Hp.addOwnd hH hB hA hk150 h148
              replace h6 := El.tr h6 ht152
              replace h144 := Sl.tr h144 ht152
              replace hK := Tr.trans hK ht152
              replace hr134 := Tr.trans hr134 ht152
              replace hB := Nat.le_trans hB ht152.ex.size
              replace hA := ht152.new
              replace hH : Hp w.heap.size A151 w149 (obS (α := Int) 3 v147 x146 :: obS (α := Int) 3 v13 x12.1 :: []) := hH153
              refine V_ge rfl rfl rfl hc142 ?_
              obtain ⟨x154, hx154, ho132⟩ := Option.bind_eq_some_iff.1 ho132
              refine V_call Try.call23 rfl rfl rfl rfl (slices_Equal_Lint_int_c w149 (A := fun _ => True) (fun _ _ => trivial) x12.1 v13 (Hp.any (α := Int) (e := 3) (v := v13) (l := x12.1) hH (i := 1) rfl) x146 v147 (Hp.any (α := Int) (e := 3) (v := v147) (l := x146) hH (i := 0) rfl) hx154) ?_
              rintro _ w155 ⟨rfl, hk156⟩
              have ht157 := Kp.tr hk156 hA hB
              replace hH := Hp.kp hH hk156
              replace h6 := El.tr h6 ht157
              replace h144 := Sl.tr h144 ht157
              replace hK := Tr.trans hK ht157
              replace hr134 := Tr.trans hr134 ht157
              replace hB := Nat.le_trans hB ht157.ex.size
              replace hA := ht157.new
              refine V_y (Y_pick_te rfl hc142 rfl) rfl rfl rfl ?_
              refine V_y (Y_assign rfl) rfl rfl rfl ?_
              obtain rfl := Option.some.inj ho132
              refine V_end (fun a ha158 => ?_)
              replace hH : Hp w.heap.size A151 w155 (obS (α := Int) 3 v13 x12.1 :: obS (α := Int) 3 v147 x146 :: []) := Hp.front hH (i := 1) rfl
              replace hH : Hp w.heap.size A151 w155 (obS (α := Int) 3 v13 x12.1 :: []) := Hp.drop hH (i := 1) rfl
              exact ⟨A151, ha158.sub ⟨rfl, trivial⟩, ⟨hH, hr134⟩⟩
            · rw [if_neg (nt hc142)] at ho132
              refine V_gn rfl rfl rfl hc142 rfl rfl rfl ?_
              refine V_gn rfl rfl rfl hc142 rfl rfl rfl ?_
              refine V_gn rfl rfl rfl hc142 rfl rfl rfl ?_
              refine V_gn rfl rfl rfl hc142 rfl rfl rfl ?_
              refine V_gn rfl rfl rfl hc142 rfl rfl rfl ?_
              refine V_gn rfl rfl rfl hc142 rfl rfl rfl ?_
              refine V_y (Y_pick_fe rfl hc142 rfl) rfl rfl rfl ?_
              refine V_y (Y_assign rfl) rfl rfl rfl ?_
              obtain rfl := Option.some.inj ho132
              refine V_end (fun a ha159 => ?_)
              exact ⟨A17, ha159.sub ⟨rfl, trivial⟩, ⟨hH, hr134⟩⟩
          · rw [if_neg (nt hc141)] at ho132
            refine V_gn rfl rfl rfl hc141 rfl rfl rfl ?_
            refine V_gn rfl rfl rfl hc141 rfl rfl rfl ?_
            refine V_y (Y_pick_fe rfl hc141 rfl) rfl rfl rfl ?_
            refine V_y (Y_move rfl) rfl rfl rfl ?_
            rcases Bool.eq_false_or_eq_true (false) with hc160 | hc160
            · rw [if_pos hc160] at ho132
              refine V_ge rfl rfl rfl hc160 ?_
              refine V_y (Y_move rfl) rfl rfl rfl ?_
              refine V_ge rfl rfl rfl hc160 ?_
              obtain ⟨v161, h163, h162⟩ := El_cal_Zone h6
              refine V_y (Y_loadA h163 Try.isAgg24 Try.sizeOf24 rfl) rfl rfl rfl ?_
              refine V_ge rfl rfl rfl hc160 ?_
              refine V_y (Y_move rfl) rfl rfl rfl ?_
              refine V_ge rfl rfl rfl hc160 ?_
              refine V_y (Y_move rfl) rfl rfl rfl ?_
              refine V_ge rfl rfl rfl hc160 ?_
              obtain ⟨x164, hx164, ho132⟩ := Option.bind_eq_some_iff.1 ho132
              refine V_call Try.call24 rfl rfl rfl rfl (portref2_ShownIn_c w45 hA z v161 h162 day minute hx164) ?_
              rintro v165 w167 ⟨_, rfl, h166, hk168⟩
              obtain ⟨A169, ht170, hH171⟩ := Hp.addOwnd hH hB hA hk168 h166
              replace h6 := El.tr h6 ht170
              replace h162 := Sl.tr h162 ht170
              replace hK := Tr.trans hK ht170
              replace hr134 := Tr.trans hr134 ht170
              replace hB := Nat.le_trans hB ht170.ex.size
              replace hA := ht170.new
              replace hH : Hp w.heap.size A169 w167 (obS (α := Int) 3 v165 x164 :: obS (α := Int) 3 v13 x12.1 :: []) := hH171
              refine V_ge rfl rfl rfl hc160 ?_
              obtain ⟨x172, hx172, ho132⟩ := Option.bind_eq_some_iff.1 ho132
              refine V_call Try.call23 rfl rfl rfl rfl (slices_Equal_Lint_int_c w167 (A := fun _ => True) (fun _ _ => trivial) x12.1 v13 (Hp.any (α := Int) (e := 3) (v := v13) (l := x12.1) hH (i := 1) rfl) x164 v165 (Hp.any (α := Int) (e := 3) (v := v165) (l := x164) hH (i := 0) rfl) hx172) ?_
              rintro _ w173 ⟨rfl, hk174⟩
              have ht175 := Kp.tr hk174 hA hB
              replace hH := Hp.kp hH hk174
              replace h6 := El.tr h6 ht175
              replace h162 := Sl.tr h162 ht175
              replace hK := Tr.trans hK ht175
              replace hr134 := Tr.trans hr134 ht175
              replace hB := Nat.le_trans hB ht175.ex.size
              replace hA := ht175.new
              refine V_y (Y_pick_te rfl hc160 rfl) rfl rfl rfl ?_
              refine V_y (Y_assign rfl) rfl rfl rfl ?_
              obtain rfl := Option.some.inj ho132
              refine V_end (fun a ha176 => ?_)
              replace hH : Hp w.heap.size A169 w173 (obS (α := Int) 3 v13 x12.1 :: obS (α := Int) 3 v165 x164 :: []) := Hp.front hH (i := 1) rfl
              replace hH : Hp w.heap.size A169 w173 (obS (α := Int) 3 v13 x12.1 :: []) := Hp.drop hH (i := 1) rfl
              exact ⟨A169, ha176.sub ⟨rfl, trivial⟩, ⟨hH, hr134⟩⟩
            · rw [if_neg (nt hc160)] at ho132
              refine V_gn rfl rfl rfl hc160 rfl rfl rfl ?_
              refine V_gn rfl rfl rfl hc160 rfl rfl rfl ?_
              refine V_gn rfl rfl rfl hc160 rfl rfl rfl ?_
              refine V_gn rfl rfl rfl hc160 rfl rfl rfl ?_
              refine V_gn rfl rfl rfl hc160 rfl rfl rfl ?_
              refine V_gn rfl rfl rfl hc160 rfl rfl rfl ?_
              refine V_y (Y_pick_fe rfl hc160 rfl) rfl rfl rfl ?_
              refine V_y (Y_assign rfl) rfl rfl rfl ?_
              obtain rfl := Option.some.inj ho132
              refine V_end (fun a ha177 => ?_)
              exact ⟨A17, ha177.sub ⟨rfl, trivial⟩, ⟨hH, hr134⟩⟩
        · rw [if_neg (nt hc140)] at ho132
          refine V_gn rfl rfl rfl hc140 rfl rfl rfl ?_
          refine V_gn rfl rfl rfl hc140 rfl rfl rfl ?_
          refine V_y (Y_pick_fe rfl hc140 rfl) rfl rfl rfl ?_
          refine V_y (Y_move rfl) rfl rfl rfl ?_
          rcases Bool.eq_false_or_eq_true (false) with hc178 | hc178
          · rw [if_pos hc178] at ho132
            refine V_ge rfl rfl rfl hc178 ?_
            refine V_y (Y_move rfl) rfl rfl rfl ?_
            refine V_ge rfl rfl rfl hc178 ?_
            refine V_y (Y_eql rfl rfl) rfl rfl rfl ?_
            refine V_y (Y_pick_te rfl hc178 rfl) rfl rfl rfl ?_
            refine V_y (Y_move rfl) rfl rfl rfl ?_
            rcases Bool.eq_false_or_eq_true (x23.2 == 0) with hc179 | hc179
            · rw [if_pos hc179] at ho132
              refine V_ge rfl rfl rfl hc179 ?_
              refine V_y (Y_move rfl) rfl rfl rfl ?_
              refine V_ge rfl rfl rfl hc179 ?_
              obtain ⟨v180, h182, h181⟩ := El_cal_Zone h6
              refine V_y (Y_loadA h182 Try.isAgg24 Try.sizeOf24 rfl) rfl rfl rfl ?_
              refine V_ge rfl rfl rfl hc179 ?_
              refine V_y (Y_move rfl) rfl rfl rfl ?_
              refine V_ge rfl rfl rfl hc179 ?_
              refine V_y (Y_move rfl) rfl rfl rfl ?_
              refine V_ge rfl rfl rfl hc179 ?_
              obtain ⟨x183, hx183, ho132⟩ := Option.bind_eq_some_iff.1 ho132
              refine V_call Try.call24 rfl rfl rfl rfl (portref2_ShownIn_c w45 hA z v180 h181 day minute hx183) ?_
              rintro v184 w186 ⟨_, rfl, h185, hk187⟩
              obtain ⟨A188, ht189, hH190⟩ := Hp.addOwnd hH hB hA hk187 h185
              replace h6 := El.tr h6 ht189
              replace h181 := Sl.tr h181 ht189
              replace hK := Tr.trans hK ht189
              replace hr134 := Tr.trans hr134 ht189
              replace hB := Nat.le_trans hB ht189.ex.size
              replace hA := ht189.new
              replace hH : Hp w.heap.size A188 w186 (obS (α := Int) 3 v184 x183 :: obS (α := Int) 3 v13 x12.1 :: []) := hH190
              refine V_ge rfl rfl rfl hc179 ?_
              obtain ⟨x191, hx191, ho132⟩ := Option.bind_eq_some_iff.1 ho132
              refine V_call Try.call23 rfl rfl rfl rfl (slices_Equal_Lint_int_c w186 (A := fun _ => True) (fun _ _ => trivial) x12.1 v13 (Hp.any (α := Int) (e := 3) (v := v13) (l := x12.1) hH (i := 1) rfl) x183 v184 (Hp.any (α := Int) (e := 3) (v := v184) (l := x183) hH (i := 0) rfl) hx191) ?_
              rintro _ w192 ⟨rfl, hk193⟩
              have ht194 := Kp.tr hk193 hA hB
              replace hH := Hp.kp hH hk193
              replace h6 := El.tr h6 ht194
              replace h181 := Sl.tr h181 ht194
              replace hK := Tr.trans hK ht194
              replace hr134 := Tr.trans hr134 ht194
              replace hB := Nat.le_trans hB ht194.ex.size
              replace hA := ht194.new
              refine V_y (Y_pick_te rfl hc179 rfl) rfl rfl rfl ?_
              refine V_y (Y_assign rfl) rfl rfl rfl ?_
              obtain rfl := Option.some.inj ho132
              refine V_end (fun a ha195 => ?_)
              replace hH : Hp w.heap.size A188 w192 (obS (α := Int) 3 v13 x12.1 :: obS (α := Int) 3 v184 x183 :: []) := Hp.front hH (i := 1) rfl
              replace hH : Hp w.heap.size A188 w192 (obS (α := Int) 3 v13 x12.1 :: []) := Hp.drop hH (i := 1) rfl
              exact ⟨A188, ha195.sub ⟨rfl, trivial⟩, ⟨hH, hr134⟩⟩
            · rw [if_neg (nt hc179)] at ho132
              refine V_gn rfl rfl rfl hc179 rfl rfl rfl ?_
              refine V_gn rfl rfl rfl hc179 rfl rfl rfl ?_
              refine V_gn rfl rfl rfl hc179 rfl rfl rfl ?_
              refine V_gn rfl rfl rfl hc179 rfl rfl rfl ?_
              refine V_gn rfl rfl rfl hc179 rfl rfl rfl ?_
              refine V_gn rfl rfl rfl hc179 rfl rfl rfl ?_
              refine V_y (Y_pick_fe rfl hc179 rfl) rfl rfl rfl ?_
              refine V_y (Y_assign rfl) rfl rfl rfl ?_
              obtain rfl := Option.some.inj ho132
              refine V_end (fun a ha196 => ?_)
              exact ⟨A17, ha196.sub ⟨rfl, trivial⟩, ⟨hH, hr134⟩⟩
          · rw [if_neg (nt hc178)] at ho132
            refine V_gn rfl rfl rfl hc178 rfl rfl rfl ?_
            refine V_gn rfl rfl rfl hc178 rfl rfl rfl ?_
            refine V_y (Y_pick_fe rfl hc178 rfl) rfl rfl rfl ?_
            refine V_y (Y_move rfl) rfl rfl rfl ?_
            rcases Bool.eq_false_or_eq_true (false) with hc197 | hc197
            · rw [if_pos hc197] at ho132
              refine V_ge rfl rfl rfl hc197 ?_
              refine V_y (Y_move rfl) rfl rfl rfl ?_
              refine V_ge rfl rfl rfl hc197 ?_
              obtain ⟨v198, h200, h199⟩ := El_cal_Zone h6
              refine V_y (Y_loadA h200 Try.isAgg24 Try.sizeOf24 rfl) rfl rfl rfl ?_
              refine V_ge rfl rfl rfl hc197 ?_
              refine V_y (Y_move rfl) rfl rfl rfl ?_
              refine V_ge rfl rfl rfl hc197 ?_
              refine V_y (Y_move rfl) rfl rfl rfl ?_
              refine V_ge rfl rfl rfl hc197 ?_
              obtain ⟨x201, hx201, ho132⟩ := Option.bind_eq_some_iff.1 ho132
              refine V_call Try.call24 rfl rfl rfl rfl (portref2_ShownIn_c w45 hA z v198 h199 day minute hx201) ?_
              rintro v202 w204 ⟨_, rfl, h203, hk205⟩
              obtain ⟨A206, ht207, hH208⟩ := Hp.addOwnd hH hB hA hk205 h203
              replace h6 := El.tr h6 ht207
              replace h199 := Sl.tr h199 ht207
              replace hK := Tr.trans hK ht207
              replace hr134 := Tr.trans hr134 ht207
              replace hB := Nat.le_trans hB ht207.ex.size
              replace hA := ht207.new
              replace hH : Hp w.heap.size A206 w204 (obS (α := Int) 3 v202 x201 :: obS (α := Int) 3 v13 x12.1 :: []) := hH208
              refine V_ge rfl rfl rfl hc197 ?_
              obtain ⟨x209, hx209, ho132⟩ := Option.bind_eq_some_iff.1 ho132
              refine V_call Try.call23 rfl rfl rfl rfl (slices_Equal_Lint_int_c w204 (A := fun _ => True) (fun _ _ => trivial) x12.1 v13 (Hp.any (α := Int) (e := 3) (v := v13) (l := x12.1) hH (i := 1) rfl) x201 v202 (Hp.any (α := Int) (e := 3) (v := v202) (l := x201) hH (i := 0) rfl) hx209) ?_
              rintro _ w210 ⟨rfl, hk211⟩
              have ht212 := Kp.tr hk211 hA hB
              replace hH := Hp.kp hH hk211
              replace h6 := El.tr h6 ht212
              replace h199 := Sl.tr h199 ht212
              replace hK := Tr.trans hK ht212
              replace hr134 := Tr.trans hr134 ht212
              replace hB := Nat.le_trans hB ht212.ex.size
              replace hA := ht212.new
              refine V_y (Y_pick_te rfl hc197 rfl) rfl rfl rfl ?_
              refine V_y (Y_assign rfl) rfl rfl rfl ?_
              obtain rfl := Option.some.inj ho132
              refine V_end (fun a ha213 => ?_)
              replace hH : Hp w.heap.size A206 w210 (obS (α := Int) 3 v13 x12.1 :: obS (α := Int) 3 v202 x201 :: []) := Hp.front hH (i := 1) rfl
              replace hH : Hp w.heap.size A206 w210 (obS (α := Int) 3 v13 x12.1 :: []) := Hp.drop hH (i := 1) rfl
              exact ⟨A206, ha213.sub ⟨rfl, trivial⟩, ⟨hH, hr134⟩⟩
            · rw [if_neg (nt hc197)] at ho132
              refine V_gn rfl rfl rfl hc197 rfl rfl rfl ?_
              refine V_gn rfl rfl rfl hc197 rfl rfl rfl ?_
              refine V_gn rfl rfl rfl hc197 rfl rfl rfl ?_
              refine V_gn rfl rfl rfl hc197 rfl rfl rfl ?_
              refine V_gn rfl rfl rfl hc197 rfl rfl rfl ?_
              refine V_gn rfl rfl rfl hc197 rfl rfl rfl ?_
              refine V_y (Y_pick_fe rfl hc197 rfl) rfl rfl rfl ?_
              refine V_y (Y_assign rfl) rfl rfl rfl ?_
              obtain rfl := Option.some.inj ho132
              refine V_end (fun a ha214 => ?_)
              exact ⟨A17, ha214.sub ⟨rfl, trivial⟩, ⟨hH, hr134⟩⟩
      rintro A138 w135 ⟨hH139, hk136⟩ a ha137
      replace hK := Tr.trans hK hk136
      replace hB := Nat.le_trans hB hk136.ex.size
      replace hA := hk136.new
      replace hH : Hp w.heap.size A138 w135 (obS (α := Int) 3 v13 x12.1 :: []) := hH139
      refine C_at (n := ⟨93, [], none⟩) (fun _ _ => rfl) ?_ ha137
      obtain rfl := Option.some.inj hm
      refine C_ret ?_
      try simp only [↓inBlock_ret, ↓then_ret]
      exact retQ rfl (Res.one Try.results4 rfl) ⟨rfl, hK.kp⟩

end Go.Proofs.Ytjmgafmjendnaaa.W
