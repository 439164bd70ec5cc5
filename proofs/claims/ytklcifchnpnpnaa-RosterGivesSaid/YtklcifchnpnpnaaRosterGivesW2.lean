/-
  Written by program (gen.py) from the IR of the dump: each function computes its model.
-/
import Derived.Test.YtklcifchnpnpnaaRosterGivesW1
namespace Go.Proofs.Ytklcifchnpnpnaa.W
open Go Go.RowKit Go.Pu Go.Gw Go.Proofs Go.Proofs.Ytklcifchnpnpnaa.M
set_option linter.unusedVariables false
set_option linter.unusedSimpArgs false

set_option maxRecDepth 4000 in
set_option maxHeartbeats 4000000 in
theorem slices_Equal_Lstaff_Duty_staff_Duty_c (w : World) {A : Nat → Prop} (hA : ∀ b, w.heap.size ≤ b → A b) (s1 : (List staff_Duty)) (v_s1 : Value) (h_s1 : Sl A w v_s1 s1) (s2 : (List staff_Duty)) (v_s2 : Value) (h_s2 : Sl A w v_s2 s2) {r : Bool} (hm : slices_Equal_Lstaff_Duty_staff_Duty s1 s2 = some r) : Ret Try.prog 10 #[v_s1, v_s2] w fun v w' => v = .bool r ∧ Kp w w' := by
  unfold slices_Equal_Lstaff_Duty_staff_Duty at hm
  refine enter Try.func10 rfl Try.ntmps10 rfl ?_
  have hA0 := hA
  have hB := Nat.le_refl w.heap.size
  have hK : Tr w.heap.size A w A w := Tr.refl hA
  have hH : Hp w.heap.size A w [] := Hp.nil
  refine C_seq ?_
  refine C_region ?_
  refine V_y (Y_assign rfl) rfl rfl rfl ?_
  refine V_to (fun _ _ => rfl) ?_
  refine C_seq ?_
  refine C_seq ?_
  refine C_region ?_
  refine V_y (Y_move rfl) rfl rfl rfl ?_
  refine V_y (Y_lenSl h_s1 rfl Try.underlying32 rfl) rfl rfl rfl ?_
  refine V_y (Y_move rfl) rfl rfl rfl ?_
  refine V_y (Y_lenSl h_s2 rfl Try.underlying32 rfl) rfl rfl rfl ?_
  refine V_y (Y_neq rfl rfl) rfl rfl rfl ?_
  refine V_to (fun _ _ => rfl) ?_
  refine C_cond rfl (fun hc5 => ?_) (fun hc5 => ?_)
  · rw [if_pos hc5] at hm
    refine C_seq ?_
    refine C_region ?_
    refine V_y (Y_assign rfl) rfl rfl rfl ?_
    refine V_to (fun _ _ => rfl) ?_
    obtain rfl := Option.some.inj hm
    refine C_ret ?_
    try simp only [↓inBlock_ret, ↓then_ret]
    exact retQ rfl (Res.one Try.results10 rfl) ⟨rfl, hK.kp⟩
  · rw [if_neg (nt hc5)] at hm
    refine C_skip_to (fun _ _ => rfl) ?_
    refine C_seq ?_
    refine C_seq ?_
    refine C_region ?_
    refine V_y (Y_move rfl) rfl rfl rfl ?_
    refine V_y (Y_lenSl h_s1 rfl Try.underlying32 rfl) rfl rfl rfl ?_
    refine V_y (Y_move rfl) rfl rfl rfl ?_
    refine V_to (fun _ _ => rfl) ?_
    have hn27 := Sl.le h_s1
    obtain ⟨o6, ho6, hm⟩ := Option.bind_eq_some_iff.1 hm
    refine C_cutG (ι := (Unit × (Nat → Prop))) (fun ⟨s7, A13⟩ => []) (fun ⟨s7, A13⟩ => fun w' => o6 = .fin s7 ∧ Hp w.heap.size A13 w' ([]) ∧ Tr w.heap.size A w A13 w') ?_ ?_
    · refine C_block ?_
      refine C_range ho6 (fun k9 _ a w' => ∃ i : (Nat → Prop), Has ⟨26, [], none⟩ a ([(0, v_s1), (1, v_s2), (12, .int .i64 (s1.length : Int)), (13, .int .i64 (k9 : Int))]) ∧ Hp w.heap.size i w' ([]) ∧ Tr w.heap.size A w i w') (fun a ha => ⟨A, ha.sub ⟨rfl, rfl, rfl, rfl, trivial⟩, ⟨hH, Tr.refl hA⟩⟩) ?_
      rintro K k9 _ a w17 ⟨A18, ha45, hH19, hr8⟩ hle23 K26 h25
      refine C_of ?_ ha45
      replace h_s1 := Sl.tr h_s1 hr8
      replace h_s2 := Sl.tr h_s2 hr8
      replace hK := Tr.trans hK hr8
      replace hB := Nat.le_trans hB hr8.ex.size
      replace hA := hr8.new
      replace hH : Hp w.heap.size A18 w17 ([]) := hH19
      refine C_seq (C_region (V_y (Y_lss rfl rfl) rfl rfl rfl (V_to (fun _ _ => rfl) ?_)))
      refine C_seq ?_
      refine C_cond rfl (fun hc28 => ?_) (fun hc28 => ?_)
      · have hlt24 := lt_of_dec hc28
        obtain ⟨x20, h21, h22⟩ := K26 hlt24
        refine C_skip_to (fun _ _ => rfl) ?_
        refine C_seq ?_
        refine C_block ?_
        refine C_seq ?_
        refine C_region ?_
        refine V_y (Y_move rfl) rfl rfl rfl ?_
        refine V_y (Y_assign rfl) rfl rfl rfl ?_
        refine V_to (fun _ _ => rfl) ?_
        refine C_seq ?_
        refine C_region_q Try_mixed (by kernel_rfl) ?_
        refine VQ_y (fun w' hw' => Y_move rfl) rfl rfl rfl ?_
        refine VQ_y (fun w' hw' => Y_move rfl) rfl rfl rfl ?_
        obtain ⟨x29, hx29, h21⟩ := Option.bind_eq_some_iff.1 h21
        refine VQ_indexAddr h_s1 hx29 Try.underlying32 Try.sizeOf37 rfl rfl rfl ?_
        intro b30 o31 h32
        obtain ⟨h33, _⟩ := El_staff_Duty h32
        refine VQ_y (fun w' hw' => Y_loadA (At.kp h33 hw' h32.2.1) Try.isAgg37 Try.sizeOf37 rfl) rfl rfl rfl ?_
        refine VQ_y (fun w' hw' => Y_move rfl) rfl rfl rfl ?_
        refine VQ_y (fun w' hw' => Y_move rfl) rfl rfl rfl ?_
        obtain ⟨x34, hx34, h21⟩ := Option.bind_eq_some_iff.1 h21
        refine VQ_indexAddr h_s2 hx34 Try.underlying32 Try.sizeOf37 rfl rfl rfl ?_
        intro b35 o36 h37
        obtain ⟨h38, _⟩ := El_staff_Duty h37
        refine VQ_y (fun w' hw' => Y_loadA (At.kp h38 hw' h37.2.1) Try.isAgg37 Try.sizeOf37 rfl) rfl rfl rfl ?_
        refine VQ_y (fun w' hw' => Y_neqA (fun w => Try_eqt37_10000 x29.form x29.person x34.form x34.person w) Try_eqg37 rfl rfl) rfl rfl rfl ?_
        refine VQ_to (fun _ _ => rfl) (fun w39 hk40 => ?_)
        have ht41 := Kp.tr hk40 hA hB
        replace hH := Hp.kp hH hk40
        replace h_s1 := Sl.tr h_s1 ht41
        replace h_s2 := Sl.tr h_s2 ht41
        replace hK := Tr.trans hK ht41
        replace hr8 := Tr.trans hr8 ht41
        replace hB := Nat.le_trans hB ht41.ex.size
        replace hA := ht41.new
        refine C_cond rfl (fun hc42 => ?_) (fun hc42 => ?_)
        · rw [if_pos hc42] at h21
          refine C_seq ?_
          refine C_region ?_
          refine V_y (Y_assign rfl) rfl rfl rfl ?_
          refine V_to (fun _ _ => rfl) ?_
          obtain rfl := Option.some.inj h21
          obtain rfl := (h22 : Lp.rt _ = _)
          rw [Lp.andThen_rt] at hm
          obtain rfl := Option.some.inj hm
          refine C_ret ?_
          try simp only [↓inBlock_ret, ↓then_ret]
          exact retQ rfl (Res.one Try.results10 rfl) ⟨rfl, hK.kp⟩
        · rw [if_neg (nt hc42)] at h21
          refine C_skip_to (fun _ _ => rfl) ?_
          refine C_region ?_
          refine V_y (Y_addI rfl rfl) rfl rfl rfl ?_
          refine V_y (Y_move rfl) rfl rfl rfl ?_
          obtain rfl := Option.some.inj h21
          refine V_end (fun a ha43 => ?_)
          exact ⟨(), hlt24, h22, ⟨A18, ha43.sub ⟨rfl, rfl, rfl, (congrArg (fun z => some (Value.int .i64 z)) (w64_succ hlt24 hn27)), trivial⟩, ⟨hH, hr8⟩⟩⟩
      · refine C_exit (fun a ha44 => ?_)
        exact ⟨((), A18), ha44.sub trivial, ⟨(h25 (eq_of_dec hle23 hc28)).symm, hH, hr8⟩⟩
    rintro ⟨s7, A13⟩ w10 ⟨rfl, hH14, hk11⟩ a ha12
    rw [Lp.andThen_fin] at hm
    replace hK := Tr.trans hK hk11
    replace hB := Nat.le_trans hB hk11.ex.size
    replace hA := hk11.new
    replace hH : Hp w.heap.size A13 w10 ([]) := hH14
    refine C_at (n := ⟨26, [], none⟩) (fun _ _ => rfl) ?_ ha12
    refine C_seq ?_
    refine C_region ?_
    refine V_y (Y_assign rfl) rfl rfl rfl ?_
    refine V_to (fun _ _ => rfl) ?_
    obtain rfl := Option.some.inj hm
    refine C_ret ?_
    try simp only [↓inBlock_ret, ↓then_ret]
    exact retQ rfl (Res.one Try.results10 rfl) ⟨rfl, hK.kp⟩

set_option maxRecDepth 4000 in
set_option maxHeartbeats 4000000 in
theorem portlaw2_RosterGives_c (w : World) {A : Nat → Prop} (hA : ∀ b, w.heap.size ≤ b → A b) (forms : (List staff_Form)) (v_forms : Value) (h_forms : Sl A w v_forms forms) (plan : (List Int)) (v_plan : Value) (h_plan : Sl A w v_plan plan) (r_ : staff_Rules) {r : Bool} (hm : portlaw2_RosterGives forms plan r_ = some r) : Ret Try.prog 4 #[v_forms, v_plan, .agg #[.int .i64 r_.people, .int .i64 r_.rest_, .int .i64 r_.most]] w fun v w' => v = .bool r ∧ Kp w w' := by
  unfold portlaw2_RosterGives at hm
  refine enter Try.func4 rfl Try.ntmps4 rfl ?_
  have hA0 := hA
  have hB := Nat.le_refl w.heap.size
  have hK : Tr w.heap.size A w A w := Tr.refl hA
  have hH : Hp w.heap.size A w [] := Hp.nil
  refine C_seq ?_
  refine C_region ?_
  refine V_box rfl rfl ?_
  intro b5 w6 h7
  have hk9 := h7.kp
  have h8 : El (α := staff_Rules) A w6 b5 0 r_ := h7.el hA ⟨[.int .i64 r_.people], _, rfl, rfl, ⟨[.int .i64 r_.rest_], _, rfl, rfl, rfl⟩⟩
  have ht10 := Kp.tr hk9 hA hB
  replace hH := Hp.kp hH hk9
  replace h_forms := Sl.tr h_forms ht10
  replace h_plan := Sl.tr h_plan ht10
  replace hK := Tr.trans hK ht10
  replace hB := Nat.le_trans hB ht10.ex.size
  replace hA := ht10.new
  refine V_y (Y_assign rfl) rfl rfl rfl ?_
  refine V_to (fun _ _ => rfl) ?_
  refine C_seq ?_
  refine C_region ?_
  refine V_y (Y_move rfl) rfl rfl rfl ?_
  refine V_y (Y_move rfl) rfl rfl rfl ?_
  obtain ⟨h11, _⟩ := El_staff_Rules h8
  refine V_y (Y_loadA h11 Try.isAgg31 Try.sizeOf31 rfl) rfl rfl rfl ?_
  obtain ⟨x12, hx12, hm⟩ := Option.bind_eq_some_iff.1 hm
  refine V_call Try.call8 rfl rfl rfl rfl (staff_Roster_c w6 hB hA forms v_forms h_forms plan v_plan h_plan r_ hH hx12) ?_
  rintro _ w17 ⟨v13, v15, A18, rfl, hH19, ht20⟩
  replace h_forms := Sl.tr h_forms ht20
  replace h_plan := Sl.tr h_plan ht20
  replace h8 := El.tr h8 ht20
  replace hK := Tr.trans hK ht20
  replace hB := Nat.le_trans hB ht20.ex.size
  replace hA := ht20.new
  replace hH : Hp w.heap.size A18 w17 (obS (α := staff_Duty) 37 v13 x12.1 :: obS (α := staff_Duty) 37 v15 x12.2.1 :: []) := hH19
  refine V_y (Y_move rfl) rfl rfl rfl ?_
  refine V_y (Y_extract rfl rfl) rfl rfl rfl ?_
  refine V_y (Y_extract rfl rfl) rfl rfl rfl ?_
  refine V_y (Y_extract rfl rfl) rfl rfl rfl ?_
  refine V_y (Y_assign rfl) rfl rfl rfl ?_
  refine V_y (Y_assign rfl) rfl rfl rfl ?_
  refine V_y (Y_assign rfl) rfl rfl rfl ?_
  refine V_to (fun _ _ => rfl) ?_
  refine C_seq ?_
  refine C_region ?_
  refine V_y (Y_move rfl) rfl rfl rfl ?_
  refine V_y (Y_move rfl) rfl rfl rfl ?_
  obtain ⟨h21, _⟩ := El_staff_Rules h8
  refine V_y (Y_loadA h21 Try.isAgg31 Try.sizeOf31 rfl) rfl rfl rfl ?_
  obtain ⟨x22, hx22, hm⟩ := Option.bind_eq_some_iff.1 hm
  refine V_call Try.call9 rfl rfl rfl rfl (portref2_RosterOf_c w17 hB hA forms v_forms h_forms plan v_plan h_plan r_ hH hx22) ?_
  rintro _ w27 ⟨v23, v25, A28, rfl, hH29, ht30⟩
  replace h_forms := Sl.tr h_forms ht30
  replace h_plan := Sl.tr h_plan ht30
  replace h8 := El.tr h8 ht30
  replace hK := Tr.trans hK ht30
  replace hB := Nat.le_trans hB ht30.ex.size
  replace hA := ht30.new
  replace hH : Hp w.heap.size A28 w27 (obS (α := staff_Duty) 37 v23 x22.1 :: obS (α := staff_Duty) 37 v25 x22.2.1 :: obS (α := staff_Duty) 37 v13 x12.1 :: obS (α := staff_Duty) 37 v15 x12.2.1 :: []) := hH29
  refine V_y (Y_move rfl) rfl rfl rfl ?_
  refine V_y (Y_extract rfl rfl) rfl rfl rfl ?_
  refine V_y (Y_extract rfl rfl) rfl rfl rfl ?_
  refine V_y (Y_extract rfl rfl) rfl rfl rfl ?_
  refine V_y (Y_assign rfl) rfl rfl rfl ?_
  refine V_y (Y_assign rfl) rfl rfl rfl ?_
  refine V_y (Y_assign rfl) rfl rfl rfl ?_
  refine V_to (fun _ _ => rfl) ?_
  refine C_seq ?_
  refine C_region_q Try_mixed (by kernel_rfl) ?_
  refine VQ_y (fun w' hw' => Y_move rfl) rfl rfl rfl ?_
  refine VQ_y (fun w' hw' => Y_move rfl) rfl rfl rfl ?_
  refine VQ_y (fun w' hw' => Y_eql rfl rfl) rfl rfl rfl ?_
  refine VQ_y (fun w' hw' => Y_move rfl) rfl rfl rfl ?_
  obtain ⟨s32, hs32, hm⟩ := Option.bind_eq_some_iff.1 hm
  refine VQ_cut 4 (fun _ : Unit => [(5, .pointer (some ⟨b5, 0, none⟩)), (8, v15), (11, v25), (36, .bool s32)]) (fun _ => True) ?_ ?_
  · simp only [List.take, List.drop]
    rcases Bool.eq_false_or_eq_true (x12.2.2 == x22.2.2) with hc31 | hc31
    · rw [if_pos hc31] at hs32
      refine VQ_ge rfl rfl rfl hc31 ?_
      refine VQ_y (fun w' hw' => Y_move rfl) rfl rfl rfl ?_
      refine VQ_ge rfl rfl rfl hc31 ?_
      refine VQ_y (fun w' hw' => Y_move rfl) rfl rfl rfl ?_
      refine VQ_ge rfl rfl rfl hc31 ?_
      obtain ⟨x33, hx33, hs32⟩ := Option.bind_eq_some_iff.1 hs32
      refine VQ_call (.bool x33) Try.call10 rfl rfl rfl rfl (fun w' hw' => (slices_Equal_Lstaff_Duty_staff_Duty_c w' (A := fun _ => True) (fun _ _ => trivial) x12.1 v13 (Sl.kp (Hp.any (α := staff_Duty) (e := 37) (v := v13) (l := x12.1) hH (i := 2) rfl) hw') x22.1 v23 (Sl.kp (Hp.any (α := staff_Duty) (e := 37) (v := v23) (l := x22.1) hH (i := 0) rfl) hw') hx33).mono (fun _ _ h => ⟨h.1, Kp.trans hw' h.2⟩)) ?_
      refine VQ_y (fun _ _ => Y_pick_te rfl hc31 rfl) rfl rfl rfl ?_
      obtain rfl := Option.some.inj hs32
      exact VQ_end fun a ha => ⟨(), ha.sub ⟨rfl, rfl, rfl, rfl, trivial⟩, trivial⟩
    · rw [if_neg (nt hc31)] at hs32
      refine VQ_gn rfl rfl rfl hc31 rfl rfl rfl ?_
      refine VQ_gn rfl rfl rfl hc31 rfl rfl rfl ?_
      refine VQ_gn rfl rfl rfl hc31 rfl rfl rfl ?_
      refine VQ_y (fun _ _ => Y_pick_fe rfl hc31 rfl) rfl rfl rfl ?_
      obtain rfl := Option.some.inj hs32
      exact VQ_end fun a ha => ⟨(), ha.sub ⟨rfl, rfl, rfl, rfl, trivial⟩, trivial⟩
  simp only [List.take, List.drop]
  rintro _ _
  refine VQ_y (fun w' hw' => Y_move rfl) rfl rfl rfl ?_
  obtain ⟨s35, hs35, hm⟩ := Option.bind_eq_some_iff.1 hm
  refine VQ_cut 4 (fun _ : Unit => [(5, .pointer (some ⟨b5, 0, none⟩)), (41, .bool s35)]) (fun _ => True) ?_ ?_
  · simp only [List.take, List.drop]
    rcases Bool.eq_false_or_eq_true (s32) with hc34 | hc34
    · rw [if_pos hc34] at hs35
      refine VQ_ge rfl rfl rfl hc34 ?_
      refine VQ_y (fun w' hw' => Y_move rfl) rfl rfl rfl ?_
      refine VQ_ge rfl rfl rfl hc34 ?_
      refine VQ_y (fun w' hw' => Y_move rfl) rfl rfl rfl ?_
      refine VQ_ge rfl rfl rfl hc34 ?_
      obtain ⟨x36, hx36, hs35⟩ := Option.bind_eq_some_iff.1 hs35
      refine VQ_call (.bool x36) Try.call10 rfl rfl rfl rfl (fun w' hw' => (slices_Equal_Lstaff_Duty_staff_Duty_c w' (A := fun _ => True) (fun _ _ => trivial) x12.2.1 v15 (Sl.kp (Hp.any (α := staff_Duty) (e := 37) (v := v15) (l := x12.2.1) hH (i := 3) rfl) hw') x22.2.1 v25 (Sl.kp (Hp.any (α := staff_Duty) (e := 37) (v := v25) (l := x22.2.1) hH (i := 1) rfl) hw') hx36).mono (fun _ _ h => ⟨h.1, Kp.trans hw' h.2⟩)) ?_
      refine VQ_y (fun _ _ => Y_pick_te rfl hc34 rfl) rfl rfl rfl ?_
      obtain rfl := Option.some.inj hs35
      exact VQ_end fun a ha => ⟨(), ha.sub ⟨rfl, rfl, trivial⟩, trivial⟩
    · rw [if_neg (nt hc34)] at hs35
      refine VQ_gn rfl rfl rfl hc34 rfl rfl rfl ?_
      refine VQ_gn rfl rfl rfl hc34 rfl rfl rfl ?_
      refine VQ_gn rfl rfl rfl hc34 rfl rfl rfl ?_
      refine VQ_y (fun _ _ => Y_pick_fe rfl hc34 rfl) rfl rfl rfl ?_
      obtain rfl := Option.some.inj hs35
      exact VQ_end fun a ha => ⟨(), ha.sub ⟨rfl, rfl, trivial⟩, trivial⟩
  simp only [List.take, List.drop]
  rintro _ _
  refine VQ_y (fun w' hw' => Y_move rfl) rfl rfl rfl ?_
  obtain ⟨s38, hs38, hm⟩ := Option.bind_eq_some_iff.1 hm
  refine VQ_cut 6 (fun _ : Unit => [(48, .bool s38)]) (fun _ => True) ?_ ?_
  · simp only [List.take, List.drop]
    rcases Bool.eq_false_or_eq_true (s35) with hc37 | hc37
    · rw [if_pos hc37] at hs38
      refine VQ_ge rfl rfl rfl hc37 ?_
      obtain ⟨h39, _⟩ := El_staff_Rules h8
      refine VQ_y (fun w' hw' => Y_loadA (At.kp h39 hw' h8.2.1) Try.isAgg31 Try.sizeOf31 rfl) rfl rfl rfl ?_
      refine VQ_ge rfl rfl rfl hc37 ?_
      obtain ⟨x40, hx40, hs38⟩ := Option.bind_eq_some_iff.1 hs38
      refine VQ_call (.int .i64 x40) Try.call11 rfl rfl rfl rfl (fun w' hw' => (staff_CheckRules_c w' (fun b hb => hA b (Nat.le_trans hw'.size hb)) r_ hx40).mono (fun _ _ h => ⟨h.1, Kp.trans hw' h.2⟩)) ?_
      refine VQ_ge rfl rfl rfl hc37 ?_
      obtain ⟨h41, _⟩ := El_staff_Rules h8
      refine VQ_y (fun w' hw' => Y_loadA (At.kp h41 hw' h8.2.1) Try.isAgg31 Try.sizeOf31 rfl) rfl rfl rfl ?_
      refine VQ_ge rfl rfl rfl hc37 ?_
      obtain ⟨x42, hx42, hs38⟩ := Option.bind_eq_some_iff.1 hs38
      refine VQ_call (.int .i64 x42) Try.call12 rfl rfl rfl rfl (fun w' hw' => (portref2_RulesFault_c w' (fun b hb => hA b (Nat.le_trans hw'.size hb)) r_ hx42).mono (fun _ _ h => ⟨h.1, Kp.trans hw' h.2⟩)) ?_
      refine VQ_ge rfl rfl rfl hc37 ?_
      refine VQ_y (fun w' hw' => Y_eql rfl rfl) rfl rfl rfl ?_
      refine VQ_y (fun _ _ => Y_pick_te rfl hc37 rfl) rfl rfl rfl ?_
      obtain rfl := Option.some.inj hs38
      exact VQ_end fun a ha => ⟨(), ha.sub ⟨rfl, trivial⟩, trivial⟩
    · rw [if_neg (nt hc37)] at hs38
      refine VQ_gn rfl rfl rfl hc37 rfl rfl rfl ?_
      refine VQ_gn rfl rfl rfl hc37 rfl rfl rfl ?_
      refine VQ_gn rfl rfl rfl hc37 rfl rfl rfl ?_
      refine VQ_gn rfl rfl rfl hc37 rfl rfl rfl ?_
      refine VQ_gn rfl rfl rfl hc37 rfl rfl rfl ?_
      refine VQ_y (fun _ _ => Y_pick_fe rfl hc37 rfl) rfl rfl rfl ?_
      obtain rfl := Option.some.inj hs38
      exact VQ_end fun a ha => ⟨(), ha.sub ⟨rfl, trivial⟩, trivial⟩
  simp only [List.take, List.drop]
  rintro _ _
  refine VQ_y (fun w' hw' => Y_assign rfl) rfl rfl rfl ?_
  refine VQ_to (fun _ _ => rfl) (fun w43 hk44 => ?_)
  have ht45 := Kp.tr hk44 hA hB
  replace hH := Hp.kp hH hk44
  replace hK := Tr.trans hK ht45
  replace hB := Nat.le_trans hB ht45.ex.size
  replace hA := ht45.new
  obtain rfl := Option.some.inj hm
  refine C_ret ?_
  try simp only [↓inBlock_ret, ↓then_ret]
  exact retQ rfl (Res.one Try.results4 rfl) ⟨rfl, hK.kp⟩

end Go.Proofs.Ytklcifchnpnpnaa.W
