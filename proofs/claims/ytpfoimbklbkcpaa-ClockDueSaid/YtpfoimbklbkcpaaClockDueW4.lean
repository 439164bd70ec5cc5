/-
  Written by program (gen.py) from the IR of the dump: each function computes its model.
-/
import Derived.Test.YtpfoimbklbkcpaaClockDueW3
namespace Go.Proofs.Ytpfoimbklbkcpaa.W
open Go Go.RowKit Go.Pu Go.Gw Go.Proofs Go.Proofs.Ytpfoimbklbkcpaa.M
set_option linter.unusedVariables false
set_option linter.unusedSimpArgs false

set_option maxRecDepth 4000 in
set_option maxHeartbeats 4000000 in
theorem portref2_Clock_Open_c (w : World) {A : Nat → Prop} {B : Nat} (hB : B ≤ w.heap.size) (hA : ∀ b, w.heap.size ≤ b → A b) (k_ : cal_Calendar) (b_k_ : Nat) (m : Int) {L : List Ob} (hH : Hp B A w (obCk 107 portref2_ShiftsIn b_k_ k_ :: L)) {r : Bool} (hm : portref2_Clock_Open k_ m = some r) : Ret Try.prog 48 #[.pointer (some ⟨b_k_, 0, none⟩), .int .i64 m] w fun v w' => ∃ A1 : Nat → Prop, v = .bool r ∧ Hp B A1 w' (obCk 107 portref2_ShiftsIn b_k_ k_ :: L) ∧ Tr B A w A1 w' := by
  unfold portref2_Clock_Open at hm
  refine enter Try.func48 rfl Try.ntmps48 rfl ?_
  have hK : Tr B A w A w := Tr.refl hA
  refine C_seq ?_
  refine C_region ?_
  refine V_y (Y_assign rfl) rfl rfl rfl ?_
  refine V_to (fun _ _ => rfl) ?_
  refine C_seq ?_
  refine C_region ?_
  refine V_y (Y_move rfl) rfl rfl rfl ?_
  refine V_y (Y_nilCheck rfl) rfl rfl rfl ?_
  have h1 := Hp.ck (tb := 107) (F := portref2_ShiftsIn) (b := b_k_) (c := k_) hH (i := 0) rfl
  refine V_y (Y_fieldAddrC (off2 := 0) Try.underlying107 rfl Try.sizeOf28 (by decide) rfl rfl) rfl rfl rfl ?_
  have h2 := El_cal_Calendar_0 h1
  refine V_y (Y_fieldAddr Try.underlying28 rfl Try.sizeOf24 (by decide) rfl) rfl rfl rfl ?_
  obtain ⟨v3, h5, h4⟩ := El_cal_Zone h2
  refine V_y (Y_loadA h5 Try.isAgg24 Try.sizeOf24 rfl) rfl rfl rfl ?_
  refine V_y (Y_move rfl) rfl rfl rfl ?_
  obtain ⟨x6, hx6, hm⟩ := Option.bind_eq_some_iff.1 hm
  refine V_call Try.call76 rfl rfl rfl rfl (portref2_LocalIn_c w (A := fun _ => True) (fun _ _ => trivial) k_.zone v3 (Sl.any h4) m hx6) ?_
  rintro _ w7 ⟨rfl, hk8⟩
  have ht9 := Kp.tr hk8 hA hB
  replace hH := Hp.kp hH hk8
  replace h1 := El.kp h1 hk8
  replace h2 := El.kp h2 hk8
  replace h4 := Sl.kp h4 hk8
  replace hK := Tr.trans hK ht9
  replace hB := Nat.le_trans hB ht9.ex.size
  replace hA := ht9.new
  refine V_y (Y_move rfl) rfl rfl rfl ?_
  refine V_y (Y_extract rfl rfl) rfl rfl rfl ?_
  refine V_y (Y_extract rfl rfl) rfl rfl rfl ?_
  refine V_y (Y_assign rfl) rfl rfl rfl ?_
  refine V_y (Y_assign rfl) rfl rfl rfl ?_
  refine V_to (fun _ _ => rfl) ?_
  refine C_seq ?_
  refine C_seq ?_
  refine C_region ?_
  refine V_y (Y_move rfl) rfl rfl rfl ?_
  refine V_y (Y_move rfl) rfl rfl rfl ?_
  obtain ⟨x10, hx10, hm⟩ := Option.bind_eq_some_iff.1 hm
  refine V_call Try.call77 rfl rfl rfl rfl (portref2_Clock_shifts_c w7 hB hA k_ b_k_ x6.1 hH hx10) ?_
  rintro v11 w13 ⟨_, A14, rfl, h12, hH15, ht16⟩
  replace hK := Tr.trans hK ht16
  replace hB := Nat.le_trans hB ht16.ex.size
  replace hA := ht16.new
  replace hH : Hp B A14 w13 (obCk 107 portref2_ShiftsIn b_k_ k_ :: L) := hH15
  refine V_y (Y_lenSl h12 rfl Try.underlying25 rfl) rfl rfl rfl ?_
  refine V_y (Y_move rfl) rfl rfl rfl ?_
  refine V_to (fun _ _ => rfl) ?_
  have hn37 := Sl.le h12
  obtain ⟨o17, ho17, hm⟩ := Option.bind_eq_some_iff.1 hm
  refine C_cutG (ι := (Unit × (Nat → Prop))) (fun ⟨s18, A24⟩ => [(0, .pointer (some ⟨b_k_, 0, none⟩)), (5, .int .i64 x6.1), (6, .int .i64 x6.2)]) (fun ⟨s18, A24⟩ => fun w' => o17 = .fin s18 ∧ Hp B A24 w' (obCk 107 portref2_ShiftsIn b_k_ k_ :: L) ∧ Tr B A14 w13 A24 w') ?_ ?_
  · refine C_block ?_
    refine C_range ho17 (fun k20 _ a w' => ∃ i : (Nat → Prop), Has ⟨62, [], none⟩ a ([(0, .pointer (some ⟨b_k_, 0, none⟩)), (5, .int .i64 x6.1), (6, .int .i64 x6.2), (23, v11), (24, .int .i64 (x10.length : Int)), (25, .int .i64 (k20 : Int))]) ∧ Hp B i w' (obCk 107 portref2_ShiftsIn b_k_ k_ :: L) ∧ Tr B A14 w13 i w') (fun a ha => ⟨A14, ha.sub ⟨rfl, rfl, rfl, rfl, rfl, rfl, trivial⟩, ⟨hH, Tr.refl hA⟩⟩) ?_
    rintro K k20 _ a w27 ⟨A28, ha59, hH29, hr19⟩ hle33 K36 h35
    refine C_of ?_ ha59
    replace h12 := Sl.tr h12 hr19
    replace hK := Tr.trans hK hr19
    replace hB := Nat.le_trans hB hr19.ex.size
    replace hA := hr19.new
    replace hH : Hp B A28 w27 (obCk 107 portref2_ShiftsIn b_k_ k_ :: L) := hH29
    refine C_seq (C_region (V_y (Y_lss rfl rfl) rfl rfl rfl (V_to (fun _ _ => rfl) ?_)))
    refine C_seq ?_
    refine C_cond rfl (fun hc38 => ?_) (fun hc38 => ?_)
    · have hlt34 := lt_of_dec hc38
      obtain ⟨x30, h31, h32⟩ := K36 hlt34
      refine C_skip_to (fun _ _ => rfl) ?_
      refine C_seq ?_
      refine C_block ?_
      refine C_seq ?_
      refine C_region ?_
      obtain ⟨x39, hx39, h31⟩ := Option.bind_eq_some_iff.1 h31
      refine V_indexAddr h12 hx39 Try.underlying25 Try.sizeOf110 rfl rfl rfl ?_
      intro b40 o41 h42
      obtain ⟨h43, _⟩ := El_cal_Shift h42
      refine V_y (Y_loadA h43 Try.isAgg110 Try.sizeOf110 rfl) rfl rfl rfl ?_
      refine V_alloc Try.zeroValue110 rfl ?_
      intro b44 w45 h46
      refine V_storeNew h46 Try.sizeOf110 rfl rfl rfl rfl (by exact (List.forall_mem_cons.2 ⟨rfl, (List.forall_mem_cons.2 ⟨rfl, (List.forall_mem_cons.2 ⟨rfl, (fun _ h => nomatch h)⟩)⟩)⟩)) ?_
      intro w47 h48
      have hk50 := h48.kp
      have h49 : El (α := cal_Shift) A28 w47 b44 0 x39 := h48.el hA ⟨[.int .i64 x39.day], _, rfl, rfl, ⟨[.int .i64 x39.from_], _, rfl, rfl, rfl⟩⟩
      have ht51 := Kp.tr hk50 hA hB
      replace hH := Hp.kp hH hk50
      replace h12 := Sl.tr h12 ht51
      replace h42 := El.tr h42 ht51
      replace hK := Tr.trans hK ht51
      replace hr19 := Tr.trans hr19 ht51
      replace hB := Nat.le_trans hB ht51.ex.size
      replace hA := ht51.new
      refine V_to (fun _ _ => rfl) ?_
      refine C_seq ?_
      refine C_region ?_
      have h52 := El_cal_Shift_1 h49
      refine V_y (Y_fieldAddr Try.underlying110 rfl Try.sizeOf3 (by decide) rfl) rfl rfl rfl ?_
      refine V_y (Y_load (El.int h52) Try.isAgg3 rfl) rfl rfl rfl ?_
      refine V_y (Y_move rfl) rfl rfl rfl ?_
      refine V_y (Y_leq rfl rfl) rfl rfl rfl ?_
      refine V_y (Y_move rfl) rfl rfl rfl ?_
      refine V_cut 5 (fun _ : Unit => [(0, .pointer (some ⟨b_k_, 0, none⟩)), (5, .int .i64 x6.1), (6, .int .i64 x6.2), (23, v11), (24, .int .i64 (x10.length : Int)), (25, .int .i64 (k20 : Int)), (38, .bool ((decide (x39.from_ ≤ x6.2)) && (decide (x6.2 < x39.to_))))]) (fun _ w' => w47 = w') ?_ ?_
      · simp only [List.take, List.drop]
        rcases Bool.eq_false_or_eq_true (decide (x39.from_ ≤ x6.2)) with hc53 | hc53
        · refine V_ge rfl rfl rfl hc53 ?_
          refine V_y (Y_move rfl) rfl rfl rfl ?_
          refine V_ge rfl rfl rfl hc53 ?_
          have h55 := El_cal_Shift_2 h49
          refine V_y (Y_fieldAddr Try.underlying110 rfl Try.sizeOf3 (by decide) rfl) rfl rfl rfl ?_
          refine V_ge rfl rfl rfl hc53 ?_
          refine V_y (Y_load (El.int h55) Try.isAgg3 rfl) rfl rfl rfl ?_
          refine V_ge rfl rfl rfl hc53 ?_
          refine V_y (Y_lss rfl rfl) rfl rfl rfl ?_
          refine V_y (Y_pick_te rfl hc53 rfl) rfl rfl rfl ?_
          exact V_end fun a ha => ⟨(), ha.sub ⟨rfl, rfl, rfl, rfl, rfl, rfl, (by rw [hc53]; rfl), trivial⟩, rfl⟩
        · refine V_gn rfl rfl rfl hc53 rfl rfl rfl ?_
          refine V_gn rfl rfl rfl hc53 rfl rfl rfl ?_
          refine V_gn rfl rfl rfl hc53 rfl rfl rfl ?_
          refine V_gn rfl rfl rfl hc53 rfl rfl rfl ?_
          refine V_y (Y_pick_fe rfl hc53 rfl) rfl rfl rfl ?_
          exact V_end fun a ha => ⟨(), ha.sub ⟨rfl, rfl, rfl, rfl, rfl, rfl, (by rw [hc53]; rfl), trivial⟩, rfl⟩
      simp only [List.take, List.drop]
      rintro _ _ rfl
      refine V_to (fun _ _ => rfl) ?_
      refine C_cond rfl (fun hc56 => ?_) (fun hc56 => ?_)
      · rw [if_pos hc56] at h31
        refine C_seq ?_
        refine C_region ?_
        refine V_y (Y_assign rfl) rfl rfl rfl ?_
        refine V_to (fun _ _ => rfl) ?_
        obtain rfl := Option.some.inj h31
        obtain rfl := (h32 : Lp.rt _ = _)
        rw [Lp.andThen_rt] at hm
        obtain rfl := Option.some.inj hm
        refine C_ret ?_
        try simp only [↓inBlock_ret, ↓then_ret]
        exact retQ rfl (Res.one Try.results48 rfl) ⟨A28, rfl, hH, hK⟩
      · rw [if_neg (nt hc56)] at h31
        refine C_skip_to (fun _ _ => rfl) ?_
        refine C_region ?_
        refine V_y (Y_addI rfl rfl) rfl rfl rfl ?_
        refine V_y (Y_move rfl) rfl rfl rfl ?_
        obtain rfl := Option.some.inj h31
        refine V_end (fun a ha57 => ?_)
        exact ⟨(), hlt34, h32, ⟨A28, ha57.sub ⟨rfl, rfl, rfl, rfl, rfl, (congrArg (fun z => some (Value.int .i64 z)) (w64_succ hlt34 hn37)), trivial⟩, ⟨hH, hr19⟩⟩⟩
    · refine C_exit (fun a ha58 => ?_)
      exact ⟨((), A28), ha58.sub ⟨rfl, rfl, rfl, trivial⟩, ⟨(h35 (eq_of_dec hle33 hc38)).symm, hH, hr19⟩⟩
  rintro ⟨s18, A24⟩ w21 ⟨rfl, hH25, hk22⟩ a ha23
  rw [Lp.andThen_fin] at hm
  replace hK := Tr.trans hK hk22
  replace hB := Nat.le_trans hB hk22.ex.size
  replace hA := hk22.new
  replace hH : Hp B A24 w21 (obCk 107 portref2_ShiftsIn b_k_ k_ :: L) := hH25
  refine C_at (n := ⟨62, [], none⟩) (fun _ _ => rfl) ?_ ha23
  refine C_seq ?_
  refine C_seq ?_
  refine C_region ?_
  refine V_y (Y_move rfl) rfl rfl rfl ?_
  refine V_y (Y_move rfl) rfl rfl rfl ?_
  refine V_y (Y_subI rfl rfl) rfl rfl rfl ?_
  obtain ⟨x60, hx60, hm⟩ := Option.bind_eq_some_iff.1 hm
  refine V_call Try.call77 rfl rfl rfl rfl (portref2_Clock_shifts_c w21 hB hA k_ b_k_ (w64 (x6.1 - 1)) hH hx60) ?_
  rintro v61 w63 ⟨_, A64, rfl, h62, hH65, ht66⟩
  replace hK := Tr.trans hK ht66
  replace hB := Nat.le_trans hB ht66.ex.size
  replace hA := ht66.new
  replace hH : Hp B A64 w63 (obCk 107 portref2_ShiftsIn b_k_ k_ :: L) := hH65
  refine V_y (Y_lenSl h62 rfl Try.underlying25 rfl) rfl rfl rfl ?_
  refine V_y (Y_move rfl) rfl rfl rfl ?_
  refine V_to (fun _ _ => rfl) ?_
  have hn87 := Sl.le h62
  obtain ⟨o67, ho67, hm⟩ := Option.bind_eq_some_iff.1 hm
  refine C_cutG (ι := (Unit × (Nat → Prop))) (fun ⟨s68, A74⟩ => []) (fun ⟨s68, A74⟩ => fun w' => o67 = .fin s68 ∧ Hp B A74 w' (obCk 107 portref2_ShiftsIn b_k_ k_ :: L) ∧ Tr B A64 w63 A74 w') ?_ ?_
  · refine C_block ?_
    refine C_range ho67 (fun k70 _ a w' => ∃ i : (Nat → Prop), Has ⟨62, [], none⟩ a ([(6, .int .i64 x6.2), (43, v61), (44, .int .i64 (x60.length : Int)), (45, .int .i64 (k70 : Int))]) ∧ Hp B i w' (obCk 107 portref2_ShiftsIn b_k_ k_ :: L) ∧ Tr B A64 w63 i w') (fun a ha => ⟨A64, ha.sub ⟨rfl, rfl, rfl, rfl, trivial⟩, ⟨hH, Tr.refl hA⟩⟩) ?_
    rintro K k70 _ a w77 ⟨A78, ha109, hH79, hr69⟩ hle83 K86 h85
    refine C_of ?_ ha109
    replace h62 := Sl.tr h62 hr69
    replace hK := Tr.trans hK hr69
    replace hB := Nat.le_trans hB hr69.ex.size
    replace hA := hr69.new
    replace hH : Hp B A78 w77 (obCk 107 portref2_ShiftsIn b_k_ k_ :: L) := hH79
    refine C_seq (C_region (V_y (Y_lss rfl rfl) rfl rfl rfl (V_to (fun _ _ => rfl) ?_)))
    refine C_seq ?_
    refine C_cond rfl (fun hc88 => ?_) (fun hc88 => ?_)
    · have hlt84 := lt_of_dec hc88
      obtain ⟨x80, h81, h82⟩ := K86 hlt84
      refine C_skip_to (fun _ _ => rfl) ?_
      refine C_seq ?_
      refine C_block ?_
      refine C_seq ?_
      refine C_region ?_
      obtain ⟨x89, hx89, h81⟩ := Option.bind_eq_some_iff.1 h81
      refine V_indexAddr h62 hx89 Try.underlying25 Try.sizeOf110 rfl rfl rfl ?_
      intro b90 o91 h92
      obtain ⟨h93, _⟩ := El_cal_Shift h92
      refine V_y (Y_loadA h93 Try.isAgg110 Try.sizeOf110 rfl) rfl rfl rfl ?_
      refine V_alloc Try.zeroValue110 rfl ?_
      intro b94 w95 h96
      refine V_storeNew h96 Try.sizeOf110 rfl rfl rfl rfl (by exact (List.forall_mem_cons.2 ⟨rfl, (List.forall_mem_cons.2 ⟨rfl, (List.forall_mem_cons.2 ⟨rfl, (fun _ h => nomatch h)⟩)⟩)⟩)) ?_
      intro w97 h98
      have hk100 := h98.kp
      have h99 : El (α := cal_Shift) A78 w97 b94 0 x89 := h98.el hA ⟨[.int .i64 x89.day], _, rfl, rfl, ⟨[.int .i64 x89.from_], _, rfl, rfl, rfl⟩⟩
      have ht101 := Kp.tr hk100 hA hB
      replace hH := Hp.kp hH hk100
      replace h62 := Sl.tr h62 ht101
      replace h92 := El.tr h92 ht101
      replace hK := Tr.trans hK ht101
      replace hr69 := Tr.trans hr69 ht101
      replace hB := Nat.le_trans hB ht101.ex.size
      replace hA := ht101.new
      refine V_to (fun _ _ => rfl) ?_
      refine C_seq ?_
      refine C_region ?_
      have h102 := El_cal_Shift_1 h99
      refine V_y (Y_fieldAddr Try.underlying110 rfl Try.sizeOf3 (by decide) rfl) rfl rfl rfl ?_
      refine V_y (Y_load (El.int h102) Try.isAgg3 rfl) rfl rfl rfl ?_
      refine V_y (Y_move rfl) rfl rfl rfl ?_
      refine V_y (Y_addI rfl rfl) rfl rfl rfl ?_
      refine V_y (Y_leq rfl rfl) rfl rfl rfl ?_
      refine V_y (Y_move rfl) rfl rfl rfl ?_
      refine V_cut 6 (fun _ : Unit => [(6, .int .i64 x6.2), (43, v61), (44, .int .i64 (x60.length : Int)), (45, .int .i64 (k70 : Int)), (60, .bool ((decide (x89.from_ ≤ (w64 (x6.2 + 1440)))) && (decide ((w64 (x6.2 + 1440)) < x89.to_))))]) (fun _ w' => w97 = w') ?_ ?_
      · simp only [List.take, List.drop]
        rcases Bool.eq_false_or_eq_true (decide (x89.from_ ≤ (w64 (x6.2 + 1440)))) with hc103 | hc103
        · refine V_ge rfl rfl rfl hc103 ?_
          refine V_y (Y_move rfl) rfl rfl rfl ?_
          refine V_ge rfl rfl rfl hc103 ?_
          refine V_y (Y_addI rfl rfl) rfl rfl rfl ?_
          refine V_ge rfl rfl rfl hc103 ?_
          have h105 := El_cal_Shift_2 h99
          refine V_y (Y_fieldAddr Try.underlying110 rfl Try.sizeOf3 (by decide) rfl) rfl rfl rfl ?_
          refine V_ge rfl rfl rfl hc103 ?_
          refine V_y (Y_load (El.int h105) Try.isAgg3 rfl) rfl rfl rfl ?_
          refine V_ge rfl rfl rfl hc103 ?_
          refine V_y (Y_lss rfl rfl) rfl rfl rfl ?_
          refine V_y (Y_pick_te rfl hc103 rfl) rfl rfl rfl ?_
          exact V_end fun a ha => ⟨(), ha.sub ⟨rfl, rfl, rfl, rfl, (by rw [hc103]; rfl), trivial⟩, rfl⟩
        · refine V_gn rfl rfl rfl hc103 rfl rfl rfl ?_
          refine V_gn rfl rfl rfl hc103 rfl rfl rfl ?_
          refine V_gn rfl rfl rfl hc103 rfl rfl rfl ?_
          refine V_gn rfl rfl rfl hc103 rfl rfl rfl ?_
          refine V_gn rfl rfl rfl hc103 rfl rfl rfl ?_
          refine V_y (Y_pick_fe rfl hc103 rfl) rfl rfl rfl ?_
          exact V_end fun a ha => ⟨(), ha.sub ⟨rfl, rfl, rfl, rfl, (by rw [hc103]; rfl), trivial⟩, rfl⟩
      simp only [List.take, List.drop]
      rintro _ _ rfl
      refine V_to (fun _ _ => rfl) ?_
      refine C_cond rfl (fun hc106 => ?_) (fun hc106 => ?_)
      · rw [if_pos hc106] at h81
        refine C_seq ?_
        refine C_region ?_
        refine V_y (Y_assign rfl) rfl rfl rfl ?_
        refine V_to (fun _ _ => rfl) ?_
        obtain rfl := Option.some.inj h81
        obtain rfl := (h82 : Lp.rt _ = _)
        rw [Lp.andThen_rt] at hm
        obtain rfl := Option.some.inj hm
        refine C_ret ?_
        try simp only [↓inBlock_ret, ↓then_ret]
        exact retQ rfl (Res.one Try.results48 rfl) ⟨A78, rfl, hH, hK⟩
      · rw [if_neg (nt hc106)] at h81
        refine C_skip_to (fun _ _ => rfl) ?_
        refine C_region ?_
        refine V_y (Y_addI rfl rfl) rfl rfl rfl ?_
        refine V_y (Y_move rfl) rfl rfl rfl ?_
        obtain rfl := Option.some.inj h81
        refine V_end (fun a ha107 => ?_)
        exact ⟨(), hlt84, h82, ⟨A78, ha107.sub ⟨rfl, rfl, rfl, (congrArg (fun z => some (Value.int .i64 z)) (w64_succ hlt84 hn87)), trivial⟩, ⟨hH, hr69⟩⟩⟩
    · refine C_exit (fun a ha108 => ?_)
      exact ⟨((), A78), ha108.sub trivial, ⟨(h85 (eq_of_dec hle83 hc88)).symm, hH, hr69⟩⟩
  rintro ⟨s68, A74⟩ w71 ⟨rfl, hH75, hk72⟩ a ha73
  rw [Lp.andThen_fin] at hm
  replace hK := Tr.trans hK hk72
  replace hB := Nat.le_trans hB hk72.ex.size
  replace hA := hk72.new
  replace hH : Hp B A74 w71 (obCk 107 portref2_ShiftsIn b_k_ k_ :: L) := hH75
  refine C_at (n := ⟨62, [], none⟩) (fun _ _ => rfl) ?_ ha73
  refine C_seq ?_
  refine C_region ?_
  refine V_y (Y_assign rfl) rfl rfl rfl ?_
  refine V_to (fun _ _ => rfl) ?_
  obtain rfl := Option.some.inj hm
  refine C_ret ?_
  try simp only [↓inBlock_ret, ↓then_ret]
  exact retQ rfl (Res.one Try.results48 rfl) ⟨A74, rfl, hH, hK⟩

set_option maxRecDepth 4000 in
set_option maxHeartbeats 4000000 in
theorem portref2_meter_first_c (w : World) {A : Nat → Prop} {B : Nat} (hB : B ≤ w.heap.size) (hA : ∀ b, w.heap.size ≤ b → A b) (x : portref2_meter) (b_x : Nat) (v_x : Value) (c : level_Clock) (v_c : Value) (h_c : Sl A w v_c c.pieces) (amount : Int) {L : List Ob} (hH : Hp B A w (obC b_x [v_x] 82 :: obPS (obCk 107 portref2_ShiftsIn) 79 v_x x.clocks :: L)) {r : Int} (hm : portref2_meter_first x c amount = some r) : Ret Try.prog 50 #[.pointer (some ⟨b_x, 0, none⟩), .agg #[.int .i64 c.kind, .int .i64 c.level, .int .i64 c.minutes, .int .i64 c.start, .int .i64 c.stop, .int .i64 c.end_, v_c], .int .i64 amount] w fun v w' => ∃ A1 : Nat → Prop, v = .int .i64 r ∧ Hp B A1 w' (obC b_x [v_x] 82 :: obPS (obCk 107 portref2_ShiftsIn) 79 v_x x.clocks :: L) ∧ Tr B A w A1 w' := by
  unfold portref2_meter_first at hm
  refine enter Try.func50 rfl Try.ntmps50 rfl ?_
  have hK : Tr B A w A w := Tr.refl hA
  refine C_seq ?_
  refine C_region ?_
  refine V_box rfl rfl ?_
  intro b5 w6 h7
  have hk9 := h7.kp
  have h8 : El (α := level_Clock) A w6 b5 0 c := h7.el hA ⟨[.int .i64 c.kind], _, rfl, rfl, ⟨[.int .i64 c.level], _, rfl, rfl, ⟨[.int .i64 c.minutes], _, rfl, rfl, ⟨[.int .i64 c.start], _, rfl, rfl, ⟨[.int .i64 c.stop], _, rfl, rfl, ⟨[.int .i64 c.end_], _, rfl, rfl, ⟨_, rfl, h_c⟩⟩⟩⟩⟩⟩⟩
  have ht10 := Kp.tr hk9 hA hB
  replace hH := Hp.kp hH hk9
  replace h_c := Sl.tr h_c ht10
  replace hK := Tr.trans hK ht10
  replace hB := Nat.le_trans hB ht10.ex.size
  replace hA := ht10.new
  refine V_y (Y_assign rfl) rfl rfl rfl ?_
  refine V_to (fun _ _ => rfl) ?_
  refine C_seq ?_
  refine C_region_q Try_mixed (by kernel_rfl) ?_
  have h11 := El_level_Clock_3 h8
  refine VQ_y (fun w' hw' => Y_fieldAddr Try.underlying35 rfl Try.sizeOf3 (by decide) rfl) rfl rfl rfl ?_
  refine VQ_y (fun w' hw' => Y_load (El.int (El.kp h11 hw')) Try.isAgg3 rfl) rfl rfl rfl ?_
  refine VQ_y (fun w' hw' => Y_assign rfl) rfl rfl rfl ?_
  refine VQ_y (fun w' hw' => Y_assign rfl) rfl rfl rfl ?_
  refine VQ_to (fun _ _ => rfl) (fun w12 hk13 => ?_)
  have ht14 := Kp.tr hk13 hA hB
  replace hH := Hp.kp hH hk13
  replace h8 := El.tr h8 ht14
  replace hK := Tr.trans hK ht14
  replace hB := Nat.le_trans hB ht14.ex.size
  replace hA := ht14.new
  refine C_seq ?_
  obtain ⟨o15, ho15, hm⟩ := Option.bind_eq_some_iff.1 hm
  refine C_cutG (ι := ((Int × Int) × (Nat → Prop))) (fun ⟨s16, A22⟩ => [(8, .int .i64 s16.2)]) (fun ⟨s16, A22⟩ => fun w' => o15 = .fin s16 ∧ Hp B A22 w' (obC b_x [v_x] 82 :: obPS (obCk 107 portref2_ShiftsIn) 79 v_x x.clocks :: L) ∧ Tr B A w12 A22 w') ?_ ?_
  · refine C_block ?_
    refine C_while ho15 (fun s24 a w' => ∃ i : (Nat → Prop), Has ⟨59, [], none⟩ a ([(0, .pointer (some ⟨b_x, 0, none⟩)), (2, .int .i64 amount), (4, .pointer (some ⟨b5, 0, none⟩)), (7, .int .i64 s24.1), (8, .int .i64 s24.2)]) ∧ Hp B i w' (obC b_x [v_x] 82 :: obPS (obCk 107 portref2_ShiftsIn) 79 v_x x.clocks :: L) ∧ Tr B A w12 i w') (fun a ha => ⟨A, ha.sub ⟨rfl, rfl, rfl, rfl, rfl, trivial⟩, ⟨hH, Tr.refl hA⟩⟩) ?_
    rintro K s24 a w25 ⟨A26, ha184, hH27, hr17⟩ K34
    refine C_of ?_ ha184
    replace h8 := El.tr h8 hr17
    replace hK := Tr.trans hK hr17
    replace hB := Nat.le_trans hB hr17.ex.size
    replace hA := hr17.new
    replace hH : Hp B A26 w25 (obC b_x [v_x] 82 :: obPS (obCk 107 portref2_ShiftsIn) 79 v_x x.clocks :: L) := hH27
    obtain ⟨x28, h29, h30⟩ := K34
    refine C_seq ?_
    refine C_seq ?_
    refine C_region ?_
    refine V_y (Y_move rfl) rfl rfl rfl ?_
    refine V_y (Y_leq rfl rfl) rfl rfl rfl ?_
    refine V_to (fun _ _ => rfl) ?_
    refine C_cond rfl (fun hc35 => ?_) (fun hc35 => ?_)
    · rw [if_pos hc35] at h29
      refine C_skip_to (fun _ _ => rfl) ?_
      refine C_seq ?_
      obtain ⟨o36, ho36, h29⟩ := Option.bind_eq_some_iff.1 h29
      refine C_cutG (ι := (Int × (Nat → Prop))) (fun ⟨s37, A42⟩ => [(0, .pointer (some ⟨b_x, 0, none⟩)), (2, .int .i64 amount), (4, .pointer (some ⟨b5, 0, none⟩)), (7, .int .i64 s37), (8, .int .i64 s24.2)]) (fun ⟨s37, A42⟩ => fun w' => o36 = .fin s37 ∧ Hp B A42 w' (obC b_x [v_x] 82 :: obPS (obCk 107 portref2_ShiftsIn) 79 v_x x.clocks :: L) ∧ Tr B A26 w25 A42 w') ?_ ?_
      · have hr38 : Tr B A26 w25 A26 w25 := Tr.refl hA
        refine C_block ?_
        refine C_seq ?_
        refine C_seq ?_
        refine C_region ?_
        refine V_y (Y_move rfl) rfl rfl rfl ?_
        refine V_y (Y_move rfl) rfl rfl rfl ?_
        refine V_y (Y_geq rfl rfl) rfl rfl rfl ?_
        refine V_to (fun _ _ => rfl) ?_
        refine C_cond rfl (fun hc44 => ?_) (fun hc44 => ?_)
        · rw [if_pos hc44] at ho36
          refine C_seq ?_
          refine C_region ?_
          refine V_y (Y_move rfl) rfl rfl rfl ?_
          refine V_y (Y_assign rfl) rfl rfl rfl ?_
          refine V_to (fun _ _ => rfl) ?_
          obtain rfl := Option.some.inj ho36
          rw [Lp.andThen_rt] at h29
          obtain rfl := Option.some.inj h29
          obtain rfl := (h30 : Lp.rt _ = _)
          rw [Lp.andThen_rt] at hm
          obtain rfl := Option.some.inj hm
          refine C_ret ?_
          try simp only [↓inBlock_ret, ↓then_ret]
          exact retQ rfl (Res.one Try.results50 rfl) ⟨A26, rfl, hH, hK⟩
        · rw [if_neg (nt hc44)] at ho36
          refine C_skip_to (fun _ _ => rfl) ?_
          refine C_seq ?_
          refine C_region ?_
          have h45 := El_level_Clock_6 h8
          refine V_y (Y_fieldAddr Try.underlying35 rfl Try.sizeOf33 (by decide) rfl) rfl rfl rfl ?_
          obtain ⟨v46, h47, h48⟩ := El.list h45
          refine V_y (Y_load h47 Try.isAgg33 rfl) rfl rfl rfl ?_
          refine V_y (Y_lenSl h48 rfl Try.underlying33 rfl) rfl rfl rfl ?_
          refine V_y (Y_move rfl) rfl rfl rfl ?_
          refine V_to (fun _ _ => rfl) ?_
          have hn69 := Sl.le h48
          obtain ⟨o49, ho49, ho36⟩ := Option.bind_eq_some_iff.1 ho36
          refine C_cutG (ι := (Int × (Nat → Prop))) (fun ⟨s50, A56⟩ => [(0, .pointer (some ⟨b_x, 0, none⟩)), (2, .int .i64 amount), (4, .pointer (some ⟨b5, 0, none⟩)), (7, .int .i64 s50), (8, .int .i64 s24.2)]) (fun ⟨s50, A56⟩ => fun w' => o49 = .fin s50 ∧ Hp B A56 w' (obC b_x [v_x] 82 :: obPS (obCk 107 portref2_ShiftsIn) 79 v_x x.clocks :: L) ∧ Tr B A26 w25 A56 w') ?_ ?_
          · refine C_block ?_
            refine C_range ho49 (fun k52 s58 a w' => ∃ i : (Nat → Prop), Has ⟨59, [], none⟩ a ([(0, .pointer (some ⟨b_x, 0, none⟩)), (2, .int .i64 amount), (4, .pointer (some ⟨b5, 0, none⟩)), (7, .int .i64 s58), (8, .int .i64 s24.2), (22, v46), (23, .int .i64 (c.pieces.length : Int)), (24, .int .i64 (k52 : Int))]) ∧ Hp B i w' (obC b_x [v_x] 82 :: obPS (obCk 107 portref2_ShiftsIn) 79 v_x x.clocks :: L) ∧ Tr B A26 w25 i w') (fun a ha => ⟨A26, ha.sub ⟨rfl, rfl, rfl, rfl, rfl, rfl, rfl, rfl, trivial⟩, ⟨hH, Tr.refl hA⟩⟩) ?_
            rintro K k52 s58 a w59 ⟨A60, ha180, hH61, hr51⟩ hle65 K68 h67
            refine C_of ?_ ha180
            replace h8 := El.tr h8 hr51
            replace h48 := Sl.tr h48 hr51
            replace hK := Tr.trans hK hr51
            replace hr17 := Tr.trans hr17 hr51
            replace hr38 := Tr.trans hr38 hr51
            replace hB := Nat.le_trans hB hr51.ex.size
            replace hA := hr51.new
            replace hH : Hp B A60 w59 (obC b_x [v_x] 82 :: obPS (obCk 107 portref2_ShiftsIn) 79 v_x x.clocks :: L) := hH61
            refine C_seq (C_region (V_y (Y_lss rfl rfl) rfl rfl rfl (V_to (fun _ _ => rfl) ?_)))
            refine C_seq ?_
            refine C_cond rfl (fun hc70 => ?_) (fun hc70 => ?_)
            · have hlt66 := lt_of_dec hc70
              obtain ⟨x62, h63, h64⟩ := K68 hlt66
              refine C_skip_to (fun _ _ => rfl) ?_
              refine C_seq ?_
              obtain ⟨s72, ho71, h63⟩ := Option.bind_eq_some_iff.1 h63
              refine C_cutG (ι := (Nat → Prop)) (fun (A77 : (Nat → Prop)) => [(0, .pointer (some ⟨b_x, 0, none⟩)), (2, .int .i64 amount), (4, .pointer (some ⟨b5, 0, none⟩)), (7, .int .i64 s72), (8, .int .i64 s24.2), (22, v46), (23, .int .i64 (c.pieces.length : Int)), (24, .int .i64 (k52 : Int))]) (fun (A77 : (Nat → Prop)) => fun w' => Hp B A77 w' (obC b_x [v_x] 82 :: obPS (obCk 107 portref2_ShiftsIn) 79 v_x x.clocks :: L) ∧ Tr B A60 w59 A77 w') ?_ ?_
              · have hr73 : Tr B A60 w59 A60 w59 := Tr.refl hA
                refine C_block ?_
                refine C_seq ?_
                refine C_region ?_
                obtain ⟨x79, hx79, ho71⟩ := Option.bind_eq_some_iff.1 ho71
                refine V_indexAddr h48 hx79 Try.underlying33 Try.sizeOf64 rfl rfl rfl ?_
                intro b80 o81 h82
                obtain ⟨h83, _⟩ := El_level_Piece h82
                refine V_y (Y_loadA h83 Try.isAgg64 Try.sizeOf64 rfl) rfl rfl rfl ?_
                refine V_alloc Try.zeroValue64 rfl ?_
                intro b84 w85 h86
                refine V_storeNew h86 Try.sizeOf64 rfl rfl rfl rfl (by exact (List.forall_mem_cons.2 ⟨rfl, (List.forall_mem_cons.2 ⟨rfl, (List.forall_mem_cons.2 ⟨rfl, (fun _ h => nomatch h)⟩)⟩)⟩)) ?_
                intro w87 h88
                have hk90 := h88.kp
                have h89 : El (α := level_Piece) A60 w87 b84 0 x79 := h88.el hA ⟨[.int .i64 x79.from_], _, rfl, rfl, ⟨[.int .i64 x79.to_], _, rfl, rfl, rfl⟩⟩
                have ht91 := Kp.tr hk90 hA hB
                replace hH := Hp.kp hH hk90
                replace h8 := El.tr h8 ht91
                replace h48 := Sl.tr h48 ht91
                replace h82 := El.tr h82 ht91
                replace hK := Tr.trans hK ht91
                replace hr17 := Tr.trans hr17 ht91
                replace hr38 := Tr.trans hr38 ht91
                replace hr51 := Tr.trans hr51 ht91
                replace hr73 := Tr.trans hr73 ht91
                replace hB := Nat.le_trans hB ht91.ex.size
                replace hA := ht91.new
                refine V_to (fun _ _ => rfl) ?_
                refine C_seq ?_
                obtain ⟨s93, ho92, ho71⟩ := Option.bind_eq_some_iff.1 ho71
                refine C_cutG (ι := (Nat → Prop)) (fun (A98 : (Nat → Prop)) => [(0, .pointer (some ⟨b_x, 0, none⟩)), (2, .int .i64 amount), (4, .pointer (some ⟨b5, 0, none⟩)), (7, .int .i64 s58), (8, .int .i64 s24.2), (22, v46), (23, .int .i64 (c.pieces.length : Int)), (24, .int .i64 (k52 : Int)), (54, .bool s93)]) (fun (A98 : (Nat → Prop)) => fun w' => Hp B A98 w' (obC b_x [v_x] 82 :: obPS (obCk 107 portref2_ShiftsIn) 79 v_x x.clocks :: L) ∧ Tr B A60 w87 A98 w') ?_ ?_
                · have hr94 : Tr B A60 w87 A60 w87 := Tr.refl hA
                  refine C_region_qt 25 Try_mixed (by kernel_rfl) ?_
                  simp only [List.take, List.drop]
                  have h100 := El_level_Piece_0 h89
                  refine VQ_y (fun w' hw' => Y_fieldAddr Try.underlying64 rfl Try.sizeOf3 (by decide) rfl) rfl rfl rfl ?_
                  refine VQ_y (fun w' hw' => Y_load (El.int (El.kp h100 hw')) Try.isAgg3 rfl) rfl rfl rfl ?_
                  refine VQ_y (fun w' hw' => Y_move rfl) rfl rfl rfl ?_
                  refine VQ_y (fun w' hw' => Y_leq rfl rfl) rfl rfl rfl ?_
                  refine VQ_y (fun w' hw' => Y_move rfl) rfl rfl rfl ?_
                  rcases Bool.eq_false_or_eq_true (decide (x79.from_ ≤ s24.2)) with hc101 | hc101
                  · rw [if_pos hc101] at ho92
                    refine VQ_ge rfl rfl rfl hc101 ?_
                    have h102 := El_level_Piece_1 h89
                    refine VQ_y (fun w' hw' => Y_fieldAddr Try.underlying64 rfl Try.sizeOf3 (by decide) rfl) rfl rfl rfl ?_
                    refine VQ_ge rfl rfl rfl hc101 ?_
                    refine VQ_y (fun w' hw' => Y_load (El.int (El.kp h102 hw')) Try.isAgg3 rfl) rfl rfl rfl ?_
                    refine VQ_ge rfl rfl rfl hc101 ?_
                    refine VQ_y (fun w' hw' => Y_lss rfl rfl) rfl rfl rfl ?_
                    refine VQ_ge rfl rfl rfl hc101 ?_
                    refine VQ_y (fun w' hw' => Y_move rfl) rfl rfl rfl ?_
                    rcases Bool.eq_false_or_eq_true (decide (x79.to_ < 0)) with hc103 | hc103
                    · rw [if_pos hc103] at ho92
                      refine VQ_gn rfl rfl rfl hc103 rfl rfl rfl ?_
                      refine VQ_gn rfl rfl rfl hc103 rfl rfl rfl ?_
                      refine VQ_gn rfl rfl rfl hc103 rfl rfl rfl ?_
                      refine VQ_gn rfl rfl rfl hc103 rfl rfl rfl ?_
                      refine VQ_ge rfl rfl rfl hc101 ?_
                      refine VQ_y (fun _ _ => Y_pick_te rfl hc103 rfl) rfl rfl rfl ?_
                      refine VQ_y (fun _ _ => Y_pick_te rfl hc101 rfl) rfl rfl rfl ?_
                      refine VQ_y (fun w' hw' => Y_move rfl) rfl rfl rfl ?_
                      rcases Bool.eq_false_or_eq_true (true) with hc104 | hc104
                      · rw [if_pos hc104] at ho92
                        refine VQ_ge rfl rfl rfl hc104 ?_
                        refine VQ_y (fun w' hw' => Y_move rfl) rfl rfl rfl ?_
                        refine VQ_ge rfl rfl rfl hc104 ?_
                        refine VQ_y (fun w' hw' => Y_nilCheck rfl) rfl rfl rfl ?_
                        refine VQ_ge rfl rfl rfl hc104 ?_
                        refine VQ_y (fun w' hw' => Y_fieldAddrC (off2 := 0) Try.underlying82 rfl Try.sizeOf80 (by decide) rfl rfl) rfl rfl rfl ?_
                        refine VQ_ge rfl rfl rfl hc104 ?_
                        refine VQ_y (fun w' hw' => Y_load ((World.cell?_of_block (hw'.block _ (World.block_lt_of_cell? _ _ (Hp.cell (j := 0) hH (i := 0) rfl rfl)))).trans (Hp.cell (j := 0) hH (i := 0) rfl rfl)) Try.isAgg80 rfl) rfl rfl rfl ?_
                        refine VQ_ge rfl rfl rfl hc104 ?_
                        have h105 := El_level_Piece_2 h89
                        refine VQ_y (fun w' hw' => Y_fieldAddr Try.underlying64 rfl Try.sizeOf3 (by decide) rfl) rfl rfl rfl ?_
                        refine VQ_ge rfl rfl rfl hc104 ?_
                        refine VQ_y (fun w' hw' => Y_load (El.int (El.kp h105 hw')) Try.isAgg3 rfl) rfl rfl rfl ?_
                        refine VQ_ge rfl rfl rfl hc104 ?_
                        obtain ⟨x106, hx106, ho92⟩ := Option.bind_eq_some_iff.1 ho92
                        refine VQ_indexAddrPS (f := obCk 107 portref2_ShiftsIn) (e := 79) (v := v_x) (cs := x.clocks) hH (i := 1) rfl hx106 Try.underlying80 Try.sizeOf79 rfl rfl rfl ?_
                        intro b107 o108 b110 hk111 h109 hH
                        replace hH : Hp B A60 w87 (obCk 107 portref2_ShiftsIn b110 x106 :: obC b_x [v_x] 82 :: obPX (obCk 107 portref2_ShiftsIn) 79 v_x x.clocks (Int.toNat x79.calendar) b110 :: L) := hH
                        refine VQ_ge rfl rfl rfl hc104 ?_
                        refine VQ_y (fun w' hw' => Y_load ((World.cell?_of_block (hw'.block _ (World.block_lt_of_cell? _ _ (h109)))).trans (h109)) Try.isAgg79 rfl) rfl rfl rfl ?_
                        refine VQ_ge rfl rfl rfl hc104 ?_
                        refine VQ_y (fun w' hw' => Y_move rfl) rfl rfl rfl ?_
                        refine VQ_tail (fun w112 hk113 => ?_)
                        try simp only [List.take, List.drop]
                        have ht114 := Kp.tr hk113 hA hB
                        replace hH := Hp.kp hH hk113
                        replace h8 := El.tr h8 ht114
                        replace h48 := Sl.tr h48 ht114
                        replace h89 := El.tr h89 ht114
                        replace h100 := El.tr h100 ht114
                        replace h102 := El.tr h102 ht114
                        replace h105 := El.tr h105 ht114
                        replace hK := Tr.trans hK ht114
                        replace hr17 := Tr.trans hr17 ht114
                        replace hr38 := Tr.trans hr38 ht114
                        replace hr51 := Tr.trans hr51 ht114
                        replace hr73 := Tr.trans hr73 ht114
                        replace hr94 := Tr.trans hr94 ht114
                        replace hB := Nat.le_trans hB ht114.ex.size
                        replace hA := ht114.new
                        refine V_ge rfl rfl rfl hc104 ?_
                        obtain ⟨x115, hx115, ho92⟩ := Option.bind_eq_some_iff.1 ho92
                        refine V_call Try.call48 rfl rfl rfl rfl (portref2_Clock_Open_c w112 hB hA x106 b110 s24.2 hH hx115) ?_
                        rintro _ w116 ⟨A117, rfl, hH118, ht119⟩
                        replace h8 := El.tr h8 ht119
                        replace h48 := Sl.tr h48 ht119
                        replace h89 := El.tr h89 ht119
                        replace h100 := El.tr h100 ht119
                        replace h102 := El.tr h102 ht119
                        replace h105 := El.tr h105 ht119
                        replace hK := Tr.trans hK ht119
                        replace hr17 := Tr.trans hr17 ht119
                        replace hr38 := Tr.trans hr38 ht119
                        replace hr51 := Tr.trans hr51 ht119
                        replace hr73 := Tr.trans hr73 ht119
                        replace hr94 := Tr.trans hr94 ht119
                        replace hB := Nat.le_trans hB ht119.ex.size
                        replace hA := ht119.new
                        replace hH : Hp B A117 w116 (obCk 107 portref2_ShiftsIn b110 x106 :: obC b_x [v_x] 82 :: obPX (obCk 107 portref2_ShiftsIn) 79 v_x x.clocks (Int.toNat x79.calendar) b110 :: L) := hH118
                        replace hH : Hp B A117 w116 (obC b_x [v_x] 82 :: obPS (obCk 107 portref2_ShiftsIn) 79 v_x x.clocks :: L) := Hp.psBack hH (i := 1) rfl hk111
                        refine V_y (Y_pick_te rfl hc104 rfl) rfl rfl rfl ?_
                        obtain rfl := Option.some.inj ho92
                        refine V_end (fun a ha120 => ?_)
                        exact ⟨A117, ha120.sub ⟨rfl, rfl, rfl, rfl, rfl, rfl, rfl, rfl, rfl, trivial⟩, ⟨hH, hr94⟩⟩
                      · rw [if_neg (nt hc104)] at ho92
                        refine VQ_gn rfl rfl rfl hc104 rfl rfl rfl ?_
                        refine VQ_gn rfl rfl rfl hc104 rfl rfl rfl ?_
                        refine VQ_gn rfl rfl rfl hc104 rfl rfl rfl ?_
                        refine VQ_gn rfl rfl rfl hc104 rfl rfl rfl ?_
                        refine VQ_gn rfl rfl rfl hc104 rfl rfl rfl ?_
                        refine VQ_gn rfl rfl rfl hc104 rfl rfl rfl ?_
                        refine VQ_gn rfl rfl rfl hc104 rfl rfl rfl ?_
                        refine VQ_gn rfl rfl rfl hc104 rfl rfl rfl ?_
                        refine VQ_gn rfl rfl rfl hc104 rfl rfl rfl ?_
                        refine VQ_tail (fun w121 hk122 => ?_)
                        try simp only [List.take, List.drop]
                        have ht123 := Kp.tr hk122 hA hB
                        replace hH := Hp.kp hH hk122
                        replace h8 := El.tr h8 ht123
                        replace h48 := Sl.tr h48 ht123
                        replace h89 := El.tr h89 ht123
                        replace h100 := El.tr h100 ht123
                        replace h102 := El.tr h102 ht123
                        replace hK := Tr.trans hK ht123
                        replace hr17 := Tr.trans hr17 ht123
                        replace hr38 := Tr.trans hr38 ht123
                        replace hr51 := Tr.trans hr51 ht123
                        replace hr73 := Tr.trans hr73 ht123
                        replace hr94 := Tr.trans hr94 ht123
                        replace hB := Nat.le_trans hB ht123.ex.size
                        replace hA := ht123.new
                        refine V_gn rfl rfl rfl hc104 rfl rfl rfl ?_
                        refine V_y (Y_pick_fe rfl hc104 rfl) rfl rfl rfl ?_
                        obtain rfl := Option.some.inj ho92
                        refine V_end (fun a ha124 => ?_)
                        exact ⟨A60, ha124.sub ⟨rfl, rfl, rfl, rfl, rfl, rfl, rfl, rfl, rfl, trivial⟩, ⟨hH, hr94⟩⟩
                    · rw [if_neg (nt hc103)] at ho92
                      refine VQ_ge rfl rfl rfl hc103 ?_
                      refine VQ_y (fun w' hw' => Y_move rfl) rfl rfl rfl ?_
                      refine VQ_ge rfl rfl rfl hc103 ?_
                      have h125 := El_level_Piece_1 h89
                      refine VQ_y (fun w' hw' => Y_fieldAddr Try.underlying64 rfl Try.sizeOf3 (by decide) rfl) rfl rfl rfl ?_
                      refine VQ_ge rfl rfl rfl hc103 ?_
                      refine VQ_y (fun w' hw' => Y_load (El.int (El.kp h125 hw')) Try.isAgg3 rfl) rfl rfl rfl ?_
                      refine VQ_ge rfl rfl rfl hc103 ?_
                      refine VQ_y (fun w' hw' => Y_lss rfl rfl) rfl rfl rfl ?_
                      refine VQ_ge rfl rfl rfl hc101 ?_
                      refine VQ_y (fun _ _ => Y_pick_fe rfl hc103 rfl) rfl rfl rfl ?_
                      refine VQ_y (fun _ _ => Y_pick_te rfl hc101 rfl) rfl rfl rfl ?_
                      refine VQ_y (fun w' hw' => Y_move rfl) rfl rfl rfl ?_
                      rcases Bool.eq_false_or_eq_true (decide (s24.2 < x79.to_)) with hc126 | hc126
                      · rw [if_pos hc126] at ho92
                        refine VQ_ge rfl rfl rfl hc126 ?_
                        refine VQ_y (fun w' hw' => Y_move rfl) rfl rfl rfl ?_
                        refine VQ_ge rfl rfl rfl hc126 ?_
                        refine VQ_y (fun w' hw' => Y_nilCheck rfl) rfl rfl rfl ?_
                        refine VQ_ge rfl rfl rfl hc126 ?_
                        refine VQ_y (fun w' hw' => Y_fieldAddrC (off2 := 0) Try.underlying82 rfl Try.sizeOf80 (by decide) rfl rfl) rfl rfl rfl ?_
                        refine VQ_ge rfl rfl rfl hc126 ?_
                        refine VQ_y (fun w' hw' => Y_load ((World.cell?_of_block (hw'.block _ (World.block_lt_of_cell? _ _ (Hp.cell (j := 0) hH (i := 0) rfl rfl)))).trans (Hp.cell (j := 0) hH (i := 0) rfl rfl)) Try.isAgg80 rfl) rfl rfl rfl ?_
                        refine VQ_ge rfl rfl rfl hc126 ?_
                        have h127 := El_level_Piece_2 h89
                        refine VQ_y (fun w' hw' => Y_fieldAddr Try.underlying64 rfl Try.sizeOf3 (by decide) rfl) rfl rfl rfl ?_
                        refine VQ_ge rfl rfl rfl hc126 ?_
                        refine VQ_y (fun w' hw' => Y_load (El.int (El.kp h127 hw')) Try.isAgg3 rfl) rfl rfl rfl ?_
                        refine VQ_ge rfl rfl rfl hc126 ?_
                        obtain ⟨x128, hx128, ho92⟩ := Option.bind_eq_some_iff.1 ho92
                        refine VQ_indexAddrPS (f := obCk 107 portref2_ShiftsIn) (e := 79) (v := v_x) (cs := x.clocks) hH (i := 1) rfl hx128 Try.underlying80 Try.sizeOf79 rfl rfl rfl ?_
                        intro b129 o130 b132 hk133 h131 hH
                        replace hH : Hp B A60 w87 (obCk 107 portref2_ShiftsIn b132 x128 :: obC b_x [v_x] 82 :: obPX (obCk 107 portref2_ShiftsIn) 79 v_x x.clocks (Int.toNat x79.calendar) b132 :: L) := hH
                        refine VQ_ge rfl rfl rfl hc126 ?_
                        refine VQ_y (fun w' hw' => Y_load ((World.cell?_of_block (hw'.block _ (World.block_lt_of_cell? _ _ (h131)))).trans (h131)) Try.isAgg79 rfl) rfl rfl rfl ?_
                        refine VQ_ge rfl rfl rfl hc126 ?_
                        refine VQ_y (fun w' hw' => Y_move rfl) rfl rfl rfl ?_
                        refine VQ_tail (fun w134 hk135 => ?_)
                        try simp only [List.take, List.drop]
                        have ht136 := Kp.tr hk135 hA hB
                        replace hH := Hp.kp hH hk135
                        replace h8 := El.tr h8 ht136
                        replace h48 := Sl.tr h48 ht136
                        replace h89 := El.tr h89 ht136
                        replace h100 := El.tr h100 ht136
                        replace h102 := El.tr h102 ht136
                        replace h125 := El.tr h125 ht136
                        replace h127 := El.tr h127 ht136
                        replace hK := Tr.trans hK ht136
                        replace hr17 := Tr.trans hr17 ht136
                        replace hr38 := Tr.trans hr38 ht136
                        replace hr51 := Tr.trans hr51 ht136
                        replace hr73 := Tr.trans hr73 ht136
                        replace hr94 := Tr.trans hr94 ht136
                        replace hB := Nat.le_trans hB ht136.ex.size
                        replace hA := ht136.new
                        refine V_ge rfl rfl rfl hc126 ?_
                        obtain ⟨x137, hx137, ho92⟩ := Option.bind_eq_some_iff.1 ho92
                        refine V_call Try.call48 rfl rfl rfl rfl (portref2_Clock_Open_c w134 hB hA x128 b132 s24.2 hH hx137) ?_
                        rintro _ w138 ⟨A139, rfl, hH140, ht141⟩
                        replace h8 := El.tr h8 ht141
                        replace h48 := Sl.tr h48 ht141
                        replace h89 := El.tr h89 ht141
                        replace h100 := El.tr h100 ht141
                        replace h102 := El.tr h102 ht141
                        replace h125 := El.tr h125 ht141
                        replace h127 := El.tr h127 ht141
                        replace hK := Tr.trans hK ht141
                        replace hr17 := Tr.trans hr17 ht141
                        replace hr38 := Tr.trans hr38 ht141
                        replace hr51 := Tr.trans hr51 ht141
                        replace hr73 := Tr.trans hr73 ht141
                        replace hr94 := Tr.trans hr94 ht141
                        replace hB := Nat.le_trans hB ht141.ex.size
                        replace hA := ht141.new
                        replace hH : Hp B A139 w138 (obCk 107 portref2_ShiftsIn b132 x128 :: obC b_x [v_x] 82 :: obPX (obCk 107 portref2_ShiftsIn) 79 v_x x.clocks (Int.toNat x79.calendar) b132 :: L) := hH140
                        replace hH : Hp B A139 w138 (obC b_x [v_x] 82 :: obPS (obCk 107 portref2_ShiftsIn) 79 v_x x.clocks :: L) := Hp.psBack hH (i := 1) rfl hk133
                        refine V_y (Y_pick_te rfl hc126 rfl) rfl rfl rfl ?_
                        obtain rfl := Option.some.inj ho92
                        refine V_end (fun a ha142 => ?_)
                        exact ⟨A139, ha142.sub ⟨rfl, rfl, rfl, rfl, rfl, rfl, rfl, rfl, rfl, trivial⟩, ⟨hH, hr94⟩⟩
                      · rw [if_neg (nt hc126)] at ho92
                        refine VQ_gn rfl rfl rfl hc126 rfl rfl rfl ?_
                        refine VQ_gn rfl rfl rfl hc126 rfl rfl rfl ?_
                        refine VQ_gn rfl rfl rfl hc126 rfl rfl rfl ?_
                        refine VQ_gn rfl rfl rfl hc126 rfl rfl rfl ?_
                        refine VQ_gn rfl rfl rfl hc126 rfl rfl rfl ?_
                        refine VQ_gn rfl rfl rfl hc126 rfl rfl rfl ?_
                        refine VQ_gn rfl rfl rfl hc126 rfl rfl rfl ?_
                        refine VQ_gn rfl rfl rfl hc126 rfl rfl rfl ?_
                        refine VQ_gn rfl rfl rfl hc126 rfl rfl rfl ?_
                        refine VQ_tail (fun w143 hk144 => ?_)
                        try simp only [List.take, List.drop]
                        have ht145 := Kp.tr hk144 hA hB
                        replace hH := Hp.kp hH hk144
                        replace h8 := El.tr h8 ht145
                        replace h48 := Sl.tr h48 ht145
                        replace h89 := El.tr h89 ht145
                        replace h100 := El.tr h100 ht145
                        replace h102 := El.tr h102 ht145
                        replace h125 := El.tr h125 ht145
                        replace hK := Tr.trans hK ht145
                        replace hr17 := Tr.trans hr17 ht145
                        replace hr38 := Tr.trans hr38 ht145
                        replace hr51 := Tr.trans hr51 ht145
                        replace hr73 := Tr.trans hr73 ht145
                        replace hr94 := Tr.trans hr94 ht145
                        replace hB := Nat.le_trans hB ht145.ex.size
                        replace hA := ht145.new
                        refine V_gn rfl rfl rfl hc126 rfl rfl rfl ?_
                        refine V_y (Y_pick_fe rfl hc126 rfl) rfl rfl rfl ?_
                        obtain rfl := Option.some.inj ho92
                        refine V_end (fun a ha146 => ?_)
                        exact ⟨A60, ha146.sub ⟨rfl, rfl, rfl, rfl, rfl, rfl, rfl, rfl, rfl, trivial⟩, ⟨hH, hr94⟩⟩
                  · rw [if_neg (nt hc101)] at ho92
                    refine VQ_gn rfl rfl rfl hc101 rfl rfl rfl ?_
                    refine VQ_gn rfl rfl rfl hc101 rfl rfl rfl ?_
                    refine VQ_gn rfl rfl rfl hc101 rfl rfl rfl ?_
                    refine VQ_gn rfl rfl rfl hc101 rfl rfl rfl ?_
                    refine VQ_gu rfl rfl rfl rfl rfl ?_
                    refine VQ_gu rfl rfl rfl rfl rfl ?_
                    refine VQ_gu rfl rfl rfl rfl rfl ?_
                    refine VQ_gu rfl rfl rfl rfl rfl ?_
                    refine VQ_gn rfl rfl rfl hc101 rfl rfl rfl ?_
                    refine VQ_y (fun _ _ => Y_pick_fe rfl hc101 rfl) rfl rfl rfl ?_
                    refine VQ_y (fun w' hw' => Y_move rfl) rfl rfl rfl ?_
                    rcases Bool.eq_false_or_eq_true (false) with hc147 | hc147
                    · rw [if_pos hc147] at ho92
                      refine VQ_ge rfl rfl rfl hc147 ?_
                      refine VQ_y (fun w' hw' => Y_move rfl) rfl rfl rfl ?_
                      refine VQ_ge rfl rfl rfl hc147 ?_
                      refine VQ_y (fun w' hw' => Y_nilCheck rfl) rfl rfl rfl ?_
                      refine VQ_ge rfl rfl rfl hc147 ?_
                      refine VQ_y (fun w' hw' => Y_fieldAddrC (off2 := 0) Try.underlying82 rfl Try.sizeOf80 (by decide) rfl rfl) rfl rfl rfl ?_
                      refine VQ_ge rfl rfl rfl hc147 ?_
                      refine VQ_y (fun w' hw' => Y_load ((World.cell?_of_block (hw'.block _ (World.block_lt_of_cell? _ _ (Hp.cell (j := 0) hH (i := 0) rfl rfl)))).trans (Hp.cell (j := 0) hH (i := 0) rfl rfl)) Try.isAgg80 rfl) rfl rfl rfl ?_
                      refine VQ_ge rfl rfl rfl hc147 ?_
                      have h148 := El_level_Piece_2 h89
                      refine VQ_y (fun w' hw' => Y_fieldAddr Try.underlying64 rfl Try.sizeOf3 (by decide) rfl) rfl rfl rfl ?_
                      refine VQ_ge rfl rfl rfl hc147 ?_
                      refine VQ_y (fun w' hw' => Y_load (El.int (El.kp h148 hw')) Try.isAgg3 rfl) rfl rfl rfl ?_
                      refine VQ_ge rfl rfl rfl hc147 ?_
                      obtain ⟨x149, hx149, ho92⟩ := Option.bind_eq_some_iff.1 ho92
                      refine VQ_indexAddrPS (f := obCk 107 portref2_ShiftsIn) (e := 79) (v := v_x) (cs := x.clocks) hH (i := 1) rfl hx149 Try.underlying80 Try.sizeOf79 rfl rfl rfl ?_
                      intro b150 o151 b153 hk154 h152 hH
                      replace hH : Hp B A60 w87 (obCk 107 portref2_ShiftsIn b153 x149 :: obC b_x [v_x] 82 :: obPX (obCk 107 portref2_ShiftsIn) 79 v_x x.clocks (Int.toNat x79.calendar) b153 :: L) := hH
                      refine VQ_ge rfl rfl rfl hc147 ?_
                      refine VQ_y (fun w' hw' => Y_load ((World.cell?_of_block (hw'.block _ (World.block_lt_of_cell? _ _ (h152)))).trans (h152)) Try.isAgg79 rfl) rfl rfl rfl ?_
                      refine VQ_ge rfl rfl rfl hc147 ?_
                      refine VQ_y (fun w' hw' => Y_move rfl) rfl rfl rfl ?_
                      refine VQ_tail (fun w155 hk156 => ?_)
                      try simp only [List.take, List.drop]
                      have ht157 := Kp.tr hk156 hA hB
                      replace hH := Hp.kp hH hk156
                      replace h8 := El.tr h8 ht157
                      replace h48 := Sl.tr h48 ht157
                      replace h89 := El.tr h89 ht157
                      replace h100 := El.tr h100 ht157
                      replace h148 := El.tr h148 ht157
                      replace hK := Tr.trans hK ht157
                      replace hr17 := Tr.trans hr17 ht157
                      replace hr38 := Tr.trans hr38 ht157
                      replace hr51 := Tr.trans hr51 ht157
                      replace hr73 := Tr.trans hr73 ht157
                      replace hr94 := Tr.trans hr94 ht157
                      replace hB := Nat.le_trans hB ht157.ex.size
                      replace hA := ht157.new
                      refine V_ge rfl rfl rfl hc147 ?_
                      obtain ⟨x158, hx158, ho92⟩ := Option.bind_eq_some_iff.1 ho92
                      refine V_call Try.call48 rfl rfl rfl rfl (portref2_Clock_Open_c w155 hB hA x149 b153 s24.2 hH hx158) ?_
                      rintro _ w159 ⟨A160, rfl, hH161, ht162⟩
                      replace h8 := El.tr h8 ht162
                      replace h48 := Sl.tr h48 ht162
                      replace h89 := El.tr h89 ht162
                      replace h100 := El.tr h100 ht162
                      replace h148 := El.tr h148 ht162
                      replace hK := Tr.trans hK ht162
                      replace hr17 := Tr.trans hr17 ht162
                      replace hr38 := Tr.trans hr38 ht162
                      replace hr51 := Tr.trans hr51 ht162
                      replace hr73 := Tr.trans hr73 ht162
                      replace hr94 := Tr.trans hr94 ht162
                      replace hB := Nat.le_trans hB ht162.ex.size
                      replace hA := ht162.new
                      replace hH : Hp B A160 w159 (obCk 107 portref2_ShiftsIn b153 x149 :: obC b_x [v_x] 82 :: obPX (obCk 107 portref2_ShiftsIn) 79 v_x x.clocks (Int.toNat x79.calendar) b153 :: L) := hH161
                      replace hH : Hp B A160 w159 (obC b_x [v_x] 82 :: obPS (obCk 107 portref2_ShiftsIn) 79 v_x x.clocks :: L) := Hp.psBack hH (i := 1) rfl hk154
                      refine V_y (Y_pick_te rfl hc147 rfl) rfl rfl rfl ?_
                      obtain rfl := Option.some.inj ho92
                      refine V_end (fun a ha163 => ?_)
                      exact ⟨A160, ha163.sub ⟨rfl, rfl, rfl, rfl, rfl, rfl, rfl, rfl, rfl, trivial⟩, ⟨hH, hr94⟩⟩
                    · rw [if_neg (nt hc147)] at ho92
                      refine VQ_gn rfl rfl rfl hc147 rfl rfl rfl ?_
                      refine VQ_gn rfl rfl rfl hc147 rfl rfl rfl ?_
                      refine VQ_gn rfl rfl rfl hc147 rfl rfl rfl ?_
                      refine VQ_gn rfl rfl rfl hc147 rfl rfl rfl ?_
                      refine VQ_gn rfl rfl rfl hc147 rfl rfl rfl ?_
                      refine VQ_gn rfl rfl rfl hc147 rfl rfl rfl ?_
                      refine VQ_gn rfl rfl rfl hc147 rfl rfl rfl ?_
                      refine VQ_gn rfl rfl rfl hc147 rfl rfl rfl ?_
                      refine VQ_gn rfl rfl rfl hc147 rfl rfl rfl ?_
                      refine VQ_tail (fun w164 hk165 => ?_)
                      try simp only [List.take, List.drop]
                      have ht166 := Kp.tr hk165 hA hB
                      replace hH := Hp.kp hH hk165
                      replace h8 := El.tr h8 ht166
                      replace h48 := Sl.tr h48 ht166
                      replace h89 := El.tr h89 ht166
                      replace h100 := El.tr h100 ht166
                      replace hK := Tr.trans hK ht166
                      replace hr17 := Tr.trans hr17 ht166
                      replace hr38 := Tr.trans hr38 ht166
                      replace hr51 := Tr.trans hr51 ht166
                      replace hr73 := Tr.trans hr73 ht166
                      replace hr94 := Tr.trans hr94 ht166
                      replace hB := Nat.le_trans hB ht166.ex.size
                      replace hA := ht166.new
                      refine V_gn rfl rfl rfl hc147 rfl rfl rfl ?_
                      refine V_y (Y_pick_fe rfl hc147 rfl) rfl rfl rfl ?_
                      obtain rfl := Option.some.inj ho92
                      refine V_end (fun a ha167 => ?_)
                      exact ⟨A60, ha167.sub ⟨rfl, rfl, rfl, rfl, rfl, rfl, rfl, rfl, rfl, trivial⟩, ⟨hH, hr94⟩⟩
                rintro A98 w95 ⟨hH99, hk96⟩ a ha97
                replace h8 := El.tr h8 hk96
                replace h48 := Sl.tr h48 hk96
                replace hK := Tr.trans hK hk96
                replace hr17 := Tr.trans hr17 hk96
                replace hr38 := Tr.trans hr38 hk96
                replace hr51 := Tr.trans hr51 hk96
                replace hr73 := Tr.trans hr73 hk96
                replace hB := Nat.le_trans hB hk96.ex.size
                replace hA := hk96.new
                replace hH : Hp B A98 w95 (obC b_x [v_x] 82 :: obPS (obCk 107 portref2_ShiftsIn) 79 v_x x.clocks :: L) := hH99
                refine C_at (n := ⟨59, [], none⟩) (fun _ _ => rfl) ?_ ha97
                obtain ⟨s169, ho168, ho71⟩ := Option.bind_eq_some_iff.1 ho71
                refine C_cutG (ι := Unit) (fun (_ : Unit) => [(0, .pointer (some ⟨b_x, 0, none⟩)), (2, .int .i64 amount), (4, .pointer (some ⟨b5, 0, none⟩)), (7, .int .i64 s169), (8, .int .i64 s24.2), (22, v46), (23, .int .i64 (c.pieces.length : Int)), (24, .int .i64 (k52 : Int))]) (fun (_ : Unit) => fun w' => w95 = w') ?_ ?_
                · refine C_cond rfl (fun hc174 => ?_) (fun hc174 => ?_)
                  · rw [if_pos hc174] at ho168
                    refine C_region ?_
                    refine V_y (Y_move rfl) rfl rfl rfl ?_
                    refine V_y (Y_addI rfl rfl) rfl rfl rfl ?_
                    refine V_y (Y_assign rfl) rfl rfl rfl ?_
                    obtain rfl := Option.some.inj ho168
                    refine V_end (fun a ha175 => ?_)
                    exact ⟨(), ha175.sub ⟨rfl, rfl, rfl, rfl, rfl, rfl, rfl, rfl, trivial⟩, rfl⟩
                  · rw [if_neg (nt hc174)] at ho168
                    obtain rfl := Option.some.inj ho168
                    refine C_skip (fun a ha176 => ?_)
                    exact ⟨(), ha176.sub ⟨rfl, rfl, rfl, rfl, rfl, rfl, rfl, rfl, trivial⟩, rfl⟩
                rintro _ _ rfl a ha173
                obtain rfl := Option.some.inj ho71
                exact ⟨A98, ha173.sub ⟨rfl, rfl, rfl, rfl, rfl, rfl, rfl, rfl, trivial⟩, ⟨hH, hr73⟩⟩
              rintro A77 w74 ⟨hH78, hk75⟩ a ha76
              replace h8 := El.tr h8 hk75
              replace h48 := Sl.tr h48 hk75
              replace hK := Tr.trans hK hk75
              replace hr17 := Tr.trans hr17 hk75
              replace hr38 := Tr.trans hr38 hk75
              replace hr51 := Tr.trans hr51 hk75
              replace hB := Nat.le_trans hB hk75.ex.size
              replace hA := hk75.new
              replace hH : Hp B A77 w74 (obC b_x [v_x] 82 :: obPS (obCk 107 portref2_ShiftsIn) 79 v_x x.clocks :: L) := hH78
              refine C_at (n := ⟨59, [], none⟩) (fun _ _ => rfl) ?_ ha76
              refine C_region ?_
              refine V_y (Y_addI rfl rfl) rfl rfl rfl ?_
              refine V_y (Y_move rfl) rfl rfl rfl ?_
              obtain rfl := Option.some.inj h63
              refine V_end (fun a ha178 => ?_)
              exact ⟨s72, hlt66, h64, ⟨A77, ha178.sub ⟨rfl, rfl, rfl, rfl, rfl, rfl, rfl, (congrArg (fun z => some (Value.int .i64 z)) (w64_succ hlt66 hn69)), trivial⟩, ⟨hH, hr51⟩⟩⟩
            · refine C_exit (fun a ha179 => ?_)
              exact ⟨(s58, A60), ha179.sub ⟨rfl, rfl, rfl, rfl, rfl, trivial⟩, ⟨(h67 (eq_of_dec hle65 hc70)).symm, hH, hr51⟩⟩
          rintro ⟨s50, A56⟩ w53 ⟨rfl, hH57, hk54⟩ a ha55
          rw [Lp.andThen_fin] at ho36
          replace h8 := El.tr h8 hk54
          replace hK := Tr.trans hK hk54
          replace hr17 := Tr.trans hr17 hk54
          replace hr38 := Tr.trans hr38 hk54
          replace hB := Nat.le_trans hB hk54.ex.size
          replace hA := hk54.new
          replace hH : Hp B A56 w53 (obC b_x [v_x] 82 :: obPS (obCk 107 portref2_ShiftsIn) 79 v_x x.clocks :: L) := hH57
          obtain rfl := Option.some.inj ho36
          exact ⟨(s50, A56), ha55.sub ⟨rfl, rfl, rfl, rfl, rfl, trivial⟩, ⟨rfl, hH, hr38⟩⟩
      rintro ⟨s37, A42⟩ w39 ⟨rfl, hH43, hk40⟩ a ha41
      rw [Lp.andThen_fin] at h29
      replace h8 := El.tr h8 hk40
      replace hK := Tr.trans hK hk40
      replace hr17 := Tr.trans hr17 hk40
      replace hB := Nat.le_trans hB hk40.ex.size
      replace hA := hk40.new
      replace hH : Hp B A42 w39 (obC b_x [v_x] 82 :: obPS (obCk 107 portref2_ShiftsIn) 79 v_x x.clocks :: L) := hH43
      refine C_at (n := ⟨59, [], none⟩) (fun _ _ => rfl) ?_ ha41
      refine C_region ?_
      refine V_y (Y_move rfl) rfl rfl rfl ?_
      refine V_y (Y_addI rfl rfl) rfl rfl rfl ?_
      refine V_y (Y_assign rfl) rfl rfl rfl ?_
      obtain rfl := Option.some.inj h29
      refine V_end (fun a ha182 => ?_)
      exact ⟨(s37, w64 (s24.2 + 1)), h30, ⟨A42, ha182.sub ⟨rfl, rfl, rfl, rfl, rfl, trivial⟩, ⟨hH, hr17⟩⟩⟩
    · rw [if_neg (nt hc35)] at h29
      obtain rfl := Option.some.inj h29
      refine C_exit (fun a ha183 => ?_)
      exact ⟨((s24.1, s24.2), A26), ha183.sub ⟨rfl, trivial⟩, ⟨h30.symm, hH, hr17⟩⟩
  rintro ⟨s16, A22⟩ w19 ⟨rfl, hH23, hk20⟩ a ha21
  rw [Lp.andThen_fin] at hm
  replace hK := Tr.trans hK hk20
  replace hB := Nat.le_trans hB hk20.ex.size
  replace hA := hk20.new
  replace hH : Hp B A22 w19 (obC b_x [v_x] 82 :: obPS (obCk 107 portref2_ShiftsIn) 79 v_x x.clocks :: L) := hH23
  refine C_at (n := ⟨59, [], none⟩) (fun _ _ => rfl) ?_ ha21
  refine C_seq ?_
  refine C_region ?_
  refine V_y (Y_move rfl) rfl rfl rfl ?_
  refine V_y (Y_assign rfl) rfl rfl rfl ?_
  refine V_to (fun _ _ => rfl) ?_
  obtain rfl := Option.some.inj hm
  refine C_ret ?_
  try simp only [↓inBlock_ret, ↓then_ret]
  exact retQ rfl (Res.one Try.results50 rfl) ⟨A22, rfl, hH, hK⟩

set_option maxRecDepth 4000 in
set_option maxHeartbeats 4000000 in
theorem portref2_meter_due_c (w : World) {A : Nat → Prop} {B : Nat} (hB : B ≤ w.heap.size) (hA : ∀ b, w.heap.size ≤ b → A b) (x : portref2_meter) (b_x : Nat) (v_x : Value) (c : level_Clock) (v_c : Value) (h_c : Sl A w v_c c.pieces) {L : List Ob} (hH : Hp B A w (obC b_x [v_x] 82 :: obPS (obCk 107 portref2_ShiftsIn) 79 v_x x.clocks :: L)) {r : Int} (hm : portref2_meter_due x c = some r) : Ret Try.prog 35 #[.pointer (some ⟨b_x, 0, none⟩), .agg #[.int .i64 c.kind, .int .i64 c.level, .int .i64 c.minutes, .int .i64 c.start, .int .i64 c.stop, .int .i64 c.end_, v_c]] w fun v w' => ∃ A1 : Nat → Prop, v = .int .i64 r ∧ Hp B A1 w' (obC b_x [v_x] 82 :: obPS (obCk 107 portref2_ShiftsIn) 79 v_x x.clocks :: L) ∧ Tr B A w A1 w' := by
  unfold portref2_meter_due at hm
  refine enter Try.func35 rfl Try.ntmps35 rfl ?_
  have hK : Tr B A w A w := Tr.refl hA
  refine C_seq ?_
  refine C_region ?_
  refine V_box rfl rfl ?_
  intro b5 w6 h7
  have hk9 := h7.kp
  have h8 : El (α := level_Clock) A w6 b5 0 c := h7.el hA ⟨[.int .i64 c.kind], _, rfl, rfl, ⟨[.int .i64 c.level], _, rfl, rfl, ⟨[.int .i64 c.minutes], _, rfl, rfl, ⟨[.int .i64 c.start], _, rfl, rfl, ⟨[.int .i64 c.stop], _, rfl, rfl, ⟨[.int .i64 c.end_], _, rfl, rfl, ⟨_, rfl, h_c⟩⟩⟩⟩⟩⟩⟩
  have ht10 := Kp.tr hk9 hA hB
  replace hH := Hp.kp hH hk9
  replace h_c := Sl.tr h_c ht10
  replace hK := Tr.trans hK ht10
  replace hB := Nat.le_trans hB ht10.ex.size
  replace hA := ht10.new
  refine V_y (Y_assign rfl) rfl rfl rfl ?_
  refine V_to (fun _ _ => rfl) ?_
  refine C_seq ?_
  refine C_region ?_
  refine V_y (Y_move rfl) rfl rfl rfl ?_
  obtain ⟨v11, h13, h12⟩ := El_level_Clock h8
  refine V_y (Y_loadA h13 Try.isAgg35 Try.sizeOf35 rfl) rfl rfl rfl ?_
  have h14 := El_level_Clock_2 h8
  refine V_y (Y_fieldAddr Try.underlying35 rfl Try.sizeOf3 (by decide) rfl) rfl rfl rfl ?_
  refine V_y (Y_load (El.int h14) Try.isAgg3 rfl) rfl rfl rfl ?_
  refine V_y (Y_addI rfl rfl) rfl rfl rfl ?_
  replace hH : Hp B A w6 (obPS (obCk 107 portref2_ShiftsIn) 79 v_x x.clocks :: obC b_x [v_x] 82 :: L) := Hp.front hH (i := 1) rfl
  replace hH : Hp B A w6 (obC b_x [v_x] 82 :: obPS (obCk 107 portref2_ShiftsIn) 79 v_x x.clocks :: L) := Hp.front hH (i := 1) rfl
  obtain ⟨x15, hx15, hm⟩ := Option.bind_eq_some_iff.1 hm
  refine V_call Try.call50 rfl rfl rfl rfl (portref2_meter_first_c w6 hB hA x b_x v_x c v11 h12 (w64 (c.minutes + 1)) hH hx15) ?_
  rintro _ w17 ⟨A18, rfl, hH19, ht20⟩
  replace h8 := El.tr h8 ht20
  replace h12 := Sl.tr h12 ht20
  replace h14 := El.tr h14 ht20
  replace hK := Tr.trans hK ht20
  replace hB := Nat.le_trans hB ht20.ex.size
  replace hA := ht20.new
  replace hH : Hp B A18 w17 (obC b_x [v_x] 82 :: obPS (obCk 107 portref2_ShiftsIn) 79 v_x x.clocks :: L) := hH19
  refine V_y (Y_subI rfl rfl) rfl rfl rfl ?_
  refine V_y (Y_assign rfl) rfl rfl rfl ?_
  refine V_to (fun _ _ => rfl) ?_
  obtain rfl := Option.some.inj hm
  refine C_ret ?_
  try simp only [↓inBlock_ret, ↓then_ret]
  exact retQ rfl (Res.one Try.results35 rfl) ⟨A18, rfl, hH, hK⟩

set_option maxRecDepth 4000 in
set_option maxHeartbeats 4000000 in
theorem portref2_DueOf_c (w : World) {A : Nat → Prop} (hA : ∀ b, w.heap.size ≤ b → A b) (c : level_Clock) (v_c : Value) (h_c : Sl A w v_c c.pieces) (cals : (List cal_Calendar)) (v_cals : Value) (h_cals : Sl A w v_cals cals) {r : (Int × Int)} (hm : portref2_DueOf c cals = some r) : Ret Try.prog 18 #[.agg #[.int .i64 c.kind, .int .i64 c.level, .int .i64 c.minutes, .int .i64 c.start, .int .i64 c.stop, .int .i64 c.end_, v_c], v_cals] w fun v w' => v = .tuple #[.int .i64 r.1, .int .i64 r.2] ∧ Kp w w' := by
  unfold portref2_DueOf at hm
  refine enter Try.func18 rfl Try.ntmps18 rfl ?_
  have hA0 := hA
  have hB := Nat.le_refl w.heap.size
  have hK : Tr w.heap.size A w A w := Tr.refl hA
  have hH : Hp w.heap.size A w [] := Hp.nil
  refine C_seq ?_
  refine C_region ?_
  refine V_box rfl rfl ?_
  intro b5 w6 h7
  have hk9 := h7.kp
  have h8 : El (α := level_Clock) A w6 b5 0 c := h7.el hA ⟨[.int .i64 c.kind], _, rfl, rfl, ⟨[.int .i64 c.level], _, rfl, rfl, ⟨[.int .i64 c.minutes], _, rfl, rfl, ⟨[.int .i64 c.start], _, rfl, rfl, ⟨[.int .i64 c.stop], _, rfl, rfl, ⟨[.int .i64 c.end_], _, rfl, rfl, ⟨_, rfl, h_c⟩⟩⟩⟩⟩⟩⟩
  have ht10 := Kp.tr hk9 hA hB
  replace hH := Hp.kp hH hk9
  replace h_c := Sl.tr h_c ht10
  replace h_cals := Sl.tr h_cals ht10
  replace hK := Tr.trans hK ht10
  replace hB := Nat.le_trans hB ht10.ex.size
  replace hA := ht10.new
  refine V_y (Y_assign rfl) rfl rfl rfl ?_
  refine V_y (Y_assign rfl) rfl rfl rfl ?_
  refine V_to (fun _ _ => rfl) ?_
  refine C_seq ?_
  refine C_seq ?_
  refine C_region ?_
  obtain ⟨v11, h13, h12⟩ := El_level_Clock h8
  refine V_y (Y_loadA h13 Try.isAgg35 Try.sizeOf35 rfl) rfl rfl rfl ?_
  refine V_buildSlice (l := ([c] : List level_Clock)) (len := 1) Try.underlying56 Try.sizeOf35 Try.zeroValue35 rfl (by with_unfolding_all rfl) (by decide) (by decide) hA ⟨[.int .i64 c.kind, .int .i64 c.level, .int .i64 c.minutes, .int .i64 c.start, .int .i64 c.stop, .int .i64 c.end_, v11], _, rfl, ⟨[.int .i64 c.kind], _, rfl, rfl, ⟨[.int .i64 c.level], _, rfl, rfl, ⟨[.int .i64 c.minutes], _, rfl, rfl, ⟨[.int .i64 c.start], _, rfl, rfl, ⟨[.int .i64 c.stop], _, rfl, rfl, ⟨[.int .i64 c.end_], _, rfl, rfl, ⟨_, rfl, h12⟩⟩⟩⟩⟩⟩⟩, rfl⟩ rfl rfl ?_
  intro v14 w15 hk17 h16
  have ht18 := Kp.tr hk17 hA hB
  replace hH := Hp.kp hH hk17
  replace h_cals := Sl.tr h_cals ht18
  replace h8 := El.tr h8 ht18
  replace h12 := Sl.tr h12 ht18
  replace hK := Tr.trans hK ht18
  replace hB := Nat.le_trans hB ht18.ex.size
  replace hA := ht18.new
  refine V_y (Y_move rfl) rfl rfl rfl ?_
  obtain ⟨x19, hx19, hm⟩ := Option.bind_eq_some_iff.1 hm
  refine V_call Try.call40 rfl rfl rfl rfl (portref2_clocksFault_c w15 hA ([c] : List level_Clock) v14 h16 cals v_cals h_cals hx19) ?_
  rintro _ w20 ⟨rfl, hk21⟩
  have ht22 := Kp.tr hk21 hA hB
  replace hH := Hp.kp hH hk21
  replace h_cals := Sl.tr h_cals ht22
  replace h8 := El.tr h8 ht22
  replace h12 := Sl.tr h12 ht22
  replace h16 := Sl.tr h16 ht22
  replace hK := Tr.trans hK ht22
  replace hB := Nat.le_trans hB ht22.ex.size
  replace hA := ht22.new
  refine V_y (Y_assign rfl) rfl rfl rfl ?_
  refine V_to (fun _ _ => rfl) ?_
  refine C_seq ?_
  refine C_region ?_
  refine V_y (Y_move rfl) rfl rfl rfl ?_
  refine V_y (Y_neq rfl rfl) rfl rfl rfl ?_
  refine V_to (fun _ _ => rfl) ?_
  refine C_cond rfl (fun hc23 => ?_) (fun hc23 => ?_)
  · rw [if_pos hc23] at hm
    refine C_seq ?_
    refine C_region ?_
    refine V_y (Y_move rfl) rfl rfl rfl ?_
    refine V_y (Y_assign rfl) rfl rfl rfl ?_
    refine V_y (Y_assign rfl) rfl rfl rfl ?_
    refine V_to (fun _ _ => rfl) ?_
    obtain rfl := Option.some.inj hm
    refine C_ret ?_
    try simp only [↓inBlock_ret, ↓then_ret]
    exact retQ rfl (Res.two Try.results18 rfl rfl) ⟨rfl, hK.kp⟩
  · rw [if_neg (nt hc23)] at hm
    refine C_skip_to (fun _ _ => rfl) ?_
    refine C_seq ?_
    refine C_seq ?_
    refine C_region ?_
    obtain ⟨v24, h26, h25⟩ := El_level_Clock h8
    refine V_y (Y_loadA h26 Try.isAgg35 Try.sizeOf35 rfl) rfl rfl rfl ?_
    obtain ⟨x27, hx27, hm⟩ := Option.bind_eq_some_iff.1 hm
    refine V_call Try.call45 rfl rfl rfl rfl (portref2_goesOn_c w20 hA c v24 h25 hx27) ?_
    rintro _ w28 ⟨rfl, hk29⟩
    have ht30 := Kp.tr hk29 hA hB
    replace hH := Hp.kp hH hk29
    replace h_cals := Sl.tr h_cals ht30
    replace h8 := El.tr h8 ht30
    replace h25 := Sl.tr h25 ht30
    replace hK := Tr.trans hK ht30
    replace hB := Nat.le_trans hB ht30.ex.size
    replace hA := ht30.new
    refine V_y (Y_not rfl) rfl rfl rfl ?_
    refine V_to (fun _ _ => rfl) ?_
    refine C_cond rfl (fun hc31 => ?_) (fun hc31 => ?_)
    · rw [if_pos hc31] at hm
      refine C_seq ?_
      refine C_region ?_
      refine V_y (Y_assign rfl) rfl rfl rfl ?_
      refine V_y (Y_assign rfl) rfl rfl rfl ?_
      refine V_to (fun _ _ => rfl) ?_
      obtain rfl := Option.some.inj hm
      refine C_ret ?_
      try simp only [↓inBlock_ret, ↓then_ret]
      exact retQ rfl (Res.two Try.results18 rfl rfl) ⟨rfl, hK.kp⟩
    · rw [if_neg (nt hc31)] at hm
      refine C_skip_to (fun _ _ => rfl) ?_
      refine C_seq ?_
      refine C_region_ch A 6 [(1, 0), (1, 2), (2, 1), (4, 3), (1, 4), (1, 5)] Try_mixed (by kernel_rfl) (fun w33 hk34 => ?_)
      have ht35 := Kp.tr hk34 hA hB
      replace hH := Hp.kp hH hk34
      replace h_cals := Sl.tr h_cals ht35
      replace h8 := El.tr h8 ht35
      replace hK := Tr.trans hK ht35
      replace hB := Nat.le_trans hB ht35.ex.size
      replace hA := ht35.new
      refine CH_q2 rfl ?_
      refine VQ_y (fun w' hw' => Y_move rfl) rfl rfl rfl ?_
      refine VQ_CH ?_
      refine CH_q2 rfl ?_
      obtain ⟨v36, h38, h37⟩ := El_level_Clock h8
      refine VQ_y (fun w' hw' => Y_loadA (At.same h38 (hw'.2 _ h8.2.1 h8.1)) Try.isAgg35 Try.sizeOf35 rfl) rfl rfl rfl ?_
      refine VQ_CH ?_
      refine CH_l1 (k := 0) rfl ?_
      obtain ⟨x39, hx39, hm⟩ := Option.bind_eq_some_iff.1 hm
      refine V_call Try.call34 rfl rfl rfl rfl (portref2_newMeter_c w33 (B := w33.heap.size) (Nat.le_refl _) hA cals v_cals h_cals Hp.nil hx39) ?_
      rintro _ w43 ⟨b40, v41, A44, rfl, hH45, ht46⟩
      have hk47 : Kp w33 w43 := ht46.below
      have hH48 := Hp.join hH hB ht46 hH45
      have ht49 := Tr.lower ht46 hB
      replace h_cals := Sl.tr h_cals ht49
      replace h8 := El.tr h8 ht49
      replace h37 := Sl.tr h37 ht49
      replace hK := Tr.trans hK ht49
      replace hB := Nat.le_trans hB ht49.ex.size
      replace hA := ht49.new
      replace hH : Hp w.heap.size A44 w43 (obC b40 [v41] 82 :: obPS (obCk 107 portref2_ShiftsIn) 79 v41 x39.clocks :: []) := hH48
      refine V_CH (hk47) ?_
      refine CH_l1 (k := 2) rfl ?_
      replace hH : Hp w.heap.size A44 w43 (obPS (obCk 107 portref2_ShiftsIn) 79 v41 x39.clocks :: obC b40 [v41] 82 :: []) := Hp.front hH (i := 1) rfl
      replace hH : Hp w.heap.size A44 w43 (obC b40 [v41] 82 :: obPS (obCk 107 portref2_ShiftsIn) 79 v41 x39.clocks :: []) := Hp.front hH (i := 1) rfl
      obtain ⟨x50, hx50, hm⟩ := Option.bind_eq_some_iff.1 hm
      refine V_call Try.call35 rfl rfl rfl rfl (portref2_meter_due_c w43 hB hA x39 b40 v41 c v36 h37 hH hx50) ?_
      rintro _ w51 ⟨A52, rfl, hH53, ht54⟩
      replace h_cals := Sl.tr h_cals ht54
      replace h8 := El.tr h8 ht54
      replace h37 := Sl.tr h37 ht54
      replace hK := Tr.trans hK ht54
      replace hB := Nat.le_trans hB ht54.ex.size
      replace hA := ht54.new
      replace hH : Hp w.heap.size A52 w51 (obC b40 [v41] 82 :: obPS (obCk 107 portref2_ShiftsIn) 79 v41 x39.clocks :: []) := hH53
      refine V_CHw ?_
      refine CH_q2 rfl ?_
      refine VQ_y (fun w' hw' => Y_assign rfl) rfl rfl rfl ?_
      refine VQ_CH ?_
      refine CH_q2 rfl ?_
      refine VQ_y (fun w' hw' => Y_assign rfl) rfl rfl rfl ?_
      refine VQ_CH ?_
      refine CH_tail ?_
      show V _ _ _ _ [] _ _
      refine V_to (fun _ _ => rfl) ?_
      obtain rfl := Option.some.inj hm
      refine C_ret ?_
      try simp only [↓inBlock_ret, ↓then_ret]
      exact retQ rfl (Res.two Try.results18 rfl rfl) ⟨rfl, hK.kp⟩

set_option maxRecDepth 4000 in
set_option maxHeartbeats 4000000 in
theorem portlaw2_ClockDue_c (w : World) {A : Nat → Prop} (hA : ∀ b, w.heap.size ≤ b → A b) (c : level_Clock) (v_c : Value) (h_c : Sl A w v_c c.pieces) (cals : (List cal_Calendar)) (v_cals : Value) (h_cals : Sl A w v_cals cals) {r : Bool} (hm : portlaw2_ClockDue c cals = some r) : Ret Try.prog 6 #[.agg #[.int .i64 c.kind, .int .i64 c.level, .int .i64 c.minutes, .int .i64 c.start, .int .i64 c.stop, .int .i64 c.end_, v_c], v_cals] w fun v w' => v = .bool r ∧ Kp w w' := by
  unfold portlaw2_ClockDue at hm
  refine enter Try.func6 rfl Try.ntmps6 rfl ?_
  have hA0 := hA
  have hB := Nat.le_refl w.heap.size
  have hK : Tr w.heap.size A w A w := Tr.refl hA
  have hH : Hp w.heap.size A w [] := Hp.nil
  refine C_seq ?_
  refine C_region ?_
  refine V_box rfl rfl ?_
  intro b5 w6 h7
  have hk9 := h7.kp
  have h8 : El (α := level_Clock) A w6 b5 0 c := h7.el hA ⟨[.int .i64 c.kind], _, rfl, rfl, ⟨[.int .i64 c.level], _, rfl, rfl, ⟨[.int .i64 c.minutes], _, rfl, rfl, ⟨[.int .i64 c.start], _, rfl, rfl, ⟨[.int .i64 c.stop], _, rfl, rfl, ⟨[.int .i64 c.end_], _, rfl, rfl, ⟨_, rfl, h_c⟩⟩⟩⟩⟩⟩⟩
  have ht10 := Kp.tr hk9 hA hB
  replace hH := Hp.kp hH hk9
  replace h_c := Sl.tr h_c ht10
  replace h_cals := Sl.tr h_cals ht10
  replace hK := Tr.trans hK ht10
  replace hB := Nat.le_trans hB ht10.ex.size
  replace hA := ht10.new
  refine V_y (Y_assign rfl) rfl rfl rfl ?_
  refine V_to (fun _ _ => rfl) ?_
  refine C_seq ?_
  refine C_region ?_
  obtain ⟨v11, h13, h12⟩ := El_level_Clock h8
  refine V_y (Y_loadA h13 Try.isAgg35 Try.sizeOf35 rfl) rfl rfl rfl ?_
  refine V_y (Y_move rfl) rfl rfl rfl ?_
  obtain ⟨x14, hx14, hm⟩ := Option.bind_eq_some_iff.1 hm
  refine V_call Try.call17 rfl rfl rfl rfl (level_Due_c w6 hA c v11 h12 cals v_cals h_cals hx14) ?_
  rintro _ w15 ⟨rfl, hk16⟩
  have ht17 := Kp.tr hk16 hA hB
  replace hH := Hp.kp hH hk16
  replace h_cals := Sl.tr h_cals ht17
  replace h8 := El.tr h8 ht17
  replace h12 := Sl.tr h12 ht17
  replace hK := Tr.trans hK ht17
  replace hB := Nat.le_trans hB ht17.ex.size
  replace hA := ht17.new
  refine V_y (Y_move rfl) rfl rfl rfl ?_
  refine V_y (Y_extract rfl rfl) rfl rfl rfl ?_
  refine V_y (Y_extract rfl rfl) rfl rfl rfl ?_
  refine V_y (Y_assign rfl) rfl rfl rfl ?_
  refine V_y (Y_assign rfl) rfl rfl rfl ?_
  refine V_to (fun _ _ => rfl) ?_
  refine C_seq ?_
  refine C_region ?_
  obtain ⟨v18, h20, h19⟩ := El_level_Clock h8
  refine V_y (Y_loadA h20 Try.isAgg35 Try.sizeOf35 rfl) rfl rfl rfl ?_
  refine V_y (Y_move rfl) rfl rfl rfl ?_
  obtain ⟨x21, hx21, hm⟩ := Option.bind_eq_some_iff.1 hm
  refine V_call Try.call18 rfl rfl rfl rfl (portref2_DueOf_c w15 hA c v18 h19 cals v_cals h_cals hx21) ?_
  rintro _ w22 ⟨rfl, hk23⟩
  have ht24 := Kp.tr hk23 hA hB
  replace hH := Hp.kp hH hk23
  replace h_cals := Sl.tr h_cals ht24
  replace h8 := El.tr h8 ht24
  replace h19 := Sl.tr h19 ht24
  replace hK := Tr.trans hK ht24
  replace hB := Nat.le_trans hB ht24.ex.size
  replace hA := ht24.new
  refine V_y (Y_move rfl) rfl rfl rfl ?_
  refine V_y (Y_extract rfl rfl) rfl rfl rfl ?_
  refine V_y (Y_extract rfl rfl) rfl rfl rfl ?_
  refine V_y (Y_assign rfl) rfl rfl rfl ?_
  refine V_y (Y_assign rfl) rfl rfl rfl ?_
  refine V_to (fun _ _ => rfl) ?_
  refine C_seq ?_
  refine C_region ?_
  refine V_y (Y_move rfl) rfl rfl rfl ?_
  refine V_y (Y_move rfl) rfl rfl rfl ?_
  refine V_y (Y_eql rfl rfl) rfl rfl rfl ?_
  refine V_y (Y_move rfl) rfl rfl rfl ?_
  refine V_cut 4 (fun _ : Unit => [(28, .bool ((x14.1 == x21.1) && (x14.2 == x21.2)))]) (fun _ w' => w22 = w') ?_ ?_
  · simp only [List.take, List.drop]
    rcases Bool.eq_false_or_eq_true (x14.1 == x21.1) with hc25 | hc25
    · refine V_ge rfl rfl rfl hc25 ?_
      refine V_y (Y_move rfl) rfl rfl rfl ?_
      refine V_ge rfl rfl rfl hc25 ?_
      refine V_y (Y_move rfl) rfl rfl rfl ?_
      refine V_ge rfl rfl rfl hc25 ?_
      refine V_y (Y_eql rfl rfl) rfl rfl rfl ?_
      refine V_y (Y_pick_te rfl hc25 rfl) rfl rfl rfl ?_
      exact V_end fun a ha => ⟨(), ha.sub ⟨(by rw [hc25]; rfl), trivial⟩, rfl⟩
    · refine V_gn rfl rfl rfl hc25 rfl rfl rfl ?_
      refine V_gn rfl rfl rfl hc25 rfl rfl rfl ?_
      refine V_gn rfl rfl rfl hc25 rfl rfl rfl ?_
      refine V_y (Y_pick_fe rfl hc25 rfl) rfl rfl rfl ?_
      exact V_end fun a ha => ⟨(), ha.sub ⟨(by rw [hc25]; rfl), trivial⟩, rfl⟩
  simp only [List.take, List.drop]
  rintro _ _ rfl
  refine V_y (Y_assign rfl) rfl rfl rfl ?_
  refine V_to (fun _ _ => rfl) ?_
  obtain rfl := Option.some.inj hm
  refine C_ret ?_
  try simp only [↓inBlock_ret, ↓then_ret]
  exact retQ rfl (Res.one Try.results6 rfl) ⟨rfl, hK.kp⟩

end Go.Proofs.Ytpfoimbklbkcpaa.W
