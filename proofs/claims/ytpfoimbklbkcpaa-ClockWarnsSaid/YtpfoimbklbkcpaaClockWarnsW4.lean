/-
  Written by program (gen.py) from the IR of the dump: each function computes its model.
-/
import Derived.Test.YtpfoimbklbkcpaaClockWarnsW3
namespace Go.Proofs.Ytpfoimbklbkcpaa.W
open Go Go.RowKit Go.Pu Go.Gw Go.Proofs Go.Proofs.Ytpfoimbklbkcpaa.M
set_option linter.unusedVariables false
set_option linter.unusedSimpArgs false

set_option maxRecDepth 4000 in
set_option maxHeartbeats 4000000 in
theorem portref2_Clock_Open_c (w : World) {A : Nat → Prop} {B : Nat} (hB : B ≤ w.heap.size) (hA : ∀ b, w.heap.size ≤ b → A b) (k_ : cal_Calendar) (b_k_ : Nat) (m : Int) {L : List Ob} (hH : Hp B A w (obCk 107 portref2_ShiftsIn b_k_ k_ :: L)) {r : Bool} (hm : portref2_Clock_Open k_ m = some r) : Ret Try.prog 48 #[.pointer (some ⟨b_k_, 0, none⟩), .int .i64 m] w fun v w' => ∃ A1 : Nat → Prop, v = .bool r ∧ Hp B A1 w' (obCk 107 portref2_ShiftsIn b_k_ k_ :: L) ∧ Tr B A w A1 w' := by
  unfold portref2_Clock_Open at hm
  refine enter Try.func48 rfl Try.ntmps48 rfl ?_
  have hK : Tr B A w A w := Tr.refl hA
  refine C_seq ?_
  refine C_region ?_
  refine V_y (Y_assign rfl) rfl rfl rfl ?_
  refine V_to (fun _ _ => rfl) ?_
  refine C_seq ?_
  refine C_region ?_
  refine V_y (Y_move rfl) rfl rfl rfl ?_
  refine V_y (Y_nilCheck rfl) rfl rfl rfl ?_
  have h1 := Hp.ck (tb := 107) (F := portref2_ShiftsIn) (b := b_k_) (c := k_) hH (i := 0) rfl
  refine V_y (Y_fieldAddrC (off2 := 0) Try.underlying107 rfl Try.sizeOf28 (by decide) rfl rfl) rfl rfl rfl ?_
  have h2 := El_cal_Calendar_0 h1
  refine V_y (Y_fieldAddr Try.underlying28 rfl Try.sizeOf24 (by decide) rfl) rfl rfl rfl ?_
  obtain ⟨v3, h5, h4⟩ := El_cal_Zone h2
  refine V_y (Y_loadA h5 Try.isAgg24 Try.sizeOf24 rfl) rfl rfl rfl ?_
  refine V_y (Y_move rfl) rfl rfl rfl ?_
  obtain ⟨x6, hx6, hm⟩ := Option.bind_eq_some_iff.1 hm
  refine V_call Try.call76 rfl rfl rfl rfl (portref2_LocalIn_c w (A := fun _ => True) (fun _ _ => trivial) k_.zone v3 (Sl.any h4) m hx6) ?_
  rintro _ w7 ⟨rfl, hk8⟩
  have ht9 := Kp.tr hk8 hA hB
  replace hH := Hp.kp hH hk8
  replace h1 := El.kp h1 hk8
  replace h2 := El.kp h2 hk8
  replace h4 := Sl.kp h4 hk8
  replace hK := Tr.trans hK ht9
  replace hB := Nat.le_trans hB ht9.ex.size
  replace hA := ht9.new
  refine V_y (Y_move rfl) rfl rfl rfl ?_
  refine V_y (Y_extract rfl rfl) rfl rfl rfl ?_
  refine V_y (Y_extract rfl rfl) rfl rfl rfl ?_
  refine V_y (Y_assign rfl) rfl rfl rfl ?_
  refine V_y (Y_assign rfl) rfl rfl rfl ?_
  refine V_to (fun _ _ => rfl) ?_
  refine C_seq ?_
  refine C_seq ?_
  refine C_region ?_
  refine V_y (Y_move rfl) rfl rfl rfl ?_
  refine V_y (Y_move rfl) rfl rfl rfl ?_
  obtain ⟨x10, hx10, hm⟩ := Option.bind_eq_some_iff.1 hm
  refine V_call Try.call77 rfl rfl rfl rfl (portref2_Clock_shifts_c w7 hB hA k_ b_k_ x6.1 hH hx10) ?_
  rintro v11 w13 ⟨_, A14, rfl, h12, hH15, ht16⟩
  replace hK := Tr.trans hK ht16
  replace hB := Nat.le_trans hB ht16.ex.size
  replace hA := ht16.new
  replace hH : Hp B A14 w13 (obCk 107 portref2_ShiftsIn b_k_ k_ :: L) := hH15
  refine V_y (Y_lenSl h12 rfl Try.underlying25 rfl) rfl rfl rfl ?_
  refine V_y (Y_move rfl) rfl rfl rfl ?_
  refine V_to (fun _ _ => rfl) ?_
  have hn37 := Sl.le h12
  obtain ⟨o17, ho17, hm⟩ := Option.bind_eq_some_iff.1 hm
  refine C_cutG (ι := (Unit × (Nat → Prop))) (fun ⟨s18, A24⟩ => [(0, .pointer (some ⟨b_k_, 0, none⟩)), (5, .int .i64 x6.1), (6, .int .i64 x6.2)]) (fun ⟨s18, A24⟩ => fun w' => o17 = .fin s18 ∧ Hp B A24 w' (obCk 107 portref2_ShiftsIn b_k_ k_ :: L) ∧ Tr B A14 w13 A24 w') ?_ ?_
  · refine C_block ?_
    refine C_range ho17 (fun k20 _ a w' => ∃ i : (Nat → Prop), Has ⟨62, [], none⟩ a ([(0, .pointer (some ⟨b_k_, 0, none⟩)), (5, .int .i64 x6.1), (6, .int .i64 x6.2), (23, v11), (24, .int .i64 (x10.length : Int)), (25, .int .i64 (k20 : Int))]) ∧ Hp B i w' (obCk 107 portref2_ShiftsIn b_k_ k_ :: L) ∧ Tr B A14 w13 i w') (fun a ha => ⟨A14, ha.sub ⟨rfl, rfl, rfl, rfl, rfl, rfl, trivial⟩, ⟨hH, Tr.refl hA⟩⟩) ?_
    rintro K k20 _ a w27 ⟨A28, ha59, hH29, hr19⟩ hle33 K36 h35
    refine C_of ?_ ha59
    replace h12 := Sl.tr h12 hr19
    replace hK := Tr.trans hK hr19
    replace hB := Nat.le_trans hB hr19.ex.size
    replace hA := hr19.new
    replace hH : Hp B A28 w27 (obCk 107 portref2_ShiftsIn b_k_ k_ :: L) := hH29
    refine C_seq (C_region (V_y (Y_lss rfl rfl) rfl rfl rfl (V_to (fun _ _ => rfl) ?_)))
    refine C_seq ?_
    refine C_cond rfl (fun hc38 => ?_) (fun hc38 => ?_)
    · have hlt34 := lt_of_dec hc38
      obtain ⟨x30, h31, h32⟩ := K36 hlt34
      refine C_skip_to (fun _ _ => rfl) ?_
      refine C_seq ?_
      refine C_block ?_
      refine C_seq ?_
      refine C_region ?_
      obtain ⟨x39, hx39, h31⟩ := Option.bind_eq_some_iff.1 h31
      refine V_indexAddr h12 hx39 Try.underlying25 Try.sizeOf110 rfl rfl rfl ?_
      intro b40 o41 h42
      obtain ⟨h43, _⟩ := El_cal_Shift h42
      refine V_y (Y_loadA h43 Try.isAgg110 Try.sizeOf110 rfl) rfl rfl rfl ?_
      refine V_alloc Try.zeroValue110 rfl ?_
      intro b44 w45 h46
      refine V_storeNew h46 Try.sizeOf110 rfl rfl rfl rfl (by exact (List.forall_mem_cons.2 ⟨rfl, (List.forall_mem_cons.2 ⟨rfl, (List.forall_mem_cons.2 ⟨rfl, (fun _ h => nomatch h)⟩)⟩)⟩)) ?_
      intro w47 h48
      have hk50 := h48.kp
      have h49 : El (α := cal_Shift) A28 w47 b44 0 x39 := h48.el hA ⟨[.int .i64 x39.day], _, rfl, rfl, ⟨[.int .i64 x39.from_], _, rfl, rfl, rfl⟩⟩
      have ht51 := Kp.tr hk50 hA hB
      replace hH := Hp.kp hH hk50
      replace h12 := Sl.tr h12 ht51
      replace h42 := El.tr h42 ht51
      replace hK := Tr.trans hK ht51
      replace hr19 := Tr.trans hr19 ht51
      replace hB := Nat.le_trans hB ht51.ex.size
      replace hA := ht51.new
      refine V_to (fun _ _ => rfl) ?_
      refine C_seq ?_
      refine C_region ?_
      have h52 := El_cal_Shift_1 h49
      refine V_y (Y_fieldAddr Try.underlying110 rfl Try.sizeOf3 (by decide) rfl) rfl rfl rfl ?_
      refine V_y (Y_load (El.int h52) Try.isAgg3 rfl) rfl rfl rfl ?_
      refine V_y (Y_move rfl) rfl rfl rfl ?_
      refine V_y (Y_leq rfl rfl) rfl rfl rfl ?_
      refine V_y (Y_move rfl) rfl rfl rfl ?_
      refine V_cut 5 (fun _ : Unit => [(0, .pointer (some ⟨b_k_, 0, none⟩)), (5, .int .i64 x6.1), (6, .int .i64 x6.2), (23, v11), (24, .int .i64 (x10.length : Int)), (25, .int .i64 (k20 : Int)), (38, .bool ((decide (x39.from_ ≤ x6.2)) && (decide (x6.2 < x39.to_))))]) (fun _ w' => w47 = w') ?_ ?_
      · simp only [List.take, List.drop]
        rcases Bool.eq_false_or_eq_true (decide (x39.from_ ≤ x6.2)) with hc53 | hc53
        · refine V_ge rfl rfl rfl hc53 ?_
          refine V_y (Y_move rfl) rfl rfl rfl ?_
          refine V_ge rfl rfl rfl hc53 ?_
          have h55 := El_cal_Shift_2 h49
          refine V_y (Y_fieldAddr Try.underlying110 rfl Try.sizeOf3 (by decide) rfl) rfl rfl rfl ?_
          refine V_ge rfl rfl rfl hc53 ?_
          refine V_y (Y_load (El.int h55) Try.isAgg3 rfl) rfl rfl rfl ?_
          refine V_ge rfl rfl rfl hc53 ?_
          refine V_y (Y_lss rfl rfl) rfl rfl rfl ?_
          refine V_y (Y_pick_te rfl hc53 rfl) rfl rfl rfl ?_
          exact V_end fun a ha => ⟨(), ha.sub ⟨rfl, rfl, rfl, rfl, rfl, rfl, (by rw [hc53]; rfl), trivial⟩, rfl⟩
        · refine V_gn rfl rfl rfl hc53 rfl rfl rfl ?_
          refine V_gn rfl rfl rfl hc53 rfl rfl rfl ?_
          refine V_gn rfl rfl rfl hc53 rfl rfl rfl ?_
          refine V_gn rfl rfl rfl hc53 rfl rfl rfl ?_
          refine V_y (Y_pick_fe rfl hc53 rfl) rfl rfl rfl ?_
          exact V_end fun a ha => ⟨(), ha.sub ⟨rfl, rfl, rfl, rfl, rfl, rfl, (by rw [hc53]; rfl), trivial⟩, rfl⟩
      simp only [List.take, List.drop]
      rintro _ _ rfl
      refine V_to (fun _ _ => rfl) ?_
      refine C_cond rfl (fun hc56 => ?_) (fun hc56 => ?_)
      · rw [if_pos hc56] at h31
        refine C_seq ?_
        refine C_region ?_
        refine V_y (Y_assign rfl) rfl rfl rfl ?_
        refine V_to (fun _ _ => rfl) ?_
        obtain rfl := Option.some.inj h31
        obtain rfl := (h32 : Lp.rt _ = _)
        rw [Lp.andThen_rt] at hm
        obtain rfl := Option.some.inj hm
        refine C_ret ?_
        try simp only [↓inBlock_ret, ↓then_ret]
        exact retQ rfl (Res.one Try.results48 rfl) ⟨A28, rfl, hH, hK⟩
      · rw [if_neg (nt hc56)] at h31
        refine C_skip_to (fun _ _ => rfl) ?_
        refine C_region ?_
        refine V_y (Y_addI rfl rfl) rfl rfl rfl ?_
        refine V_y (Y_move rfl) rfl rfl rfl ?_
        obtain rfl := Option.some.inj h31
        refine V_end (fun a ha57 => ?_)
        exact ⟨(), hlt34, h32, ⟨A28, ha57.sub ⟨rfl, rfl, rfl, rfl, rfl, (congrArg (fun z => some (Value.int .i64 z)) (w64_succ hlt34 hn37)), trivial⟩, ⟨hH, hr19⟩⟩⟩
    · refine C_exit (fun a ha58 => ?_)
      exact ⟨((), A28), ha58.sub ⟨rfl, rfl, rfl, trivial⟩, ⟨(h35 (eq_of_dec hle33 hc38)).symm, hH, hr19⟩⟩
  rintro ⟨s18, A24⟩ w21 ⟨rfl, hH25, hk22⟩ a ha23
  rw [Lp.andThen_fin] at hm
  replace hK := Tr.trans hK hk22
  replace hB := Nat.le_trans hB hk22.ex.size
  replace hA := hk22.new
  replace hH : Hp B A24 w21 (obCk 107 portref2_ShiftsIn b_k_ k_ :: L) := hH25
  refine C_at (n := ⟨62, [], none⟩) (fun _ _ => rfl) ?_ ha23
  refine C_seq ?_
  refine C_seq ?_
  refine C_region ?_
  refine V_y (Y_move rfl) rfl rfl rfl ?_
  refine V_y (Y_move rfl) rfl rfl rfl ?_
  refine V_y (Y_subI rfl rfl) rfl rfl rfl ?_
  obtain ⟨x60, hx60, hm⟩ := Option.bind_eq_some_iff.1 hm
  refine V_call Try.call77 rfl rfl rfl rfl (portref2_Clock_shifts_c w21 hB hA k_ b_k_ (w64 (x6.1 - 1)) hH hx60) ?_
  rintro v61 w63 ⟨_, A64, rfl, h62, hH65, ht66⟩
  replace hK := Tr.trans hK ht66
  replace hB := Nat.le_trans hB ht66.ex.size
  replace hA := ht66.new
  replace hH : Hp B A64 w63 (obCk 107 portref2_ShiftsIn b_k_ k_ :: L) := hH65
  refine V_y (Y_lenSl h62 rfl Try.underlying25 rfl) rfl rfl rfl ?_
  refine V_y (Y_move rfl) rfl rfl rfl ?_
  refine V_to (fun _ _ => rfl) ?_
  have hn87 := Sl.le h62
  obtain ⟨o67, ho67, hm⟩ := Option.bind_eq_some_iff.1 hm
  refine C_cutG (ι := (Unit × (Nat → Prop))) (fun ⟨s68, A74⟩ => []) (fun ⟨s68, A74⟩ => fun w' => o67 = .fin s68 ∧ Hp B A74 w' (obCk 107 portref2_ShiftsIn b_k_ k_ :: L) ∧ Tr B A64 w63 A74 w') ?_ ?_
  · refine C_block ?_
    refine C_range ho67 (fun k70 _ a w' => ∃ i : (Nat → Prop), Has ⟨62, [], none⟩ a ([(6, .int .i64 x6.2), (43, v61), (44, .int .i64 (x60.length : Int)), (45, .int .i64 (k70 : Int))]) ∧ Hp B i w' (obCk 107 portref2_ShiftsIn b_k_ k_ :: L) ∧ Tr B A64 w63 i w') (fun a ha => ⟨A64, ha.sub ⟨rfl, rfl, rfl, rfl, trivial⟩, ⟨hH, Tr.refl hA⟩⟩) ?_
    rintro K k70 _ a w77 ⟨A78, ha109, hH79, hr69⟩ hle83 K86 h85
    refine C_of ?_ ha109
    replace h62 := Sl.tr h62 hr69
    replace hK := Tr.trans hK hr69
    replace hB := Nat.le_trans hB hr69.ex.size
    replace hA := hr69.new
    replace hH : Hp B A78 w77 (obCk 107 portref2_ShiftsIn b_k_ k_ :: L) := hH79
    refine C_seq (C_region (V_y (Y_lss rfl rfl) rfl rfl rfl (V_to (fun _ _ => rfl) ?_)))
    refine C_seq ?_
    refine C_cond rfl (fun hc88 => ?_) (fun hc88 => ?_)
    · have hlt84 := lt_of_dec hc88
      obtain ⟨x80, h81, h82⟩ := K86 hlt84
      refine C_skip_to (fun _ _ => rfl) ?_
      refine C_seq ?_
      refine C_block ?_
      refine C_seq ?_
      refine C_region ?_
      obtain ⟨x89, hx89, h81⟩ := Option.bind_eq_some_iff.1 h81
      refine V_indexAddr h62 hx89 Try.underlying25 Try.sizeOf110 rfl rfl rfl ?_
      intro b90 o91 h92
      obtain ⟨h93, _⟩ := El_cal_Shift h92
      refine V_y (Y_loadA h93 Try.isAgg110 Try.sizeOf110 rfl) rfl rfl rfl ?_
      refine V_alloc Try.zeroValue110 rfl ?_
      intro b94 w95 h96
      refine V_storeNew h96 Try.sizeOf110 rfl rfl rfl rfl (by exact (List.forall_mem_cons.2 ⟨rfl, (List.forall_mem_cons.2 ⟨rfl, (List.forall_mem_cons.2 ⟨rfl, (fun _ h => nomatch h)⟩)⟩)⟩)) ?_
      intro w97 h98
      have hk100 := h98.kp
      have h99 : El (α := cal_Shift) A78 w97 b94 0 x89 := h98.el hA ⟨[.int .i64 x89.day], _, rfl, rfl, ⟨[.int .i64 x89.from_], _, rfl, rfl, rfl⟩⟩
      have ht101 := Kp.tr hk100 hA hB
      replace hH := Hp.kp hH hk100
      replace h62 := Sl.tr h62 ht101
      replace h92 := El.tr h92 ht101
      replace hK := Tr.trans hK ht101
      replace hr69 := Tr.trans hr69 ht101
      replace hB := Nat.le_trans hB ht101.ex.size
      replace hA := ht101.new
      refine V_to (fun _ _ => rfl) ?_
      refine C_seq ?_
      refine C_region ?_
      have h102 := El_cal_Shift_1 h99
      refine V_y (Y_fieldAddr Try.underlying110 rfl Try.sizeOf3 (by decide) rfl) rfl rfl rfl ?_
      refine V_y (Y_load (El.int h102) Try.isAgg3 rfl) rfl rfl rfl ?_
      refine V_y (Y_move rfl) rfl rfl rfl ?_
      refine V_y (Y_addI rfl rfl) rfl rfl rfl ?_
      refine V_y (Y_leq rfl rfl) rfl rfl rfl ?_
      refine V_y (Y_move rfl) rfl rfl rfl ?_
      refine V_cut 6 (fun _ : Unit => [(6, .int .i64 x6.2), (43, v61), (44, .int .i64 (x60.length : Int)), (45, .int .i64 (k70 : Int)), (60, .bool ((decide (x89.from_ ≤ (w64 (x6.2 + 1440)))) && (decide ((w64 (x6.2 + 1440)) < x89.to_))))]) (fun _ w' => w97 = w') ?_ ?_
      · simp only [List.take, List.drop]
        rcases Bool.eq_false_or_eq_true (decide (x89.from_ ≤ (w64 (x6.2 + 1440)))) with hc103 | hc103
        · refine V_ge rfl rfl rfl hc103 ?_
          refine V_y (Y_move rfl) rfl rfl rfl ?_
          refine V_ge rfl rfl rfl hc103 ?_
          refine V_y (Y_addI rfl rfl) rfl rfl rfl ?_
          refine V_ge rfl rfl rfl hc103 ?_
          have h105 := El_cal_Shift_2 h99
          refine V_y (Y_fieldAddr Try.underlying110 rfl Try.sizeOf3 (by decide) rfl) rfl rfl rfl ?_
          refine V_ge rfl rfl rfl hc103 ?_
          refine V_y (Y_load (El.int h105) Try.isAgg3 rfl) rfl rfl rfl ?_
          refine V_ge rfl rfl rfl hc103 ?_
          refine V_y (Y_lss rfl rfl) rfl rfl rfl ?_
          refine V_y (Y_pick_te rfl hc103 rfl) rfl rfl rfl ?_
          exact V_end fun a ha => ⟨(), ha.sub ⟨rfl, rfl, rfl, rfl, (by rw [hc103]; rfl), trivial⟩, rfl⟩
        · refine V_gn rfl rfl rfl hc103 rfl rfl rfl ?_
          refine V_gn rfl rfl rfl hc103 rfl rfl rfl ?_
          refine V_gn rfl rfl rfl hc103 rfl rfl rfl ?_
          refine V_gn rfl rfl rfl hc103 rfl rfl rfl ?_
          refine V_gn rfl rfl rfl hc103 rfl rfl rfl ?_
          refine V_y (Y_pick_fe rfl hc103 rfl) rfl rfl rfl ?_
          exact V_end fun a ha => ⟨(), ha.sub ⟨rfl, rfl, rfl, rfl, (by rw [hc103]; rfl), trivial⟩, rfl⟩
      simp only [List.take, List.drop]
      rintro _ _ rfl
      refine V_to (fun _ _ => rfl) ?_
      refine C_cond rfl (fun hc106 => ?_) (fun hc106 => ?_)
      · rw [if_pos hc106] at h81
        refine C_seq ?_
        refine C_region ?_
        refine V_y (Y_assign rfl) rfl rfl rfl ?_
        refine V_to (fun _ _ => rfl) ?_
        obtain rfl := Option.some.inj h81
        obtain rfl := (h82 : Lp.rt _ = _)
        rw [Lp.andThen_rt] at hm
        obtain rfl := Option.some.inj hm
        refine C_ret ?_
        try simp only [↓inBlock_ret, ↓then_ret]
        exact retQ rfl (Res.one Try.results48 rfl) ⟨A78, rfl, hH, hK⟩
      · rw [if_neg (nt hc106)] at h81
        refine C_skip_to (fun _ _ => rfl) ?_
        refine C_region ?_
        refine V_y (Y_addI rfl rfl) rfl rfl rfl ?_
        refine V_y (Y_move rfl) rfl rfl rfl ?_
        obtain rfl := Option.some.inj h81
        refine V_end (fun a ha107 => ?_)
        exact ⟨(), hlt84, h82, ⟨A78, ha107.sub ⟨rfl, rfl, rfl, (congrArg (fun z => some (Value.int .i64 z)) (w64_succ hlt84 hn87)), trivial⟩, ⟨hH, hr69⟩⟩⟩
    · refine C_exit (fun a ha108 => ?_)
      exact ⟨((), A78), ha108.sub trivial, ⟨(h85 (eq_of_dec hle83 hc88)).symm, hH, hr69⟩⟩
  rintro ⟨s68, A74⟩ w71 ⟨rfl, hH75, hk72⟩ a ha73
  rw [Lp.andThen_fin] at hm
  replace hK := Tr.trans hK hk72
  replace hB := Nat.le_trans hB hk72.ex.size
  replace hA := hk72.new
  replace hH : Hp B A74 w71 (obCk 107 portref2_ShiftsIn b_k_ k_ :: L) := hH75
  refine C_at (n := ⟨62, [], none⟩) (fun _ _ => rfl) ?_ ha73
  refine C_seq ?_
  refine C_region ?_
  refine V_y (Y_assign rfl) rfl rfl rfl ?_
  refine V_to (fun _ _ => rfl) ?_
  obtain rfl := Option.some.inj hm
  refine C_ret ?_
  try simp only [↓inBlock_ret, ↓then_ret]
  exact retQ rfl (Res.one Try.results48 rfl) ⟨A74, rfl, hH, hK⟩

set_option maxRecDepth 4000 in
set_option maxHeartbeats 4000000 in
theorem portref2_meter_first_c (w : World) {A : Nat → Prop} {B : Nat} (hB : B ≤ w.heap.size) (hA : ∀ b, w.heap.size ≤ b → A b) (x : portref2_meter) (b_x : Nat) (v_x : Value) (c : level_Clock) (v_c : Value) (h_c : Sl A w v_c c.pieces) (amount : Int) {L : List Ob} (hH : Hp B A w (obC b_x [v_x] 82 :: obPS (obCk 107 portref2_ShiftsIn) 79 v_x x.clocks :: L)) {r : Int} (hm : portref2_meter_first x c amount = some r) : Ret Try.prog 50 #[.pointer (some ⟨b_x, 0, none⟩), .agg #[.int .i64 c.kind, .int .i64 c.level, .int .i64 c.minutes, .int .i64 c.start, .int .i64 c.stop, .int .i64 c.end_, v_c], .int .i64 amount] w fun v w' => ∃ A1 : Nat → Prop, v = .int .i64 r ∧ Hp B A1 w' (obC b_x [v_x] 82 :: obPS (obCk 107 portref2_ShiftsIn) 79 v_x x.clocks :: L) ∧ Tr B A w A1 w' := by
  unfold portref2_meter_first at hm
  refine enter Try.func50 rfl Try.ntmps50 rfl ?_
  have hK : Tr B A w A w := Tr.refl hA
  refine C_seq ?_
  refine C_region ?_
  refine V_box rfl rfl ?_
  intro b5 w6 h7
  have hk9 := h7.kp
  have h8 : El (α := level_Clock) A w6 b5 0 c := h7.el hA ⟨[.int .i64 c.kind], _, rfl, rfl, ⟨[.int .i64 c.level], _, rfl, rfl, ⟨[.int .i64 c.minutes], _, rfl, rfl, ⟨[.int .i64 c.start], _, rfl, rfl, ⟨[.int .i64 c.stop], _, rfl, rfl, ⟨[.int .i64 c.end_], _, rfl, rfl, ⟨_, rfl, h_c⟩⟩⟩⟩⟩⟩⟩
  have ht10 := Kp.tr hk9 hA hB
  replace hH := Hp.kp hH hk9
  replace h_c := Sl.tr h_c ht10
  replace hK := Tr.trans hK ht10
  replace hB := Nat.le_trans hB ht10.ex.size
  replace hA := ht10.new
  refine V_y (Y_assign rfl) rfl rfl rfl ?_
  refine V_to (fun _ _ => rfl) ?_
  refine C_seq ?_
  refine C_region_q Try_mixed (by kernel_rfl) ?_
  have h11 := El_level_Clock_3 h8
  refine VQ_y (fun w' hw' => Y_fieldAddr Try.underlying35 rfl Try.sizeOf3 (by decide) rfl) rfl rfl rfl ?_
  refine VQ_y (fun w' hw' => Y_load (El.int (El.kp h11 hw')) Try.isAgg3 rfl) rfl rfl rfl ?_
  refine VQ_y (fun w' hw' => Y_assign rfl) rfl rfl rfl ?_
  refine VQ_y (fun w' hw' => Y_assign rfl) rfl rfl rfl ?_
  refine VQ_to (fun _ _ => rfl) (fun w12 hk13 => ?_)
  have ht14 := Kp.tr hk13 hA hB
  replace hH := Hp.kp hH hk13
  replace h8 := El.tr h8 ht14
  replace hK := Tr.trans hK ht14
  replace hB := Nat.le_trans hB ht14.ex.size
  replace hA := ht14.new
  refine C_seq ?_
  obtain ⟨o15, ho15, hm⟩ := Option.bind_eq_some_iff.1 hm
  refine C_cutG (ι := ((Int × Int) × (Nat → Prop))) (fun ⟨s16, A22⟩ => [(8, .int .i64 s16.2)]) (fun ⟨s16, A22⟩ => fun w' => o15 = .fin s16 ∧ Hp B A22 w' (obC b_x [v_x] 82 :: obPS (obCk 107 portref2_ShiftsIn) 79 v_x x.clocks :: L) ∧ Tr B A w12 A22 w') ?_ ?_
  · refine C_block ?_
    refine C_while ho15 (fun s24 a w' => ∃ i : (Nat → Prop), Has ⟨59, [], none⟩ a ([(0, .pointer (some ⟨b_x, 0, none⟩)), (2, .int .i64 amount), (4, .pointer (some ⟨b5, 0, none⟩)), (7, .int .i64 s24.1), (8, .int .i64 s24.2)]) ∧ Hp B i w' (obC b_x [v_x] 82 :: obPS (obCk 107 portref2_ShiftsIn) 79 v_x x.clocks :: L) ∧ Tr B A w12 i w') (fun a ha => ⟨A, ha.sub ⟨rfl, rfl, rfl, rfl, rfl, trivial⟩, ⟨hH, Tr.refl hA⟩⟩) ?_
    rintro K s24 a w25 ⟨A26, ha184, hH27, hr17⟩ K34
    refine C_of ?_ ha184
    replace h8 := El.tr h8 hr17
    replace hK := Tr.trans hK hr17
    replace hB := Nat.le_trans hB hr17.ex.size
    replace hA := hr17.new
    replace hH : Hp B A26 w25 (obC b_x [v_x] 82 :: obPS (obCk 107 portref2_ShiftsIn) 79 v_x x.clocks :: L) := hH27
    obtain ⟨x28, h29, h30⟩ := K34
    refine C_seq ?_
    refine C_seq ?_
    refine C_region ?_
    refine V_y (Y_move rfl) rfl rfl rfl ?_
    refine V_y (Y_leq rfl rfl) rfl rfl rfl ?_
    refine V_to (fun _ _ => rfl) ?_
    refine C_cond rfl (fun hc35 => ?_) (fun hc35 => ?_)
    · rw [if_pos hc35] at h29
      refine C_skip_to (fun _ _ => rfl) ?_
      refine C_seq ?_
      obtain ⟨o36, ho36, h29⟩ := Option.bind_eq_some_iff.1 h29
      refine C_cutG (ι := (Int × (Nat → Prop))) (fun ⟨s37, A42⟩ => [(0, .pointer (some ⟨b_x, 0, none⟩)), (2, .int .i64 amount), (4, .pointer (some ⟨b5, 0, none⟩)), (7, .int .i64 s37), (8, .int .i64 s24.2)]) (fun ⟨s37, A42⟩ => fun w' => o36 = .fin s37 ∧ Hp B A42 w' (obC b_x [v_x] 82 :: obPS (obCk 107 portref2_ShiftsIn) 79 v_x x.clocks :: L) ∧ Tr B A26 w25 A42 w') ?_ ?_
      · have hr38 : Tr B A26 w25 A26 w25 := Tr.refl hA
        refine C_block ?_
        refine C_seq ?_
        refine C_seq ?_
        refine C_region ?_
        refine V_y (Y_move rfl) rfl rfl rfl ?_
        refine V_y (Y_move rfl) rfl rfl rfl ?_
        refine V_y (Y_geq rfl rfl) rfl rfl rfl ?_
        refine V_to (fun _ _ => rfl) ?_
        refine C_cond rfl (fun hc44 => ?_) (fun hc44 => ?_)
        · rw [if_pos hc44] at ho36
          refine C_seq ?_
          refine C_region ?_
          refine V_y (Y_move rfl) rfl rfl rfl ?_
          refine V_y (Y_assign rfl) rfl rfl rfl ?_
          refine V_to (fun _ _ => rfl) ?_
          obtain rfl := Option.some.inj ho36
          rw [Lp.andThen_rt] at h29
          obtain rfl := Option.some.inj h29
          obtain rfl := (h30 : Lp.rt _ = _)
          rw [Lp.andThen_rt] at hm
          obtain rfl := Option.some.inj hm
          refine C_ret ?_
          try simp only [↓inBlock_ret, ↓then_ret]
          exact retQ rfl (Res.one Try.results50 rfl) ⟨A26, rfl, hH, hK⟩
        · rw [if_neg (nt hc44)] at ho36
          refine C_skip_to (fun _ _ => rfl) ?_
          refine C_seq ?_
          refine C_region ?_
          have h45 := El_level_Clock_6 h8
          refine V_y (Y_fieldAddr Try.underlying35 rfl Try.sizeOf33 (by decide) rfl) rfl rfl rfl ?_
          obtain ⟨v46, h47, h48⟩ := El.list h45
          refine V_y (Y_load h47 Try.isAgg33 rfl) rfl rfl rfl ?_
          refine V_y (Y_lenSl h48 rfl Try.underlying33 rfl) rfl rfl rfl ?_
          refine V_y (Y_move rfl) rfl rfl rfl ?_
          refine V_to (fun _ _ => rfl) ?_
          have hn69 := Sl.le h48
          obtain ⟨o49, ho49, ho36⟩ := Option.bind_eq_some_iff.1 ho36
          refine C_cutG (ι := (Int × (Nat → Prop))) (fun ⟨s50, A56⟩ => [(0, .pointer (some ⟨b_x, 0, none⟩)), (2, .int .i64 amount), (4, .pointer (some ⟨b5, 0, none⟩)), (7, .int .i64 s50), (8, .int .i64 s24.2)]) (fun ⟨s50, A56⟩ => fun w' => o49 = .fin s50 ∧ Hp B A56 w' (obC b_x [v_x] 82 :: obPS (obCk 107 portref2_ShiftsIn) 79 v_x x.clocks :: L) ∧ Tr B A26 w25 A56 w') ?_ ?_
          · refine C_block ?_
            refine C_range ho49 (fun k52 s58 a w' => ∃ i : (Nat → Prop), Has ⟨59, [], none⟩ a ([(0, .pointer (some ⟨b_x, 0, none⟩)), (2, .int .i64 amount), (4, .pointer (some ⟨b5, 0, none⟩)), (7, .int .i64 s58), (8, .int .i64 s24.2), (22, v46), (23, .int .i64 (c.pieces.length : Int)), (24, .int .i64 (k52 : Int))]) ∧ Hp B i w' (obC b_x [v_x] 82 :: obPS (obCk 107 portref2_ShiftsIn) 79 v_x x.clocks :: L) ∧ Tr B A26 w25 i w') (fun a ha => ⟨A26, ha.sub ⟨rfl, rfl, rfl, rfl, rfl, rfl, rfl, rfl, trivial⟩, ⟨hH, Tr.refl hA⟩⟩) ?_
            rintro K k52 s58 a w59 ⟨A60, ha180, hH61, hr51⟩ hle65 K68 h67
            refine C_of ?_ ha180
            replace h8 := El.tr h8 hr51
            replace h48 := Sl.tr h48 hr51
            replace hK := Tr.trans hK hr51
            replace hr17 := Tr.trans hr17 hr51
            replace hr38 := Tr.trans hr38 hr51
            replace hB := Nat.le_trans hB hr51.ex.size
            replace hA := hr51.new
            replace hH : Hp B A60 w59 (obC b_x [v_x] 82 :: obPS (obCk 107 portref2_ShiftsIn) 79 v_x x.clocks :: L) := hH61
            refine C_seq (C_region (V_y (Y_lss rfl rfl) rfl rfl rfl (V_to (fun _ _ => rfl) ?_)))
            refine C_seq ?_
            refine C_cond rfl (fun hc70 => ?_) (fun hc70 => ?_)
            · have hlt66 := lt_of_dec hc70
              obtain ⟨x62, h63, h64⟩ := K68 hlt66
              refine C_skip_to (fun _ _ => rfl) ?_
              refine C_seq ?_
              obtain ⟨s72, ho71, h63⟩ := Option.bind_eq_some_iff.1 h63
              refine C_cutG (ι := (Nat → Prop)) (fun (A77 : (Nat → Prop)) => [(0, .pointer (some ⟨b_x, 0, none⟩)), (2, .int .i64 amount), (4, .pointer (some ⟨b5, 0, none⟩)), (7, .int .i64 s72), (8, .int .i64 s24.2), (22, v46), (23, .int .i64 (c.pieces.length : Int)), (24, .int .i64 (k52 : Int))]) (fun (A77 : (Nat → Prop)) => fun w' => Hp B A77 w' (obC b_x [v_x] 82 :: obPS (obCk 107 portref2_ShiftsIn) 79 v_x x.clocks :: L) ∧ Tr B A60 w59 A77 w') ?_ ?_
              · have hr73 : Tr B A60 w59 A60 w59 := Tr.refl hA
                refine C_block ?_
                refine C_seq ?_
                refine C_region ?_
                obtain ⟨x79, hx79, ho71⟩ := Option.bind_eq_some_iff.1 ho71
                refine V_indexAddr h48 hx79 Try.underlying33 Try.sizeOf64 rfl rfl rfl ?_
                intro b80 o81 h82
                obtain ⟨h83, _⟩ := El_level_Piece h82
                refine V_y (Y_loadA h83 Try.isAgg64 Try.sizeOf64 rfl) rfl rfl rfl ?_
                refine V_alloc Try.zeroValue64 rfl ?_
                intro b84 w85 h86
                refine V_storeNew h86 Try.sizeOf64 rfl rfl rfl rfl (by exact (List.forall_mem_cons.2 ⟨rfl, (List.forall_mem_cons.2 ⟨rfl, (List.forall_mem_cons.2 ⟨rfl, (fun _ h => nomatch h)⟩)⟩)⟩)) ?_
                intro w87 h88
                have hk90 := h88.kp
                have h89 : El (α := level_Piece) A60 w87 b84 0 x79 := h88.el hA ⟨[.int .i64 x79.from_], _, rfl, rfl, ⟨[.int .i64 x79.to_], _, rfl, rfl, rfl⟩⟩
                have ht91 := Kp.tr hk90 hA hB
                replace hH := Hp.kp hH hk90
                replace h8 := El.tr h8 ht91
                replace h48 := Sl.tr h48 ht91
                replace h82 := El.tr h82 ht91
                replace hK := Tr.trans hK ht91
                replace hr17 := Tr.trans hr17 ht91
                replace hr38 := Tr.trans hr38 ht91
                replace hr51 := Tr.trans hr51 ht91
                replace hr73 := Tr.trans hr73 ht91
                replace hB := Nat.le_trans hB ht91.ex.size
                replace hA := ht91.new
                refine V_to (fun _ _ => rfl) ?_
                refine C_seq ?_
                obtain ⟨s93, ho92, ho71⟩ := Option.bind_eq_some_iff.1 ho71
                refine C_cutG (ι := (Nat → Prop)) (fun (A98 : (Nat → Prop)) => [(0, .pointer (some ⟨b_x, 0, none⟩)), (2, .int .i64 amount), (4, .pointer (some ⟨b5, 0, none⟩)), (7, .int .i64 s58), (8, .int .i64 s24.2), (22, v46), (23, .int .i64 (c.pieces.length : Int)), (24, .int .i64 (k52 : Int)), (54, .bool s93)]) (fun (A98 : (Nat → Prop)) => fun w' => Hp B A98 w' (obC b_x [v_x] 82 :: obPS (obCk 107 portref2_ShiftsIn) 79 v_x x.clocks :: L) ∧ Tr B A60 w87 A98 w') ?_ ?_
                · have hr94 : Tr B A60 w87 A60 w87 := Tr.refl hA
                  refine C_region_qt 25 Try_mixed (by kernel_rfl) ?_
                  simp only [List.take, List.drop]
                  have h100 := El_level_Piece_0 h89
                  refine VQ_y (fun w' hw' => Y_fieldAddr Try.underlying64 rfl Try.sizeOf3 (by decide) rfl) rfl rfl rfl ?_
                  refine VQ_y (fun w' hw' => Y_load (El.int (El.kp h100 hw')) Try.isAgg3 rfl) rfl rfl rfl ?_
                  refine VQ_y (fun w' hw' => Y_move rfl) rfl rfl rfl ?_
                  refine VQ_y (fun w' hw' => Y_leq rfl rfl) rfl rfl rfl ?_
                  refine VQ_y (fun w' hw' => Y_move rfl) rfl rfl rfl ?_
                  rcases Bool.eq_false_or_eq_true (decide (x79.from_ ≤ s24.2)) with hc101 | hc101
                  · rw [if_pos hc101] at ho92
                    refine VQ_ge rfl rfl rfl hc101 ?_
                    have h102 := El_level_Piece_1 h89
                    refine VQ_y (fun w' hw' => Y_fieldAddr Try.underlying64 rfl Try.sizeOf3 (by decide) rfl) rfl rfl rfl ?_
                    refine VQ_ge rfl rfl rfl hc101 ?_
                    refine VQ_y (fun w' hw' => Y_load (El.int (El.kp h102 hw')) Try.isAgg3 rfl) rfl rfl rfl ?_
                    refine VQ_ge rfl rfl rfl hc101 ?_
                    refine VQ_y (fun w' hw' => Y_lss rfl rfl) rfl rfl rfl ?_
                    refine VQ_ge rfl rfl rfl hc101 ?_
                    refine VQ_y (fun w' hw' => Y_move rfl) rfl rfl rfl ?_
                    rcases Bool.eq_false_or_eq_true (decide (x79.to_ < 0)) with hc103 | hc103
                    · rw [if_pos hc103] at ho92
                      refine VQ_gn rfl rfl rfl hc103 rfl rfl rfl ?_
                      refine VQ_gn rfl rfl rfl hc103 rfl rfl rfl ?_
                      refine VQ_gn rfl rfl rfl hc103 rfl rfl rfl ?_
                      refine VQ_gn rfl rfl rfl hc103 rfl rfl rfl ?_
                      refine VQ_ge rfl rfl rfl hc101 ?_
                      refine VQ_y (fun _ _ => Y_pick_te rfl hc103 rfl) rfl rfl rfl ?_
                      refine VQ_y (fun _ _ => Y_pick_te rfl hc101 rfl) rfl rfl rfl ?_
                      refine VQ_y (fun w' hw' => Y_move rfl) rfl rfl rfl ?_
                      rcases Bool.eq_false_or_eq_true (true) with hc104 | hc104
                      · rw [if_pos hc104] at ho92
                        refine VQ_ge rfl rfl rfl hc104 ?_
                        refine VQ_y (fun w' hw' => Y_move rfl) rfl rfl rfl ?_
                        refine VQ_ge rfl rfl rfl hc104 ?_
                        refine VQ_y (fun w' hw' => Y_nilCheck rfl) rfl rfl rfl ?_
                        refine VQ_ge rfl rfl rfl hc104 ?_
                        refine VQ_y (fun w' hw' => Y_fieldAddrC (off2 := 0) Try.underlying82 rfl Try.sizeOf80 (by decide) rfl rfl) rfl rfl rfl ?_
                        refine VQ_ge rfl rfl rfl hc104 ?_
                        refine VQ_y (fun w' hw' => Y_load ((World.cell?_of_block (hw'.block _ (World.block_lt_of_cell? _ _ (Hp.cell (j := 0) hH (i := 0) rfl rfl)))).trans (Hp.cell (j := 0) hH (i := 0) rfl rfl)) Try.isAgg80 rfl) rfl rfl rfl ?_
                        refine VQ_ge rfl rfl rfl hc104 ?_
                        have h105 := El_level_Piece_2 h89
                        refine VQ_y (fun w' hw' => Y_fieldAddr Try.underlying64 rfl Try.sizeOf3 (by decide) rfl) rfl rfl rfl ?_
                        refine VQ_ge rfl rfl rfl hc104 ?_
                        refine VQ_y (fun w' hw' => Y_load (El.int (El.kp h105 hw')) Try.isAgg3 rfl) rfl rfl rfl ?_
                        refine VQ_ge rfl rfl rfl hc104 ?_
                        obtain ⟨x106, hx106, ho92⟩ := Option.bind_eq_some_iff.1 ho92
                        refine VQ_indexAddrPS (f := obCk 107 portref2_ShiftsIn) (e := 79) (v := v_x) (cs := x.clocks) hH (i := 1) rfl hx106 Try.underlying80 Try.sizeOf79 rfl rfl rfl ?_
                        intro b107 o108 b110 hk111 h109 hH
                        replace hH : Hp B A60 w87 (obCk 107 portref2_ShiftsIn b110 x106 :: obC b_x [v_x] 82 :: obPX (obCk 107 portref2_ShiftsIn) 79 v_x x.clocks (Int.toNat x79.calendar) b110 :: L) := hH
                        refine VQ_ge rfl rfl rfl hc104 ?_
                        refine VQ_y (fun w' hw' => Y_load ((World.cell?_of_block (hw'.block _ (World.block_lt_of_cell? _ _ (h109)))).trans (h109)) Try.isAgg79 rfl) rfl rfl rfl ?_
                        refine VQ_ge rfl rfl rfl hc104 ?_
                        refine VQ_y (fun w' hw' => Y_move rfl) rfl rfl rfl ?_
                        refine VQ_tail (fun w112 hk113 => ?_)
                        try simp only [List.take, List.drop]
                        have ht114 := Kp.tr hk113 hA hB
                        replace hH := Hp.kp hH hk113
                        replace h8 := El.tr h8 ht114
                        replace h48 := Sl.tr h48 ht114
                        replace h89 := El.tr h89 ht114
                        replace h100 := El.tr h100 ht114
                        replace h102 := El.tr h102 ht114
                        replace h105 := El.tr h105 ht114
                        replace hK := Tr.trans hK ht114
                        replace hr17 := Tr.trans hr17 ht114
                        replace hr38 := Tr.trans hr38 ht114
                        replace hr51 := Tr.trans hr51 ht114
                        replace hr73 := Tr.trans hr73 ht114
                        replace hr94 := Tr.trans hr94 ht114
                        replace hB := Nat.le_trans hB ht114.ex.size
                        replace hA := ht114.new
                        refine V_ge rfl rfl rfl hc104 ?_
                        obtain ⟨x115, hx115, ho92⟩ := Option.bind_eq_some_iff.1 ho92
                        refine V_call Try.call48 rfl rfl rfl rfl (portref2_Clock_Open_c w112 hB hA x106 b110 s24.2 hH hx115) ?_
                        rintro _ w116 ⟨A117, rfl, hH118, ht119⟩
                        replace h8 := El.tr h8 ht119
                        replace h48 := Sl.tr h48 ht119
                        replace h89 := El.tr h89 ht119
                        replace h100 := El.tr h100 ht119
                        replace h102 := El.tr h102 ht119
                        replace h105 := El.tr h105 ht119
                        replace hK := Tr.trans hK ht119
                        replace hr17 := Tr.trans hr17 ht119
                        replace hr38 := Tr.trans hr38 ht119
                        replace hr51 := Tr.trans hr51 ht119
                        replace hr73 := Tr.trans hr73 ht119
                        replace hr94 := Tr.trans hr94 ht119
                        replace hB := Nat.le_trans hB ht119.ex.size
                        replace hA := ht119.new
                        replace hH : Hp B A117 w116 (obCk 107 portref2_ShiftsIn b110 x106 :: obC b_x [v_x] 82 :: obPX (obCk 107 portref2_ShiftsIn) 79 v_x x.clocks (Int.toNat x79.calendar) b110 :: L) := hH118
                        replace hH : Hp B A117 w116 (obC b_x [v_x] 82 :: obPS (obCk 107 portref2_ShiftsIn) 79 v_x x.clocks :: L) := Hp.psBack hH (i := 1) rfl hk111
                        refine V_y (Y_pick_te rfl hc104 rfl) rfl rfl rfl ?_
                        obtain rfl := Option.some.inj ho92
                        refine V_end (fun a ha120 => ?_)
                        exact ⟨A117, ha120.sub ⟨rfl, rfl, rfl, rfl, rfl, rfl, rfl, rfl, rfl, trivial⟩, ⟨hH, hr94⟩⟩
                      · rw [if_neg (nt hc104)] at ho92
                        refine VQ_gn rfl rfl rfl hc104 rfl rfl rfl ?_
                        refine VQ_gn rfl rfl rfl hc104 rfl rfl rfl ?_
                        refine VQ_gn rfl rfl rfl hc104 rfl rfl rfl ?_
                        refine VQ_gn rfl rfl rfl hc104 rfl rfl rfl ?_
                        refine VQ_gn rfl rfl rfl hc104 rfl rfl rfl ?_
                        refine VQ_gn rfl rfl rfl hc104 rfl rfl rfl ?_
                        refine VQ_gn rfl rfl rfl hc104 rfl rfl rfl ?_
                        refine VQ_gn rfl rfl rfl hc104 rfl rfl rfl ?_
                        refine VQ_gn rfl rfl rfl hc104 rfl rfl rfl ?_
                        refine VQ_tail (fun w121 hk122 => ?_)
                        try simp only [List.take, List.drop]
                        have ht123 := Kp.tr hk122 hA hB
                        replace hH := Hp.kp hH hk122
                        replace h8 := El.tr h8 ht123
                        replace h48 := Sl.tr h48 ht123
                        replace h89 := El.tr h89 ht123
                        replace h100 := El.tr h100 ht123
                        replace h102 := El.tr h102 ht123
                        replace hK := Tr.trans hK ht123
                        replace hr17 := Tr.trans hr17 ht123
                        replace hr38 := Tr.trans hr38 ht123
                        replace hr51 := Tr.trans hr51 ht123
                        replace hr73 := Tr.trans hr73 ht123
                        replace hr94 := Tr.trans hr94 ht123
                        replace hB := Nat.le_trans hB ht123.ex.size
                        replace hA := ht123.new
                        refine V_gn rfl rfl rfl hc104 rfl rfl rfl ?_
                        refine V_y (Y_pick_fe rfl hc104 rfl) rfl rfl rfl ?_
                        obtain rfl := Option.some.inj ho92
                        refine V_end (fun a ha124 => ?_)
                        exact ⟨A60, ha124.sub ⟨rfl, rfl, rfl, rfl, rfl, rfl, rfl, rfl, rfl, trivial⟩, ⟨hH, hr94⟩⟩
                    · rw [if_neg (nt hc103)] at ho92
                      refine VQ_ge rfl rfl rfl hc103 ?_
                      refine VQ_y (fun w' hw' => Y_move rfl) rfl rfl rfl ?_
                      refine VQ_ge rfl rfl rfl hc103 ?_
                      have h125 := El_level_Piece_1 h89
                      refine VQ_y (fun w' hw' => Y_fieldAddr Try.underlying64 rfl Try.sizeOf3 (by decide) rfl) rfl rfl rfl ?_
                      refine VQ_ge rfl rfl rfl hc103 ?_
                      refine VQ_y (fun w' hw' => Y_load (El.int (El.kp h125 hw')) Try.isAgg3 rfl) rfl rfl rfl ?_
                      refine VQ_ge rfl rfl rfl hc103 ?_
                      refine VQ_y (fun w' hw' => Y_lss rfl rfl) rfl rfl rfl ?_
                      refine VQ_ge rfl rfl rfl hc101 ?_
                      refine VQ_y (fun _ _ => Y_pick_fe rfl hc103 rfl) rfl rfl rfl ?_
                      refine VQ_y (fun _ _ => Y_pick_te rfl hc101 rfl) rfl rfl rfl ?_
                      refine VQ_y (fun w' hw' => Y_move rfl) rfl rfl rfl ?_
                      rcases Bool.eq_false_or_eq_true (decide (s24.2 < x79.to_)) with hc126 | hc126
                      · rw [if_pos hc126] at ho92
                        refine VQ_ge rfl rfl rfl hc126 ?_
                        refine VQ_y (fun w' hw' => Y_move rfl) rfl rfl rfl ?_
                        refine VQ_ge rfl rfl rfl hc126 ?_
                        refine VQ_y (fun w' hw' => Y_nilCheck rfl) rfl rfl rfl ?_
                        refine VQ_ge rfl rfl rfl hc126 ?_
                        refine VQ_y (fun w' hw' => Y_fieldAddrC (off2 := 0) Try.underlying82 rfl Try.sizeOf80 (by decide) rfl rfl) rfl rfl rfl ?_
                        refine VQ_ge rfl rfl rfl hc126 ?_
                        refine VQ_y (fun w' hw' => Y_load ((World.cell?_of_block (hw'.block _ (World.block_lt_of_cell? _ _ (Hp.cell (j := 0) hH (i := 0) rfl rfl)))).trans (Hp.cell (j := 0) hH (i := 0) rfl rfl)) Try.isAgg80 rfl) rfl rfl rfl ?_
                        refine VQ_ge rfl rfl rfl hc126 ?_
                        have h127 := El_level_Piece_2 h89
                        refine VQ_y (fun w' hw' => Y_fieldAddr Try.underlying64 rfl Try.sizeOf3 (by decide) rfl) rfl rfl rfl ?_
                        refine VQ_ge rfl rfl rfl hc126 ?_
                        refine VQ_y (fun w' hw' => Y_load (El.int (El.kp h127 hw')) Try.isAgg3 rfl) rfl rfl rfl ?_
                        refine VQ_ge rfl rfl rfl hc126 ?_
                        obtain ⟨x128, hx128, ho92⟩ := Option.bind_eq_some_iff.1 ho92
                        refine VQ_indexAddrPS (f := obCk 107 portref2_ShiftsIn) (e := 79) (v := v_x) (cs := x.clocks) hH (i := 1) rfl hx128 Try.underlying80 Try.sizeOf79 rfl rfl rfl ?_
                        intro b129 o130 b132 hk133 h131 hH
                        replace hH : Hp B A60 w87 (obCk 107 portref2_ShiftsIn b132 x128 :: obC b_x [v_x] 82 :: obPX (obCk 107 portref2_ShiftsIn) 79 v_x x.clocks (Int.toNat x79.calendar) b132 :: L) := hH
                        refine VQ_ge rfl rfl rfl hc126 ?_
                        refine VQ_y (fun w' hw' => Y_load ((World.cell?_of_block (hw'.block _ (World.block_lt_of_cell? _ _ (h131)))).trans (h131)) Try.isAgg79 rfl) rfl rfl rfl ?_
                        refine VQ_ge rfl rfl rfl hc126 ?_
                        refine VQ_y (fun w' hw' => Y_move rfl) rfl rfl rfl ?_
                        refine VQ_tail (fun w134 hk135 => ?_)
                        try simp only [List.take, List.drop]
                        have ht136 := Kp.tr hk135 hA hB
                        replace hH := Hp.kp hH hk135
                        replace h8 := El.tr h8 ht136
                        replace h48 := Sl.tr h48 ht136
                        replace h89 := El.tr h89 ht136
                        replace h100 := El.tr h100 ht136
                        replace h102 := El.tr h102 ht136
                        replace h125 := El.tr h125 ht136
                        replace h127 := El.tr h127 ht136
                        replace hK := Tr.trans hK ht136
                        replace hr17 := Tr.trans hr17 ht136
                        replace hr38 := Tr.trans hr38 ht136
                        replace hr51 := Tr.trans hr51 ht136
                        replace hr73 := Tr.trans hr73 ht136
                        replace hr94 := Tr.trans hr94 ht136
                        replace hB := Nat.le_trans hB ht136.ex.size
                        replace hA := ht136.new
                        refine V_ge rfl rfl rfl hc126 ?_
                        obtain ⟨x137, hx137, ho92⟩ := Option.bind_eq_some_iff.1 ho92
                        refine V_call Try.call48 rfl rfl rfl rfl (portref2_Clock_Open_c w134 hB hA x128 b132 s24.2 hH hx137) ?_
                        rintro _ w138 ⟨A139, rfl, hH140, ht141⟩
                        replace h8 := El.tr h8 ht141
                        replace h48 := Sl.tr h48 ht141
                        replace h89 := El.tr h89 ht141
                        replace h100 := El.tr h100 ht141
                        replace h102 := El.tr h102 ht141
                        replace h125 := El.tr h125 ht141
                        replace h127 := El.tr h127 ht141
                        replace hK := Tr.trans hK ht141
                        replace hr17 := Tr.trans hr17 ht141
                        replace hr38 := Tr.trans hr38 ht141
                        replace hr51 := Tr.trans hr51 ht141
                        replace hr73 := Tr.trans hr73 ht141
                        replace hr94 := Tr.trans hr94 ht141
                        replace hB := Nat.le_trans hB ht141.ex.size
                        replace hA := ht141.new
                        replace hH : Hp B A139 w138 (obCk 107 portref2_ShiftsIn b132 x128 :: obC b_x [v_x] 82 :: obPX (obCk 107 portref2_ShiftsIn) 79 v_x x.clocks (Int.toNat x79.calendar) b132 :: L) := hH140
                        replace hH : Hp B A139 w138 (obC b_x [v_x] 82 :: obPS (obCk 107 portref2_ShiftsIn) 79 v_x x.clocks :: L) := Hp.psBack hH (i := 1) rfl hk133
                        refine V_y (Y_pick_te rfl hc126 rfl) rfl rfl rfl ?_
                        obtain rfl := Option.some.inj ho92
                        refine V_end (fun a ha142 => ?_)
                        exact ⟨A139, ha142.sub ⟨rfl, rfl, rfl, rfl, rfl, rfl, rfl, rfl, rfl, trivial⟩, ⟨hH, hr94⟩⟩
                      · rw [if_neg (nt hc126)] at ho92
                        refine VQ_gn rfl rfl rfl hc126 rfl rfl rfl ?_
                        refine VQ_gn rfl rfl rfl hc126 rfl rfl rfl ?_
                        refine VQ_gn rfl rfl rfl hc126 rfl rfl rfl ?_
                        refine VQ_gn rfl rfl rfl hc126 rfl rfl rfl ?_
                        refine VQ_gn rfl rfl rfl hc126 rfl rfl rfl ?_
                        refine VQ_gn rfl rfl rfl hc126 rfl rfl rfl ?_
                        refine VQ_gn rfl rfl rfl hc126 rfl rfl rfl ?_
                        refine VQ_gn rfl rfl rfl hc126 rfl rfl rfl ?_
                        refine VQ_gn rfl rfl rfl hc126 rfl rfl rfl ?_
                        refine VQ_tail (fun w143 hk144 => ?_)
                        try simp only [List.take, List.drop]
                        have ht145 := Kp.tr hk144 hA hB
                        replace hH := Hp.kp hH hk144
                        replace h8 := El.tr h8 ht145
                        replace h48 := Sl.tr h48 ht145
                        replace h89 := El.tr h89 ht145
                        replace h100 := El.tr h100 ht145
                        replace h102 := El.tr h102 ht145
                        replace h125 := El.tr h125 ht145
                        replace hK := Tr.trans hK ht145
                        replace hr17 := Tr.trans hr17 ht145
                        replace hr38 := Tr.trans hr38 ht145
                        replace hr51 := Tr.trans hr51 ht145
                        replace hr73 := Tr.trans hr73 ht145
                        replace hr94 := Tr.trans hr94 ht145
                        replace hB := Nat.le_trans hB ht145.ex.size
                        replace hA := ht145.new
                        refine V_gn rfl rfl rfl hc126 rfl rfl rfl ?_
                        refine V_y (Y_pick_fe rfl hc126 rfl) rfl rfl rfl ?_
                        obtain rfl := Option.some.inj ho92
                        refine V_end (fun a ha146 => ?_)
                        exact ⟨A60, ha146.sub ⟨rfl, rfl, rfl, rfl, rfl, rfl, rfl, rfl, rfl, trivial⟩, ⟨hH, hr94⟩⟩
                  · rw [if_neg (nt hc101)] at ho92
                    refine VQ_gn rfl rfl rfl hc101 rfl rfl rfl ?_
                    refine VQ_gn rfl rfl rfl hc101 rfl rfl rfl ?_
                    refine VQ_gn rfl rfl rfl hc101 rfl rfl rfl ?_
                    refine VQ_gn rfl rfl rfl hc101 rfl rfl rfl ?_
                    refine VQ_gu rfl rfl rfl rfl rfl ?_
                    refine VQ_gu rfl rfl rfl rfl rfl ?_
                    refine VQ_gu rfl rfl rfl rfl rfl ?_
                    refine VQ_gu rfl rfl rfl rfl rfl ?_
                    refine VQ_gn rfl rfl rfl hc101 rfl rfl rfl ?_
                    refine VQ_y (fun _ _ => Y_pick_fe rfl hc101 rfl) rfl rfl rfl ?_
                    refine VQ_y (fun w' hw' => Y_move rfl) rfl rfl rfl ?_
                    rcases Bool.eq_false_or_eq_true (false) with hc147 | hc147
                    · rw [if_pos hc147] at ho92
                      refine VQ_ge rfl rfl rfl hc147 ?_
                      refine VQ_y (fun w' hw' => Y_move rfl) rfl rfl rfl ?_
                      refine VQ_ge rfl rfl rfl hc147 ?_
                      refine VQ_y (fun w' hw' => Y_nilCheck rfl) rfl rfl rfl ?_
                      refine VQ_ge rfl rfl rfl hc147 ?_
                      refine VQ_y (fun w' hw' => Y_fieldAddrC (off2 := 0) Try.underlying82 rfl Try.sizeOf80 (by decide) rfl rfl) rfl rfl rfl ?_
                      refine VQ_ge rfl rfl rfl hc147 ?_
                      refine VQ_y (fun w' hw' => Y_load ((World.cell?_of_block (hw'.block _ (World.block_lt_of_cell? _ _ (Hp.cell (j := 0) hH (i := 0) rfl rfl)))).trans (Hp.cell (j := 0) hH (i := 0) rfl rfl)) Try.isAgg80 rfl) rfl rfl rfl ?_
                      refine VQ_ge rfl rfl rfl hc147 ?_
                      have h148 := El_level_Piece_2 h89
                      refine VQ_y (fun w' hw' => Y_fieldAddr Try.underlying64 rfl Try.sizeOf3 (by decide) rfl) rfl rfl rfl ?_
                      refine VQ_ge rfl rfl rfl hc147 ?_
                      refine VQ_y (fun w' hw' => Y_load (El.int (El.kp h148 hw')) Try.isAgg3 rfl) rfl rfl rfl ?_
                      refine VQ_ge rfl rfl rfl hc147 ?_
                      obtain ⟨x149, hx149, ho92⟩ := Option.bind_eq_some_iff.1 ho92
                      refine VQ_indexAddrPS (f := obCk 107 portref2_ShiftsIn) (e := 79) (v := v_x) (cs := x.clocks) hH (i := 1) rfl hx149 Try.underlying80 Try.sizeOf79 rfl rfl rfl ?_
                      intro b150 o151 b153 hk154 h152 hH
                      replace hH : Hp B A60 w87 (obCk 107 portref2_ShiftsIn b153 x149 :: obC b_x [v_x] 82 :: obPX (obCk 107 portref2_ShiftsIn) 79 v_x x.clocks (Int.toNat x79.calendar) b153 :: L) := hH
                      refine VQ_ge rfl rfl rfl hc147 ?_
                      refine VQ_y (fun w' hw' => Y_load ((World.cell?_of_block (hw'.block _ (World.block_lt_of_cell? _ _ (h152)))).trans (h152)) Try.isAgg79 rfl) rfl rfl rfl ?_
                      refine VQ_ge rfl rfl rfl hc147 ?_
                      refine VQ_y (fun w' hw' => Y_move rfl) rfl rfl rfl ?_
                      refine VQ_tail (fun w155 hk156 => ?_)
                      try simp only [List.take, List.drop]
                      have ht157 := Kp.tr hk156 hA hB
                      replace hH := Hp.kp hH hk156
                      replace h8 := El.tr h8 ht157
                      replace h48 := Sl.tr h48 ht157
                      replace h89 := El.tr h89 ht157
                      replace h100 := El.tr h100 ht157
                      replace h148 := El.tr h148 ht157
                      replace hK := Tr.trans hK ht157
                      replace hr17 := Tr.trans hr17 ht157
                      replace hr38 := Tr.trans hr38 ht157
                      replace hr51 := Tr.trans hr51 ht157
                      replace hr73 := Tr.trans hr73 ht157
                      replace hr94 := Tr.trans hr94 ht157
                      replace hB := Nat.le_trans hB ht157.ex.size
                      replace hA := ht157.new
                      refine V_ge rfl rfl rfl hc147 ?_
                      obtain ⟨x158, hx158, ho92⟩ := Option.bind_eq_some_iff.1 ho92
                      refine V_call Try.call48 rfl rfl rfl rfl (portref2_Clock_Open_c w155 hB hA x149 b153 s24.2 hH hx158) ?_
                      rintro _ w159 ⟨A160, rfl, hH161, ht162⟩
                      replace h8 := El.tr h8 ht162
                      replace h48 := Sl.tr h48 ht162
                      replace h89 := El.tr h89 ht162
                      replace h100 := El.tr h100 ht162
                      replace h148 := El.tr h148 ht162
                      replace hK := Tr.trans hK ht162
                      replace hr17 := Tr.trans hr17 ht162
                      replace hr38 := Tr.trans hr38 ht162
                      replace hr51 := Tr.trans hr51 ht162
                      replace hr73 := Tr.trans hr73 ht162
                      replace hr94 := Tr.trans hr94 ht162
                      replace hB := Nat.le_trans hB ht162.ex.size
                      replace hA := ht162.new
                      replace hH : Hp B A160 w159 (obCk 107 portref2_ShiftsIn b153 x149 :: obC b_x [v_x] 82 :: obPX (obCk 107 portref2_ShiftsIn) 79 v_x x.clocks (Int.toNat x79.calendar) b153 :: L) := hH161
                      replace hH : Hp B A160 w159 (obC b_x [v_x] 82 :: obPS (obCk 107 portref2_ShiftsIn) 79 v_x x.clocks :: L) := Hp.psBack hH (i := 1) rfl hk154
                      refine V_y (Y_pick_te rfl hc147 rfl) rfl rfl rfl ?_
                      obtain rfl := Option.some.inj ho92
                      refine V_end (fun a ha163 => ?_)
                      exact ⟨A160, ha163.sub ⟨rfl, rfl, rfl, rfl, rfl, rfl, rfl, rfl, rfl, trivial⟩, ⟨hH, hr94⟩⟩
                    · rw [if_neg (nt hc147)] at ho92
                      refine VQ_gn rfl rfl rfl hc147 rfl rfl rfl ?_
                      refine VQ_gn rfl rfl rfl hc147 rfl rfl rfl ?_
                      refine VQ_gn rfl rfl rfl hc147 rfl rfl rfl ?_
                      refine VQ_gn rfl rfl rfl hc147 rfl rfl rfl ?_
                      refine VQ_gn rfl rfl rfl hc147 rfl rfl rfl ?_
                      refine VQ_gn rfl rfl rfl hc147 rfl rfl rfl ?_
                      refine VQ_gn rfl rfl rfl hc147 rfl rfl rfl ?_
                      refine VQ_gn rfl rfl rfl hc147 rfl rfl rfl ?_
                      refine VQ_gn rfl rfl rfl hc147 rfl rfl rfl ?_
                      refine VQ_tail (fun w164 hk165 => ?_)
                      try simp only [List.take, List.drop]
                      have ht166 := Kp.tr hk165 hA hB
                      replace hH := Hp.kp hH hk165
                      replace h8 := El.tr h8 ht166
                      replace h48 := Sl.tr h48 ht166
                      replace h89 := El.tr h89 ht166
                      replace h100 := El.tr h100 ht166
                      replace hK := Tr.trans hK ht166
                      replace hr17 := Tr.trans hr17 ht166
                      replace hr38 := Tr.trans hr38 ht166
                      replace hr51 := Tr.trans hr51 ht166
                      replace hr73 := Tr.trans hr73 ht166
                      replace hr94 := Tr.trans hr94 ht166
                      replace hB := Nat.le_trans hB ht166.ex.size
                      replace hA := ht166.new
                      refine V_gn rfl rfl rfl hc147 rfl rfl rfl ?_
                      refine V_y (Y_pick_fe rfl hc147 rfl) rfl rfl rfl ?_
                      obtain rfl := Option.some.inj ho92
                      refine V_end (fun a ha167 => ?_)
                      exact ⟨A60, ha167.sub ⟨rfl, rfl, rfl, rfl, rfl, rfl, rfl, rfl, rfl, trivial⟩, ⟨hH, hr94⟩⟩
                rintro A98 w95 ⟨hH99, hk96⟩ a ha97
                replace h8 := El.tr h8 hk96
                replace h48 := Sl.tr h48 hk96
                replace hK := Tr.trans hK hk96
                replace hr17 := Tr.trans hr17 hk96
                replace hr38 := Tr.trans hr38 hk96
                replace hr51 := Tr.trans hr51 hk96
                replace hr73 := Tr.trans hr73 hk96
                replace hB := Nat.le_trans hB hk96.ex.size
                replace hA := hk96.new
                replace hH : Hp B A98 w95 (obC b_x [v_x] 82 :: obPS (obCk 107 portref2_ShiftsIn) 79 v_x x.clocks :: L) := hH99
                refine C_at (n := ⟨59, [], none⟩) (fun _ _ => rfl) ?_ ha97
                obtain ⟨s169, ho168, ho71⟩ := Option.bind_eq_some_iff.1 ho71
                refine C_cutG (ι := Unit) (fun (_ : Unit) => [(0, .pointer (some ⟨b_x, 0, none⟩)), (2, .int .i64 amount), (4, .pointer (some ⟨b5, 0, none⟩)), (7, .int .i64 s169), (8, .int .i64 s24.2), (22, v46), (23, .int .i64 (c.pieces.length : Int)), (24, .int .i64 (k52 : Int))]) (fun (_ : Unit) => fun w' => w95 = w') ?_ ?_
                · refine C_cond rfl (fun hc174 => ?_) (fun hc174 => ?_)
                  · rw [if_pos hc174] at ho168
                    refine C_region ?_
                    refine V_y (Y_move rfl) rfl rfl rfl ?_
                    refine V_y (Y_addI rfl rfl) rfl rfl rfl ?_
                    refine V_y (Y_assign rfl) rfl rfl rfl ?_
                    obtain rfl := Option.some.inj ho168
                    refine V_end (fun a ha175 => ?_)
                    exact ⟨(), ha175.sub ⟨rfl, rfl, rfl, rfl, rfl, rfl, rfl, rfl, trivial⟩, rfl⟩
                  · rw [if_neg (nt hc174)] at ho168
                    obtain rfl := Option.some.inj ho168
                    refine C_skip (fun a ha176 => ?_)
                    exact ⟨(), ha176.sub ⟨rfl, rfl, rfl, rfl, rfl, rfl, rfl, rfl, trivial⟩, rfl⟩
                rintro _ _ rfl a ha173
                obtain rfl := Option.some.inj ho71
                exact ⟨A98, ha173.sub ⟨rfl, rfl, rfl, rfl, rfl, rfl, rfl, rfl, trivial⟩, ⟨hH, hr73⟩⟩
              rintro A77 w74 ⟨hH78, hk75⟩ a ha76
              replace h8 := El.tr h8 hk75
              replace h48 := Sl.tr h48 hk75
              replace hK := Tr.trans hK hk75
              replace hr17 := Tr.trans hr17 hk75
              replace hr38 := Tr.trans hr38 hk75
              replace hr51 := Tr.trans hr51 hk75
              replace hB := Nat.le_trans hB hk75.ex.size
              replace hA := hk75.new
              replace hH : Hp B A77 w74 (obC b_x [v_x] 82 :: obPS (obCk 107 portref2_ShiftsIn) 79 v_x x.clocks :: L) := hH78
              refine C_at (n := ⟨59, [], none⟩) (fun _ _ => rfl) ?_ ha76
              refine C_region ?_
              refine V_y (Y_addI rfl rfl) rfl rfl rfl ?_
              refine V_y (Y_move rfl) rfl rfl rfl ?_
              obtain rfl := Option.some.inj h63
              refine V_end (fun a ha178 => ?_)
              exact ⟨s72, hlt66, h64, ⟨A77, ha178.sub ⟨rfl, rfl, rfl, rfl, rfl, rfl, rfl, (congrArg (fun z => some (Value.int .i64 z)) (w64_succ hlt66 hn69)), trivial⟩, ⟨hH, hr51⟩⟩⟩
            · refine C_exit (fun a ha179 => ?_)
              exact ⟨(s58, A60), ha179.sub ⟨rfl, rfl, rfl, rfl, rfl, trivial⟩, ⟨(h67 (eq_of_dec hle65 hc70)).symm, hH, hr51⟩⟩
          rintro ⟨s50, A56⟩ w53 ⟨rfl, hH57, hk54⟩ a ha55
          rw [Lp.andThen_fin] at ho36
          replace h8 := El.tr h8 hk54
          replace hK := Tr.trans hK hk54
          replace hr17 := Tr.trans hr17 hk54
          replace hr38 := Tr.trans hr38 hk54
          replace hB := Nat.le_trans hB hk54.ex.size
          replace hA := hk54.new
          replace hH : Hp B A56 w53 (obC b_x [v_x] 82 :: obPS (obCk 107 portref2_ShiftsIn) 79 v_x x.clocks :: L) := hH57
          obtain rfl := Option.some.inj ho36
          exact ⟨(s50, A56), ha55.sub ⟨rfl, rfl, rfl, rfl, rfl, trivial⟩, ⟨rfl, hH, hr38⟩⟩
      rintro ⟨s37, A42⟩ w39 ⟨rfl, hH43, hk40⟩ a ha41
      rw [Lp.andThen_fin] at h29
      replace h8 := El.tr h8 hk40
      replace hK := Tr.trans hK hk40
      replace hr17 := Tr.trans hr17 hk40
      replace hB := Nat.le_trans hB hk40.ex.size
      replace hA := hk40.new
      replace hH : Hp B A42 w39 (obC b_x [v_x] 82 :: obPS (obCk 107 portref2_ShiftsIn) 79 v_x x.clocks :: L) := hH43
      refine C_at (n := ⟨59, [], none⟩) (fun _ _ => rfl) ?_ ha41
      refine C_region ?_
      refine V_y (Y_move rfl) rfl rfl rfl ?_
      refine V_y (Y_addI rfl rfl) rfl rfl rfl ?_
      refine V_y (Y_assign rfl) rfl rfl rfl ?_
      obtain rfl := Option.some.inj h29
      refine V_end (fun a ha182 => ?_)
      exact ⟨(s37, w64 (s24.2 + 1)), h30, ⟨A42, ha182.sub ⟨rfl, rfl, rfl, rfl, rfl, trivial⟩, ⟨hH, hr17⟩⟩⟩
    · rw [if_neg (nt hc35)] at h29
      obtain rfl := Option.some.inj h29
      refine C_exit (fun a ha183 => ?_)
      exact ⟨((s24.1, s24.2), A26), ha183.sub ⟨rfl, trivial⟩, ⟨h30.symm, hH, hr17⟩⟩
  rintro ⟨s16, A22⟩ w19 ⟨rfl, hH23, hk20⟩ a ha21
  rw [Lp.andThen_fin] at hm
  replace hK := Tr.trans hK hk20
  replace hB := Nat.le_trans hB hk20.ex.size
  replace hA := hk20.new
  replace hH : Hp B A22 w19 (obC b_x [v_x] 82 :: obPS (obCk 107 portref2_ShiftsIn) 79 v_x x.clocks :: L) := hH23
  refine C_at (n := ⟨59, [], none⟩) (fun _ _ => rfl) ?_ ha21
  refine C_seq ?_
  refine C_region ?_
  refine V_y (Y_move rfl) rfl rfl rfl ?_
  refine V_y (Y_assign rfl) rfl rfl rfl ?_
  refine V_to (fun _ _ => rfl) ?_
  obtain rfl := Option.some.inj hm
  refine C_ret ?_
  try simp only [↓inBlock_ret, ↓then_ret]
  exact retQ rfl (Res.one Try.results50 rfl) ⟨A22, rfl, hH, hK⟩

set_option maxRecDepth 4000 in
set_option maxHeartbeats 4000000 in
theorem portref2_WarningsOf_c (w : World) {A : Nat → Prop} (hA : ∀ b, w.heap.size ≤ b → A b) (c : level_Clock) (v_c : Value) (h_c : Sl A w v_c c.pieces) (cals : (List cal_Calendar)) (v_cals : Value) (h_cals : Sl A w v_cals cals) (shares : (List Int)) (v_shares : Value) (h_shares : Sl A w v_shares shares) {r : ((List Int) × Int)} (hm : portref2_WarningsOf c cals shares = some r) : Ret Try.prog 23 #[.agg #[.int .i64 c.kind, .int .i64 c.level, .int .i64 c.minutes, .int .i64 c.start, .int .i64 c.stop, .int .i64 c.end_, v_c], v_cals, v_shares] w fun v w' => ∃ s0, v = .tuple #[s0, .int .i64 r.2] ∧ Ownd 3 w w' s0 r.1 ∧ Kp w w' := by
  unfold portref2_WarningsOf at hm
  refine enter Try.func23 rfl Try.ntmps23 rfl ?_
  have hA0 := hA
  have hB := Nat.le_refl w.heap.size
  have hK : Tr w.heap.size A w A w := Tr.refl hA
  have hH : Hp w.heap.size A w [] := Hp.nil
  refine C_seq ?_
  refine C_region ?_
  refine V_box rfl rfl ?_
  intro b7 w9 h10
  have hk12 := h10.kp
  have h11 : El (α := level_Clock) A w9 b7 0 c := h10.el hA ⟨[.int .i64 c.kind], _, rfl, rfl, ⟨[.int .i64 c.level], _, rfl, rfl, ⟨[.int .i64 c.minutes], _, rfl, rfl, ⟨[.int .i64 c.start], _, rfl, rfl, ⟨[.int .i64 c.stop], _, rfl, rfl, ⟨[.int .i64 c.end_], _, rfl, rfl, ⟨_, rfl, h_c⟩⟩⟩⟩⟩⟩⟩
  have ht13 := Kp.tr hk12 hA hB
  replace hH := Hp.kp hH hk12
  replace h_c := Sl.tr h_c ht13
  replace h_cals := Sl.tr h_cals ht13
  replace h_shares := Sl.tr h_shares ht13
  replace hK := Tr.trans hK ht13
  replace hB := Nat.le_trans hB ht13.ex.size
  replace hA := ht13.new
  refine V_y (Y_assign rfl) rfl rfl rfl ?_
  refine V_y (Y_assign rfl) rfl rfl rfl ?_
  refine V_to (fun _ _ => rfl) ?_
  refine C_seq ?_
  refine C_seq ?_
  refine C_region ?_
  obtain ⟨v14, h16, h15⟩ := El_level_Clock h11
  refine V_y (Y_loadA h16 Try.isAgg35 Try.sizeOf35 rfl) rfl rfl rfl ?_
  refine V_buildSlice (l := ([c] : List level_Clock)) (len := 1) Try.underlying56 Try.sizeOf35 Try.zeroValue35 rfl (by with_unfolding_all rfl) (by decide) (by decide) hA ⟨[.int .i64 c.kind, .int .i64 c.level, .int .i64 c.minutes, .int .i64 c.start, .int .i64 c.stop, .int .i64 c.end_, v14], _, rfl, ⟨[.int .i64 c.kind], _, rfl, rfl, ⟨[.int .i64 c.level], _, rfl, rfl, ⟨[.int .i64 c.minutes], _, rfl, rfl, ⟨[.int .i64 c.start], _, rfl, rfl, ⟨[.int .i64 c.stop], _, rfl, rfl, ⟨[.int .i64 c.end_], _, rfl, rfl, ⟨_, rfl, h15⟩⟩⟩⟩⟩⟩⟩, rfl⟩ rfl rfl ?_
  intro v17 w18 hk20 h19
  have ht21 := Kp.tr hk20 hA hB
  replace hH := Hp.kp hH hk20
  replace h_cals := Sl.tr h_cals ht21
  replace h_shares := Sl.tr h_shares ht21
  replace h11 := El.tr h11 ht21
  replace h15 := Sl.tr h15 ht21
  replace hK := Tr.trans hK ht21
  replace hB := Nat.le_trans hB ht21.ex.size
  replace hA := ht21.new
  refine V_y (Y_move rfl) rfl rfl rfl ?_
  obtain ⟨x22, hx22, hm⟩ := Option.bind_eq_some_iff.1 hm
  refine V_call Try.call40 rfl rfl rfl rfl (portref2_clocksFault_c w18 hA ([c] : List level_Clock) v17 h19 cals v_cals h_cals hx22) ?_
  rintro _ w23 ⟨rfl, hk24⟩
  have ht25 := Kp.tr hk24 hA hB
  replace hH := Hp.kp hH hk24
  replace h_cals := Sl.tr h_cals ht25
  replace h_shares := Sl.tr h_shares ht25
  replace h11 := El.tr h11 ht25
  replace h15 := Sl.tr h15 ht25
  replace h19 := Sl.tr h19 ht25
  replace hK := Tr.trans hK ht25
  replace hB := Nat.le_trans hB ht25.ex.size
  replace hA := ht25.new
  refine V_y (Y_assign rfl) rfl rfl rfl ?_
  refine V_to (fun _ _ => rfl) ?_
  refine C_seq ?_
  refine C_region ?_
  refine V_y (Y_move rfl) rfl rfl rfl ?_
  refine V_y (Y_neq rfl rfl) rfl rfl rfl ?_
  refine V_to (fun _ _ => rfl) ?_
  refine C_cond rfl (fun hc26 => ?_) (fun hc26 => ?_)
  · rw [if_pos hc26] at hm
    refine C_seq ?_
    refine C_region ?_
    refine V_y (Y_move rfl) rfl rfl rfl ?_
    refine V_y (Y_assign rfl) rfl rfl rfl ?_
    refine V_y (Y_assign rfl) rfl rfl rfl ?_
    refine V_to (fun _ _ => rfl) ?_
    obtain rfl := Option.some.inj hm
    replace hH : Hp w.heap.size A w23 (obS (α := Int) 3 (.slice none 0 0) ([] : (List Int)) :: []) := Hp.addNil (α := Int) (e := 3) hH
    refine C_ret ?_
    try simp only [↓inBlock_ret, ↓then_ret]
    exact retQ rfl (Res.two Try.results23 rfl rfl) ⟨.slice none 0 0, rfl, (Hp.ownd hH (i := 0) rfl), hK.kp⟩
  · rw [if_neg (nt hc26)] at hm
    refine C_skip_to (fun _ _ => rfl) ?_
    refine C_seq ?_
    refine C_seq ?_
    refine C_region ?_
    refine V_y (Y_move rfl) rfl rfl rfl ?_
    refine V_y (Y_lenSl h_shares rfl Try.underlying51 rfl) rfl rfl rfl ?_
    refine V_y (Y_gtr rfl rfl) rfl rfl rfl ?_
    refine V_to (fun _ _ => rfl) ?_
    refine C_cond rfl (fun hc27 => ?_) (fun hc27 => ?_)
    · rw [if_pos hc27] at hm
      refine C_seq ?_
      refine C_region ?_
      refine V_y (Y_assign rfl) rfl rfl rfl ?_
      refine V_y (Y_assign rfl) rfl rfl rfl ?_
      refine V_to (fun _ _ => rfl) ?_
      obtain rfl := Option.some.inj hm
      replace hH : Hp w.heap.size A w23 (obS (α := Int) 3 (.slice none 0 0) ([] : (List Int)) :: []) := Hp.addNil (α := Int) (e := 3) hH
      refine C_ret ?_
      try simp only [↓inBlock_ret, ↓then_ret]
      exact retQ rfl (Res.two Try.results23 rfl rfl) ⟨.slice none 0 0, rfl, (Hp.ownd hH (i := 0) rfl), hK.kp⟩
    · rw [if_neg (nt hc27)] at hm
      refine C_skip_to (fun _ _ => rfl) ?_
      refine C_seq ?_
      refine C_seq ?_
      refine C_region ?_
      refine V_y (Y_move rfl) rfl rfl rfl ?_
      refine V_y (Y_lenSl h_shares rfl Try.underlying51 rfl) rfl rfl rfl ?_
      refine V_y (Y_move rfl) rfl rfl rfl ?_
      refine V_to (fun _ _ => rfl) ?_
      have hn45 := Sl.le h_shares
      obtain ⟨o28, ho28, hm⟩ := Option.bind_eq_some_iff.1 hm
      refine C_cutG (ι := Unit) (fun (s29 : Unit) => [(1, v_cals), (2, v_shares), (3, .pointer (some ⟨b7, 0, none⟩))]) (fun (s29 : Unit) => fun w' => o28 = .fin s29 ∧ w23 = w') ?_ ?_
      · refine C_block ?_
        refine C_range ho28 (fun k31 _ a w' => ∃ i : Unit, Has ⟨67, [], none⟩ a ([(1, v_cals), (2, v_shares), (3, .pointer (some ⟨b7, 0, none⟩)), (26, v_shares), (27, .int .i64 (shares.length : Int)), (28, .int .i64 (k31 : Int))]) ∧ w23 = w') (fun a ha => ⟨(), ha.sub ⟨rfl, rfl, rfl, rfl, rfl, rfl, trivial⟩, rfl⟩) ?_
        rintro K k31 _ a _ ⟨_, ha56, rfl⟩ hle41 K44 h43
        refine C_of ?_ ha56
        refine C_seq (C_region (V_y (Y_lss rfl rfl) rfl rfl rfl (V_to (fun _ _ => rfl) ?_)))
        refine C_seq ?_
        refine C_cond rfl (fun hc46 => ?_) (fun hc46 => ?_)
        · have hlt42 := lt_of_dec hc46
          obtain ⟨x38, h39, h40⟩ := K44 hlt42
          refine C_skip_to (fun _ _ => rfl) ?_
          refine C_seq ?_
          refine C_block ?_
          refine C_seq ?_
          refine C_region ?_
          obtain ⟨x47, hx47, h39⟩ := Option.bind_eq_some_iff.1 h39
          refine V_indexAddr h_shares hx47 Try.underlying51 Try.sizeOf3 rfl rfl rfl ?_
          intro b48 o49 h50
          refine V_y (Y_load (El.int h50) Try.isAgg3 rfl) rfl rfl rfl ?_
          refine V_y (Y_assign rfl) rfl rfl rfl ?_
          refine V_to (fun _ _ => rfl) ?_
          refine C_seq ?_
          refine C_region ?_
          refine V_y (Y_move rfl) rfl rfl rfl ?_
          refine V_y (Y_lss rfl rfl) rfl rfl rfl ?_
          refine V_y (Y_move rfl) rfl rfl rfl ?_
          refine V_cut 3 (fun _ : Unit => [(1, v_cals), (2, v_shares), (3, .pointer (some ⟨b7, 0, none⟩)), (26, v_shares), (27, .int .i64 (shares.length : Int)), (28, .int .i64 (k31 : Int)), (37, .bool ((decide (x47 < 0)) || (decide ((1000 : Int) < x47))))]) (fun _ w' => w23 = w') ?_ ?_
          · simp only [List.take, List.drop]
            rcases Bool.eq_false_or_eq_true (decide (x47 < 0)) with hc51 | hc51
            · refine V_gn rfl rfl rfl hc51 rfl rfl rfl ?_
              refine V_gn rfl rfl rfl hc51 rfl rfl rfl ?_
              refine V_y (Y_pick_te rfl hc51 rfl) rfl rfl rfl ?_
              exact V_end fun a ha => ⟨(), ha.sub ⟨rfl, rfl, rfl, rfl, rfl, rfl, (by rw [hc51]; rfl), trivial⟩, rfl⟩
            · refine V_ge rfl rfl rfl hc51 ?_
              refine V_y (Y_move rfl) rfl rfl rfl ?_
              refine V_ge rfl rfl rfl hc51 ?_
              refine V_y (Y_gtr rfl rfl) rfl rfl rfl ?_
              refine V_y (Y_pick_fe rfl hc51 rfl) rfl rfl rfl ?_
              exact V_end fun a ha => ⟨(), ha.sub ⟨rfl, rfl, rfl, rfl, rfl, rfl, (by rw [hc51]; rfl), trivial⟩, rfl⟩
          simp only [List.take, List.drop]
          rintro _ _ rfl
          refine V_to (fun _ _ => rfl) ?_
          refine C_cond rfl (fun hc53 => ?_) (fun hc53 => ?_)
          · rw [if_pos hc53] at h39
            refine C_seq ?_
            refine C_region ?_
            refine V_y (Y_assign rfl) rfl rfl rfl ?_
            refine V_y (Y_assign rfl) rfl rfl rfl ?_
            refine V_to (fun _ _ => rfl) ?_
            obtain rfl := Option.some.inj h39
            obtain rfl := (h40 : Lp.rt _ = _)
            rw [Lp.andThen_rt] at hm
            obtain rfl := Option.some.inj hm
            replace hH : Hp w.heap.size A w23 (obS (α := Int) 3 (.slice none 0 0) ([] : (List Int)) :: []) := Hp.addNil (α := Int) (e := 3) hH
            refine C_ret ?_
            try simp only [↓inBlock_ret, ↓then_ret]
            exact retQ rfl (Res.two Try.results23 rfl rfl) ⟨.slice none 0 0, rfl, (Hp.ownd hH (i := 0) rfl), hK.kp⟩
          · rw [if_neg (nt hc53)] at h39
            refine C_skip_to (fun _ _ => rfl) ?_
            refine C_region ?_
            refine V_y (Y_addI rfl rfl) rfl rfl rfl ?_
            refine V_y (Y_move rfl) rfl rfl rfl ?_
            obtain rfl := Option.some.inj h39
            refine V_end (fun a ha54 => ?_)
            exact ⟨(), hlt42, h40, ⟨(), ha54.sub ⟨rfl, rfl, rfl, rfl, rfl, (congrArg (fun z => some (Value.int .i64 z)) (w64_succ hlt42 hn45)), trivial⟩, rfl⟩⟩
        · refine C_exit (fun a ha55 => ?_)
          exact ⟨(), ha55.sub ⟨rfl, rfl, rfl, trivial⟩, ⟨(h43 (eq_of_dec hle41 hc46)).symm, rfl⟩⟩
      rintro s29 _ ⟨rfl, rfl⟩ a ha35
      rw [Lp.andThen_fin] at hm
      refine C_at (n := ⟨67, [], none⟩) (fun _ _ => rfl) ?_ ha35
      refine C_seq ?_
      refine C_seq ?_
      refine C_region ?_
      obtain ⟨v57, h59, h58⟩ := El_level_Clock h11
      refine V_y (Y_loadA h59 Try.isAgg35 Try.sizeOf35 rfl) rfl rfl rfl ?_
      obtain ⟨x60, hx60, hm⟩ := Option.bind_eq_some_iff.1 hm
      refine V_call Try.call45 rfl rfl rfl rfl (portref2_goesOn_c w23 hA c v57 h58 hx60) ?_
      rintro _ w61 ⟨rfl, hk62⟩
      have ht63 := Kp.tr hk62 hA hB
      replace hH := Hp.kp hH hk62
      replace h_cals := Sl.tr h_cals ht63
      replace h_shares := Sl.tr h_shares ht63
      replace h11 := El.tr h11 ht63
      replace h58 := Sl.tr h58 ht63
      replace hK := Tr.trans hK ht63
      replace hB := Nat.le_trans hB ht63.ex.size
      replace hA := ht63.new
      refine V_y (Y_not rfl) rfl rfl rfl ?_
      refine V_to (fun _ _ => rfl) ?_
      refine C_cond rfl (fun hc64 => ?_) (fun hc64 => ?_)
      · rw [if_pos hc64] at hm
        refine C_seq ?_
        refine C_region ?_
        refine V_y (Y_assign rfl) rfl rfl rfl ?_
        refine V_y (Y_assign rfl) rfl rfl rfl ?_
        refine V_to (fun _ _ => rfl) ?_
        obtain rfl := Option.some.inj hm
        replace hH : Hp w.heap.size A w61 (obS (α := Int) 3 (.slice none 0 0) ([] : (List Int)) :: []) := Hp.addNil (α := Int) (e := 3) hH
        refine C_ret ?_
        try simp only [↓inBlock_ret, ↓then_ret]
        exact retQ rfl (Res.two Try.results23 rfl rfl) ⟨.slice none 0 0, rfl, (Hp.ownd hH (i := 0) rfl), hK.kp⟩
      · rw [if_neg (nt hc64)] at hm
        refine C_skip_to (fun _ _ => rfl) ?_
        refine C_seq ?_
        refine C_region ?_
        refine V_y (Y_move rfl) rfl rfl rfl ?_
        obtain ⟨x65, hx65, hm⟩ := Option.bind_eq_some_iff.1 hm
        refine V_call Try.call34 rfl rfl rfl rfl (portref2_newMeter_c w61 hB hA cals v_cals h_cals hH hx65) ?_
        rintro _ w69 ⟨b66, v67, A70, rfl, hH71, ht72⟩
        replace h_cals := Sl.tr h_cals ht72
        replace h_shares := Sl.tr h_shares ht72
        replace h11 := El.tr h11 ht72
        replace hK := Tr.trans hK ht72
        replace hB := Nat.le_trans hB ht72.ex.size
        replace hA := ht72.new
        replace hH : Hp w.heap.size A70 w69 (obC b66 [v67] 82 :: obPS (obCk 107 portref2_ShiftsIn) 79 v67 x65.clocks :: []) := hH71
        refine V_y (Y_assign rfl) rfl rfl rfl ?_
        refine V_to (fun _ _ => rfl) ?_
        refine C_seq ?_
        refine C_region ?_
        refine V_y (Y_assign rfl) rfl rfl rfl ?_
        refine V_to (fun _ _ => rfl) ?_
        refine C_seq ?_
        refine C_seq ?_
        refine C_region ?_
        refine V_y (Y_move rfl) rfl rfl rfl ?_
        refine V_y (Y_lenSl h_shares rfl Try.underlying51 rfl) rfl rfl rfl ?_
        refine V_y (Y_move rfl) rfl rfl rfl ?_
        refine V_to (fun _ _ => rfl) ?_
        replace hH : Hp w.heap.size A70 w69 (obS (α := Int) 3 (.slice none 0 0) ([] : (List Int)) :: obC b66 [v67] 82 :: obPS (obCk 107 portref2_ShiftsIn) 79 v67 x65.clocks :: []) := Hp.addNil (α := Int) (e := 3) hH
        have hn97 := Sl.le h_shares
        obtain ⟨o73, ho73, hm⟩ := Option.bind_eq_some_iff.1 hm
        refine C_cutG (ι := ((List Int) × Value × (Nat → Prop))) (fun ⟨s74, v80, A82⟩ => [(12, v80)]) (fun ⟨s74, v80, A82⟩ => fun w' => o73 = .fin s74 ∧ Hp w.heap.size A82 w' (obS (α := Int) 3 v80 s74 :: obC b66 [v67] 82 :: obPS (obCk 107 portref2_ShiftsIn) 79 v67 x65.clocks :: []) ∧ Tr w.heap.size A70 w69 A82 w') ?_ ?_
        · refine C_block ?_
          refine C_range ho73 (fun k76 s84 a w' => ∃ i : (Value × (Nat → Prop)), Has ⟨67, [], none⟩ a ([(3, .pointer (some ⟨b7, 0, none⟩)), (11, .pointer (some ⟨b66, 0, none⟩)), (12, i.1), (44, v_shares), (45, .int .i64 (shares.length : Int)), (46, .int .i64 (k76 : Int))]) ∧ Hp w.heap.size i.2 w' (obS (α := Int) 3 i.1 s84 :: obC b66 [v67] 82 :: obPS (obCk 107 portref2_ShiftsIn) 79 v67 x65.clocks :: []) ∧ Tr w.heap.size A70 w69 i.2 w') (fun a ha => ⟨(.slice none 0 0, A70), ha.sub ⟨rfl, rfl, rfl, rfl, rfl, rfl, trivial⟩, ⟨hH, Tr.refl hA⟩⟩) ?_
          rintro K k76 s84 a w85 ⟨⟨v86, A88⟩, ha134, hH89, hr75⟩ hle93 K96 h95
          refine C_of ?_ ha134
          replace h11 := El.tr h11 hr75
          replace h_shares := Sl.tr h_shares hr75
          replace hK := Tr.trans hK hr75
          replace hB := Nat.le_trans hB hr75.ex.size
          replace hA := hr75.new
          replace hH : Hp w.heap.size A88 w85 (obS (α := Int) 3 v86 s84 :: obC b66 [v67] 82 :: obPS (obCk 107 portref2_ShiftsIn) 79 v67 x65.clocks :: []) := hH89
          refine C_seq (C_region (V_y (Y_lss rfl rfl) rfl rfl rfl (V_to (fun _ _ => rfl) ?_)))
          refine C_seq ?_
          refine C_cond rfl (fun hc98 => ?_) (fun hc98 => ?_)
          · have hlt94 := lt_of_dec hc98
            obtain ⟨x90, h91, h92⟩ := K96 hlt94
            refine C_skip_to (fun _ _ => rfl) ?_
            refine C_seq ?_
            refine C_block ?_
            refine C_seq ?_
            refine C_region ?_
            obtain ⟨x99, hx99, h91⟩ := Option.bind_eq_some_iff.1 h91
            refine V_indexAddr h_shares hx99 Try.underlying51 Try.sizeOf3 rfl rfl rfl ?_
            intro b100 o101 h102
            refine V_y (Y_load (El.int h102) Try.isAgg3 rfl) rfl rfl rfl ?_
            refine V_y (Y_assign rfl) rfl rfl rfl ?_
            refine V_to (fun _ _ => rfl) ?_
            refine C_seq ?_
            refine C_region ?_
            refine V_y (Y_move rfl) rfl rfl rfl ?_
            obtain ⟨v103, h105, h104⟩ := El_level_Clock h11
            refine V_y (Y_loadA h105 Try.isAgg35 Try.sizeOf35 rfl) rfl rfl rfl ?_
            refine V_y (Y_move rfl) rfl rfl rfl ?_
            have h106 := El_level_Clock_2 h11
            refine V_y (Y_fieldAddr Try.underlying35 rfl Try.sizeOf3 (by decide) rfl) rfl rfl rfl ?_
            refine V_y (Y_load (El.int h106) Try.isAgg3 rfl) rfl rfl rfl ?_
            refine V_y (Y_mulI rfl rfl) rfl rfl rfl ?_
            refine V_y (Y_addI rfl rfl) rfl rfl rfl ?_
            refine V_y (Y_quo (by rw [quo, if_neg (by decide)]) rfl rfl) rfl rfl rfl ?_
            replace hH : Hp w.heap.size A88 w85 (obPS (obCk 107 portref2_ShiftsIn) 79 v67 x65.clocks :: obS (α := Int) 3 v86 s84 :: obC b66 [v67] 82 :: []) := Hp.front hH (i := 2) rfl
            replace hH : Hp w.heap.size A88 w85 (obC b66 [v67] 82 :: obPS (obCk 107 portref2_ShiftsIn) 79 v67 x65.clocks :: obS (α := Int) 3 v86 s84 :: []) := Hp.front hH (i := 2) rfl
            obtain ⟨x107, hx107, h91⟩ := Option.bind_eq_some_iff.1 h91
            refine V_call Try.call50 rfl rfl rfl rfl (portref2_meter_first_c w85 hB hA x65 b66 v67 c v103 h104 (w64 (Int.tdiv (w64 ((w64 (x99 * c.minutes)) + 99)) 100)) hH hx107) ?_
            rintro _ w108 ⟨A109, rfl, hH110, ht111⟩
            replace h11 := El.tr h11 ht111
            replace h_shares := Sl.tr h_shares ht111
            replace h104 := Sl.tr h104 ht111
            replace h106 := El.tr h106 ht111
            replace hK := Tr.trans hK ht111
            replace hr75 := Tr.trans hr75 ht111
            replace hB := Nat.le_trans hB ht111.ex.size
            replace hA := ht111.new
            replace hH : Hp w.heap.size A109 w108 (obC b66 [v67] 82 :: obPS (obCk 107 portref2_ShiftsIn) 79 v67 x65.clocks :: obS (α := Int) 3 v86 s84 :: []) := hH110
            refine V_y (Y_assign rfl) rfl rfl rfl ?_
            refine V_to (fun _ _ => rfl) ?_
            refine C_seq ?_
            refine C_seq ?_
            refine C_region ?_
            refine V_y (Y_move rfl) rfl rfl rfl ?_
            refine V_y (Y_gtr rfl rfl) rfl rfl rfl ?_
            refine V_to (fun _ _ => rfl) ?_
            obtain ⟨s113, ho112, h91⟩ := Option.bind_eq_some_iff.1 h91
            refine C_cutG (ι := Unit) (fun (_ : Unit) => [(3, .pointer (some ⟨b7, 0, none⟩)), (11, .pointer (some ⟨b66, 0, none⟩)), (12, v86), (15, .int .i64 s113), (44, v_shares), (45, .int .i64 (shares.length : Int)), (46, .int .i64 (k76 : Int))]) (fun (_ : Unit) => fun w' => w108 = w') ?_ ?_
            · refine C_cond rfl (fun hc118 => ?_) (fun hc118 => ?_)
              · rw [if_pos hc118] at ho112
                refine C_region ?_
                refine V_y (Y_assign rfl) rfl rfl rfl ?_
                obtain rfl := Option.some.inj ho112
                refine V_end (fun a ha119 => ?_)
                exact ⟨(), ha119.sub ⟨rfl, rfl, rfl, rfl, rfl, rfl, rfl, trivial⟩, rfl⟩
              · rw [if_neg (nt hc118)] at ho112
                obtain rfl := Option.some.inj ho112
                refine C_skip (fun a ha120 => ?_)
                exact ⟨(), ha120.sub ⟨rfl, rfl, rfl, rfl, rfl, rfl, rfl, trivial⟩, rfl⟩
            rintro _ _ rfl a ha117
            refine C_at (n := ⟨67, [], none⟩) (fun _ _ => rfl) ?_ ha117
            refine C_region ?_
            refine V_y (Y_move rfl) rfl rfl rfl ?_
            refine V_y (Y_move rfl) rfl rfl rfl ?_
            refine V_buildSlice (l := ([s113] : List Int)) (len := 1) Try.underlying51 Try.sizeOf3 Try.zeroValue3 rfl (by with_unfolding_all rfl) (by decide) (by decide) hA ⟨[.int .i64 s113], _, rfl, rfl, rfl⟩ rfl rfl ?_
            intro v121 w122 hk124 h123
            have ht125 := Kp.tr hk124 hA hB
            replace hH := Hp.kp hH hk124
            replace h11 := El.tr h11 ht125
            replace h_shares := Sl.tr h_shares ht125
            replace hK := Tr.trans hK ht125
            replace hr75 := Tr.trans hr75 ht125
            replace hB := Nat.le_trans hB ht125.ex.size
            replace hA := ht125.new
            obtain ⟨x126, hx126, h91⟩ := Option.bind_eq_some_iff.1 h91
            refine V_appendH (e := 3) (v := v86) (l := s84) (ti := Try.t3) (bytes := 8) (lim := 17592186044416) hH (i := 2) rfl h123 hx126 Try.underlying51 Try_info3 rfl rfl rfl rfl (by decide) (by decide) (by decide) hB hA rfl rfl rfl ?_
            intro v127 w128 A129 hH130 ht131
            replace h11 := El.tr h11 ht131
            replace h_shares := Sl.tr h_shares ht131
            replace h123 := Sl.tr h123 ht131
            replace hK := Tr.trans hK ht131
            replace hr75 := Tr.trans hr75 ht131
            replace hB := Nat.le_trans hB ht131.ex.size
            replace hA := ht131.new
            replace hH : Hp w.heap.size A129 w128 (obC b66 [v67] 82 :: obPS (obCk 107 portref2_ShiftsIn) 79 v67 x65.clocks :: obS (α := Int) 3 v127 x126 :: []) := hH130
            refine V_y (Y_assign rfl) rfl rfl rfl ?_
            refine V_to (fun _ _ => rfl) ?_
            refine C_region ?_
            refine V_y (Y_addI rfl rfl) rfl rfl rfl ?_
            refine V_y (Y_move rfl) rfl rfl rfl ?_
            obtain rfl := Option.some.inj h91
            refine V_end (fun a ha132 => ?_)
            replace hH : Hp w.heap.size A129 w128 (obPS (obCk 107 portref2_ShiftsIn) 79 v67 x65.clocks :: obC b66 [v67] 82 :: obS (α := Int) 3 v127 x126 :: []) := Hp.front hH (i := 1) rfl
            replace hH : Hp w.heap.size A129 w128 (obC b66 [v67] 82 :: obPS (obCk 107 portref2_ShiftsIn) 79 v67 x65.clocks :: obS (α := Int) 3 v127 x126 :: []) := Hp.front hH (i := 1) rfl
            replace hH : Hp w.heap.size A129 w128 (obS (α := Int) 3 v127 x126 :: obC b66 [v67] 82 :: obPS (obCk 107 portref2_ShiftsIn) 79 v67 x65.clocks :: []) := Hp.front hH (i := 2) rfl
            exact ⟨x126, hlt94, h92, ⟨(v127, A129), ha132.sub ⟨rfl, rfl, rfl, rfl, rfl, (congrArg (fun z => some (Value.int .i64 z)) (w64_succ hlt94 hn97)), trivial⟩, ⟨hH, hr75⟩⟩⟩
          · refine C_exit (fun a ha133 => ?_)
            exact ⟨(s84, v86, A88), ha133.sub ⟨rfl, trivial⟩, ⟨(h95 (eq_of_dec hle93 hc98)).symm, hH, hr75⟩⟩
        rintro ⟨s74, v80, A82⟩ w77 ⟨rfl, hH83, hk78⟩ a ha79
        rw [Lp.andThen_fin] at hm
        replace hK := Tr.trans hK hk78
        replace hB := Nat.le_trans hB hk78.ex.size
        replace hA := hk78.new
        replace hH : Hp w.heap.size A82 w77 (obS (α := Int) 3 v80 s74 :: obC b66 [v67] 82 :: obPS (obCk 107 portref2_ShiftsIn) 79 v67 x65.clocks :: []) := hH83
        refine C_at (n := ⟨67, [], none⟩) (fun _ _ => rfl) ?_ ha79
        refine C_seq ?_
        refine C_region ?_
        refine V_y (Y_move rfl) rfl rfl rfl ?_
        refine V_y (Y_assign rfl) rfl rfl rfl ?_
        refine V_y (Y_assign rfl) rfl rfl rfl ?_
        refine V_to (fun _ _ => rfl) ?_
        obtain rfl := Option.some.inj hm
        refine C_ret ?_
        try simp only [↓inBlock_ret, ↓then_ret]
        exact retQ rfl (Res.two Try.results23 rfl rfl) ⟨v80, rfl, (Hp.ownd hH (i := 0) rfl), hK.kp⟩

set_option maxRecDepth 4000 in
set_option maxHeartbeats 4000000 in
theorem slices_Equal_Lint_int_c (w : World) {A : Nat → Prop} (hA : ∀ b, w.heap.size ≤ b → A b) (s1 : (List Int)) (v_s1 : Value) (h_s1 : Sl A w v_s1 s1) (s2 : (List Int)) (v_s2 : Value) (h_s2 : Sl A w v_s2 s2) {r : Bool} (hm : slices_Equal_Lint_int s1 s2 = some r) : Ret Try.prog 24 #[v_s1, v_s2] w fun v w' => v = .bool r ∧ Kp w w' := by
  unfold slices_Equal_Lint_int at hm
  refine enter Try.func24 rfl Try.ntmps24 rfl ?_
  have hA0 := hA
  have hB := Nat.le_refl w.heap.size
  have hK : Tr w.heap.size A w A w := Tr.refl hA
  have hH : Hp w.heap.size A w [] := Hp.nil
  refine C_seq ?_
  refine C_region ?_
  refine V_y (Y_assign rfl) rfl rfl rfl ?_
  refine V_to (fun _ _ => rfl) ?_
  refine C_seq ?_
  refine C_seq ?_
  refine C_region ?_
  refine V_y (Y_move rfl) rfl rfl rfl ?_
  refine V_y (Y_lenSl h_s1 rfl Try.underlying51 rfl) rfl rfl rfl ?_
  refine V_y (Y_move rfl) rfl rfl rfl ?_
  refine V_y (Y_lenSl h_s2 rfl Try.underlying51 rfl) rfl rfl rfl ?_
  refine V_y (Y_neq rfl rfl) rfl rfl rfl ?_
  refine V_to (fun _ _ => rfl) ?_
  refine C_cond rfl (fun hc5 => ?_) (fun hc5 => ?_)
  · rw [if_pos hc5] at hm
    refine C_seq ?_
    refine C_region ?_
    refine V_y (Y_assign rfl) rfl rfl rfl ?_
    refine V_to (fun _ _ => rfl) ?_
    obtain rfl := Option.some.inj hm
    refine C_ret ?_
    try simp only [↓inBlock_ret, ↓then_ret]
    exact retQ rfl (Res.one Try.results24 rfl) ⟨rfl, hK.kp⟩
  · rw [if_neg (nt hc5)] at hm
    refine C_skip_to (fun _ _ => rfl) ?_
    refine C_seq ?_
    refine C_seq ?_
    refine C_region ?_
    refine V_y (Y_move rfl) rfl rfl rfl ?_
    refine V_y (Y_lenSl h_s1 rfl Try.underlying51 rfl) rfl rfl rfl ?_
    refine V_y (Y_move rfl) rfl rfl rfl ?_
    refine V_to (fun _ _ => rfl) ?_
    have hn27 := Sl.le h_s1
    obtain ⟨o6, ho6, hm⟩ := Option.bind_eq_some_iff.1 hm
    refine C_cutG (ι := (Unit × (Nat → Prop))) (fun ⟨s7, A13⟩ => []) (fun ⟨s7, A13⟩ => fun w' => o6 = .fin s7 ∧ Hp w.heap.size A13 w' ([]) ∧ Tr w.heap.size A w A13 w') ?_ ?_
    · refine C_block ?_
      refine C_range ho6 (fun k9 _ a w' => ∃ i : (Nat → Prop), Has ⟨26, [], none⟩ a ([(0, v_s1), (1, v_s2), (12, .int .i64 (s1.length : Int)), (13, .int .i64 (k9 : Int))]) ∧ Hp w.heap.size i w' ([]) ∧ Tr w.heap.size A w i w') (fun a ha => ⟨A, ha.sub ⟨rfl, rfl, rfl, rfl, trivial⟩, ⟨hH, Tr.refl hA⟩⟩) ?_
      rintro K k9 _ a w17 ⟨A18, ha43, hH19, hr8⟩ hle23 K26 h25
      refine C_of ?_ ha43
      replace h_s1 := Sl.tr h_s1 hr8
      replace h_s2 := Sl.tr h_s2 hr8
      replace hK := Tr.trans hK hr8
      replace hB := Nat.le_trans hB hr8.ex.size
      replace hA := hr8.new
      replace hH : Hp w.heap.size A18 w17 ([]) := hH19
      refine C_seq (C_region (V_y (Y_lss rfl rfl) rfl rfl rfl (V_to (fun _ _ => rfl) ?_)))
      refine C_seq ?_
      refine C_cond rfl (fun hc28 => ?_) (fun hc28 => ?_)
      · have hlt24 := lt_of_dec hc28
        obtain ⟨x20, h21, h22⟩ := K26 hlt24
        refine C_skip_to (fun _ _ => rfl) ?_
        refine C_seq ?_
        refine C_block ?_
        refine C_seq ?_
        refine C_region ?_
        refine V_y (Y_move rfl) rfl rfl rfl ?_
        refine V_y (Y_assign rfl) rfl rfl rfl ?_
        refine V_to (fun _ _ => rfl) ?_
        refine C_seq ?_
        refine C_region_q Try_mixed (by kernel_rfl) ?_
        refine VQ_y (fun w' hw' => Y_move rfl) rfl rfl rfl ?_
        refine VQ_y (fun w' hw' => Y_move rfl) rfl rfl rfl ?_
        obtain ⟨x29, hx29, h21⟩ := Option.bind_eq_some_iff.1 h21
        refine VQ_indexAddr h_s1 hx29 Try.underlying51 Try.sizeOf3 rfl rfl rfl ?_
        intro b30 o31 h32
        refine VQ_y (fun w' hw' => Y_load (El.int (El.kp h32 hw')) Try.isAgg3 rfl) rfl rfl rfl ?_
        refine VQ_y (fun w' hw' => Y_move rfl) rfl rfl rfl ?_
        refine VQ_y (fun w' hw' => Y_move rfl) rfl rfl rfl ?_
        obtain ⟨x33, hx33, h21⟩ := Option.bind_eq_some_iff.1 h21
        refine VQ_indexAddr h_s2 hx33 Try.underlying51 Try.sizeOf3 rfl rfl rfl ?_
        intro b34 o35 h36
        refine VQ_y (fun w' hw' => Y_load (El.int (El.kp h36 hw')) Try.isAgg3 rfl) rfl rfl rfl ?_
        refine VQ_y (fun w' hw' => Y_neq rfl rfl) rfl rfl rfl ?_
        refine VQ_to (fun _ _ => rfl) (fun w37 hk38 => ?_)
        have ht39 := Kp.tr hk38 hA hB
        replace hH := Hp.kp hH hk38
        replace h_s1 := Sl.tr h_s1 ht39
        replace h_s2 := Sl.tr h_s2 ht39
        replace hK := Tr.trans hK ht39
        replace hr8 := Tr.trans hr8 ht39
        replace hB := Nat.le_trans hB ht39.ex.size
        replace hA := ht39.new
        refine C_cond rfl (fun hc40 => ?_) (fun hc40 => ?_)
        · rw [if_pos hc40] at h21
          refine C_seq ?_
          refine C_region ?_
          refine V_y (Y_assign rfl) rfl rfl rfl ?_
          refine V_to (fun _ _ => rfl) ?_
          obtain rfl := Option.some.inj h21
          obtain rfl := (h22 : Lp.rt _ = _)
          rw [Lp.andThen_rt] at hm
          obtain rfl := Option.some.inj hm
          refine C_ret ?_
          try simp only [↓inBlock_ret, ↓then_ret]
          exact retQ rfl (Res.one Try.results24 rfl) ⟨rfl, hK.kp⟩
        · rw [if_neg (nt hc40)] at h21
          refine C_skip_to (fun _ _ => rfl) ?_
          refine C_region ?_
          refine V_y (Y_addI rfl rfl) rfl rfl rfl ?_
          refine V_y (Y_move rfl) rfl rfl rfl ?_
          obtain rfl := Option.some.inj h21
          refine V_end (fun a ha41 => ?_)
          exact ⟨(), hlt24, h22, ⟨A18, ha41.sub ⟨rfl, rfl, rfl, (congrArg (fun z => some (Value.int .i64 z)) (w64_succ hlt24 hn27)), trivial⟩, ⟨hH, hr8⟩⟩⟩
      · refine C_exit (fun a ha42 => ?_)
        exact ⟨((), A18), ha42.sub trivial, ⟨(h25 (eq_of_dec hle23 hc28)).symm, hH, hr8⟩⟩
    rintro ⟨s7, A13⟩ w10 ⟨rfl, hH14, hk11⟩ a ha12
    rw [Lp.andThen_fin] at hm
    replace hK := Tr.trans hK hk11
    replace hB := Nat.le_trans hB hk11.ex.size
    replace hA := hk11.new
    replace hH : Hp w.heap.size A13 w10 ([]) := hH14
    refine C_at (n := ⟨26, [], none⟩) (fun _ _ => rfl) ?_ ha12
    refine C_seq ?_
    refine C_region ?_
    refine V_y (Y_assign rfl) rfl rfl rfl ?_
    refine V_to (fun _ _ => rfl) ?_
    obtain rfl := Option.some.inj hm
    refine C_ret ?_
    try simp only [↓inBlock_ret, ↓then_ret]
    exact retQ rfl (Res.one Try.results24 rfl) ⟨rfl, hK.kp⟩

set_option maxRecDepth 4000 in
set_option maxHeartbeats 4000000 in
theorem portlaw2_ClockWarns_c (w : World) {A : Nat → Prop} (hA : ∀ b, w.heap.size ≤ b → A b) (c : level_Clock) (v_c : Value) (h_c : Sl A w v_c c.pieces) (cals : (List cal_Calendar)) (v_cals : Value) (h_cals : Sl A w v_cals cals) (shares : (List Int)) (v_shares : Value) (h_shares : Sl A w v_shares shares) {r : Bool} (hm : portlaw2_ClockWarns c cals shares = some r) : Ret Try.prog 8 #[.agg #[.int .i64 c.kind, .int .i64 c.level, .int .i64 c.minutes, .int .i64 c.start, .int .i64 c.stop, .int .i64 c.end_, v_c], v_cals, v_shares] w fun v w' => v = .bool r ∧ Kp w w' := by
  unfold portlaw2_ClockWarns at hm
  refine enter Try.func8 rfl Try.ntmps8 rfl ?_
  have hA0 := hA
  have hB := Nat.le_refl w.heap.size
  have hK : Tr w.heap.size A w A w := Tr.refl hA
  have hH : Hp w.heap.size A w [] := Hp.nil
  refine C_seq ?_
  refine C_region ?_
  refine V_box rfl rfl ?_
  intro b7 w9 h10
  have hk12 := h10.kp
  have h11 : El (α := level_Clock) A w9 b7 0 c := h10.el hA ⟨[.int .i64 c.kind], _, rfl, rfl, ⟨[.int .i64 c.level], _, rfl, rfl, ⟨[.int .i64 c.minutes], _, rfl, rfl, ⟨[.int .i64 c.start], _, rfl, rfl, ⟨[.int .i64 c.stop], _, rfl, rfl, ⟨[.int .i64 c.end_], _, rfl, rfl, ⟨_, rfl, h_c⟩⟩⟩⟩⟩⟩⟩
  have ht13 := Kp.tr hk12 hA hB
  replace hH := Hp.kp hH hk12
  replace h_c := Sl.tr h_c ht13
  replace h_cals := Sl.tr h_cals ht13
  replace h_shares := Sl.tr h_shares ht13
  replace hK := Tr.trans hK ht13
  replace hB := Nat.le_trans hB ht13.ex.size
  replace hA := ht13.new
  refine V_y (Y_assign rfl) rfl rfl rfl ?_
  refine V_to (fun _ _ => rfl) ?_
  refine C_seq ?_
  refine C_region ?_
  obtain ⟨v14, h16, h15⟩ := El_level_Clock h11
  refine V_y (Y_loadA h16 Try.isAgg35 Try.sizeOf35 rfl) rfl rfl rfl ?_
  refine V_y (Y_move rfl) rfl rfl rfl ?_
  refine V_y (Y_move rfl) rfl rfl rfl ?_
  obtain ⟨x17, hx17, hm⟩ := Option.bind_eq_some_iff.1 hm
  refine V_call Try.call22 rfl rfl rfl rfl (level_Warnings_c w9 hA c v14 h15 cals v_cals h_cals shares v_shares h_shares hx17) ?_
  rintro _ w20 ⟨v18, rfl, h19, hk21⟩
  obtain ⟨A22, ht23, hH24⟩ := Hp.addOwnd hH hB hA hk21 h19
  replace h_cals := Sl.tr h_cals ht23
  replace h_shares := Sl.tr h_shares ht23
  replace h11 := El.tr h11 ht23
  replace h15 := Sl.tr h15 ht23
  replace hK := Tr.trans hK ht23
  replace hB := Nat.le_trans hB ht23.ex.size
  replace hA := ht23.new
  replace hH : Hp w.heap.size A22 w20 (obS (α := Int) 3 v18 x17.1 :: []) := hH24
  refine V_y (Y_move rfl) rfl rfl rfl ?_
  refine V_y (Y_extract rfl rfl) rfl rfl rfl ?_
  refine V_y (Y_extract rfl rfl) rfl rfl rfl ?_
  refine V_y (Y_assign rfl) rfl rfl rfl ?_
  refine V_y (Y_assign rfl) rfl rfl rfl ?_
  refine V_to (fun _ _ => rfl) ?_
  refine C_seq ?_
  refine C_region ?_
  obtain ⟨v25, h27, h26⟩ := El_level_Clock h11
  refine V_y (Y_loadA h27 Try.isAgg35 Try.sizeOf35 rfl) rfl rfl rfl ?_
  refine V_y (Y_move rfl) rfl rfl rfl ?_
  refine V_y (Y_move rfl) rfl rfl rfl ?_
  obtain ⟨x28, hx28, hm⟩ := Option.bind_eq_some_iff.1 hm
  refine V_call Try.call23 rfl rfl rfl rfl (portref2_WarningsOf_c w20 hA c v25 h26 cals v_cals h_cals shares v_shares h_shares hx28) ?_
  rintro _ w31 ⟨v29, rfl, h30, hk32⟩
  obtain ⟨A33, ht34, hH35⟩ := Hp.addOwnd hH hB hA hk32 h30
  replace h_cals := Sl.tr h_cals ht34
  replace h_shares := Sl.tr h_shares ht34
  replace h11 := El.tr h11 ht34
  replace h26 := Sl.tr h26 ht34
  replace hK := Tr.trans hK ht34
  replace hB := Nat.le_trans hB ht34.ex.size
  replace hA := ht34.new
  replace hH : Hp w.heap.size A33 w31 (obS (α := Int) 3 v29 x28.1 :: obS (α := Int) 3 v18 x17.1 :: []) := hH35
  refine V_y (Y_move rfl) rfl rfl rfl ?_
  refine V_y (Y_extract rfl rfl) rfl rfl rfl ?_
  refine V_y (Y_extract rfl rfl) rfl rfl rfl ?_
  refine V_y (Y_assign rfl) rfl rfl rfl ?_
  refine V_y (Y_assign rfl) rfl rfl rfl ?_
  refine V_to (fun _ _ => rfl) ?_
  refine C_seq ?_
  obtain ⟨s37, ho36, hm⟩ := Option.bind_eq_some_iff.1 hm
  refine C_cutG (ι := (Nat → Prop)) (fun (A42 : (Nat → Prop)) => [(6, .bool s37)]) (fun (A42 : (Nat → Prop)) => fun w' => Hp w.heap.size A42 w' (obS (α := Int) 3 v29 x28.1 :: obS (α := Int) 3 v18 x17.1 :: []) ∧ Tr w.heap.size A33 w31 A42 w') ?_ ?_
  · have hr38 : Tr w.heap.size A33 w31 A33 w31 := Tr.refl hA
    refine C_region ?_
    refine V_y (Y_move rfl) rfl rfl rfl ?_
    refine V_y (Y_move rfl) rfl rfl rfl ?_
    refine V_y (Y_eql rfl rfl) rfl rfl rfl ?_
    refine V_y (Y_move rfl) rfl rfl rfl ?_
    rcases Bool.eq_false_or_eq_true (x17.2 == x28.2) with hc44 | hc44
    · rw [if_pos hc44] at ho36
      refine V_ge rfl rfl rfl hc44 ?_
      refine V_y (Y_move rfl) rfl rfl rfl ?_
      refine V_ge rfl rfl rfl hc44 ?_
      refine V_y (Y_move rfl) rfl rfl rfl ?_
      refine V_ge rfl rfl rfl hc44 ?_
      obtain ⟨x45, hx45, ho36⟩ := Option.bind_eq_some_iff.1 ho36
      refine V_call Try.call24 rfl rfl rfl rfl (slices_Equal_Lint_int_c w31 (A := fun _ => True) (fun _ _ => trivial) x17.1 v18 (Hp.any (α := Int) (e := 3) (v := v18) (l := x17.1) hH (i := 1) rfl) x28.1 v29 (Hp.any (α := Int) (e := 3) (v := v29) (l := x28.1) hH (i := 0) rfl) hx45) ?_
      rintro _ w46 ⟨rfl, hk47⟩
      have ht48 := Kp.tr hk47 hA hB
      replace hH := Hp.kp hH hk47
      replace hK := Tr.trans hK ht48
      replace hr38 := Tr.trans hr38 ht48
      replace hB := Nat.le_trans hB ht48.ex.size
      replace hA := ht48.new
      refine V_y (Y_pick_te rfl hc44 rfl) rfl rfl rfl ?_
      refine V_y (Y_assign rfl) rfl rfl rfl ?_
      obtain rfl := Option.some.inj ho36
      refine V_end (fun a ha49 => ?_)
      exact ⟨A33, ha49.sub ⟨rfl, trivial⟩, ⟨hH, hr38⟩⟩
    · rw [if_neg (nt hc44)] at ho36
      refine V_gn rfl rfl rfl hc44 rfl rfl rfl ?_
      refine V_gn rfl rfl rfl hc44 rfl rfl rfl ?_
      refine V_gn rfl rfl rfl hc44 rfl rfl rfl ?_
      refine V_y (Y_pick_fe rfl hc44 rfl) rfl rfl rfl ?_
      refine V_y (Y_assign rfl) rfl rfl rfl ?_
      obtain rfl := Option.some.inj ho36
      refine V_end (fun a ha50 => ?_)
      exact ⟨A33, ha50.sub ⟨rfl, trivial⟩, ⟨hH, hr38⟩⟩
  rintro A42 w39 ⟨hH43, hk40⟩ a ha41
  replace hK := Tr.trans hK hk40
  replace hB := Nat.le_trans hB hk40.ex.size
  replace hA := hk40.new
  replace hH : Hp w.heap.size A42 w39 (obS (α := Int) 3 v29 x28.1 :: obS (α := Int) 3 v18 x17.1 :: []) := hH43
  refine C_at (n := ⟨33, [], none⟩) (fun _ _ => rfl) ?_ ha41
  obtain rfl := Option.some.inj hm
  refine C_ret ?_
  try simp only [↓inBlock_ret, ↓then_ret]
  exact retQ rfl (Res.one Try.results8 rfl) ⟨rfl, hK.kp⟩

end Go.Proofs.Ytpfoimbklbkcpaa.W
