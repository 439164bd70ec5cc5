import Derived.Test.YtabkhhpkibbheaaClockRanksW4
namespace Go.Proofs.Ytabkhhpkibbheaa.W
open Go Go.RowKit Go.Pu Go.Gw Go.Proofs Go.Proofs.Ytabkhhpkibbheaa.M
set_option linter.unusedVariables false
set_option linter.unusedSimpArgs false
variable {Dw : Prop}
set_option maxRecDepth 4000 in
set_option maxHeartbeats 4000000 in
theorem portref2_meter_first_c (w : World) {A : Nat → Prop} {B : Nat} (hB : B ≤ w.heap.size) (hA : ∀ b, w.heap.size ≤ b → A b) (x : portref2_meter) (b_x : Nat) (v_x : Value) (c : level_Clock) (v_c : Value) (h_c : Sl A w v_c c.pieces) (amount : Int) {L : List Ob} (hH : Hp B A w (obC b_x [v_x] 75 :: obPS (obCk 102 portref2_ShiftsIn) 76 v_x x.clocks :: L)) {r : Int} (hm : portref2_meter_first x c amount = some r) : Ret Try.prog 42 #[.pointer (some ⟨b_x, 0, none⟩), .agg #[.int .i64 c.kind, .int .i64 c.level, .int .i64 c.minutes, .int .i64 c.start, .int .i64 c.stop, .int .i64 c.end_, v_c], .int .i64 amount] w fun v w' => ∃ A1 : Nat → Prop, v = .int .i64 r ∧ Hp B A1 w' (obC b_x [v_x] 75 :: obPS (obCk 102 portref2_ShiftsIn) 76 v_x x.clocks :: L) ∧ Tr Dw B A w A1 w' := by
 unfold portref2_meter_first at hm
 refine enter Try.func42 rfl Try.ntmps42 rfl ?_
 have hK : Tr Dw B A w A w := Tr.refl (Dw := Dw) hA
 refine C_seq ?_
 refine C_region ?_
 refine V_box rfl rfl ?_
 intro b5 w6 h7
 have hk9 := h7.kp (Dw := Dw)
 have h8 : El (α := level_Clock) A w6 b5 0 c := h7.el hA ⟨[.int .i64 c.kind], _, rfl, rfl, ⟨[.int .i64 c.level], _, rfl, rfl, ⟨[.int .i64 c.minutes], _, rfl, rfl, ⟨[.int .i64 c.start], _, rfl, rfl, ⟨[.int .i64 c.stop], _, rfl, rfl, ⟨[.int .i64 c.end_], _, rfl, rfl, ⟨_, rfl, h_c⟩⟩⟩⟩⟩⟩⟩
 have ht10 := Kp.tr (Dw := Dw) hk9 hA hB
 replace hH := Hp.kp (Dw := Dw) hH hk9
 replace hK := Tr.trans (Dw := Dw) hK ht10
 replace hB := Nat.le_trans hB ht10.ex.size
 replace hA := ht10.new
 refine V_y (Y_assign rfl) rfl rfl rfl ?_
 refine V_to (fun _ _ => rfl) ?_
 refine C_seq ?_
 refine C_region_q (Dw := Dw) Try_mixed (by kernel_rfl) ?_
 have h11 := El_level_Clock_3 h8
 refine VQ_y (fun w' hw' => Y_fieldAddr Try.underlying37 rfl Try.sizeOf3 (by decide) rfl) rfl rfl rfl ?_
 refine VQ_y (fun w' hw' => Y_load (El.int (El.kp (Dw := Dw) h11 hw')) Try.isAgg3 rfl) rfl rfl rfl ?_
 refine VQ_y (fun w' hw' => Y_assign rfl) rfl rfl rfl ?_
 refine VQ_y (fun w' hw' => Y_assign rfl) rfl rfl rfl ?_
 refine VQ_to (fun _ _ => rfl) (fun w12 hk13 => ?_)
 have ht14 := Kp.tr (Dw := Dw) hk13 hA hB
 replace hH := Hp.kp (Dw := Dw) hH hk13
 replace h8 := El.tr (Dw := Dw) h8 ht14
 replace hK := Tr.trans (Dw := Dw) hK ht14
 replace hB := Nat.le_trans hB ht14.ex.size
 replace hA := ht14.new
 refine C_seq ?_
 obtain ⟨o15, ho15, hm⟩ := Option.bind_eq_some_iff.1 hm
 refine C_cutG (ι := ((Int × Int) × (Nat → Prop))) (fun ⟨s16, A22⟩ => [(8, .int .i64 s16.2)]) (fun ⟨s16, A22⟩ => fun w' => o15 = .fin s16 ∧ Hp B A22 w' (obC b_x [v_x] 75 :: obPS (obCk 102 portref2_ShiftsIn) 76 v_x x.clocks :: L) ∧ Tr Dw B A w12 A22 w') ?_ ?_
 ·refine C_block ?_
  refine C_while ho15 (fun s24 a w' => ∃ i : (Nat → Prop), Has ⟨59, [], none⟩ a ([(0, .pointer (some ⟨b_x, 0, none⟩)), (2, .int .i64 amount), (4, .pointer (some ⟨b5, 0, none⟩)), (7, .int .i64 s24.1), (8, .int .i64 s24.2)]) ∧ Hp B i w' (obC b_x [v_x] 75 :: obPS (obCk 102 portref2_ShiftsIn) 76 v_x x.clocks :: L) ∧ Tr Dw B A w12 i w') (fun a ha => ⟨A, ha.sub ⟨rfl, rfl, rfl, rfl, rfl, trivial⟩, ⟨hH, Tr.refl (Dw := Dw) hA⟩⟩) ?_
  rintro K s24 a w25 ⟨A26, ha184, hH27, hr17⟩ K34
  refine C_of ?_ ha184
  replace h8 := El.tr (Dw := Dw) h8 hr17
  replace hK := Tr.trans (Dw := Dw) hK hr17
  replace hB := Nat.le_trans hB hr17.ex.size
  replace hA := hr17.new
  replace hH : Hp B A26 w25 (obC b_x [v_x] 75 :: obPS (obCk 102 portref2_ShiftsIn) 76 v_x x.clocks :: L) := hH27
  obtain ⟨x28, h29, h30⟩ := K34
  refine C_seq ?_
  refine C_seq ?_
  refine C_region ?_
  refine V_y (Y_move rfl) rfl rfl rfl ?_
  refine V_y (Y_leq rfl rfl) rfl rfl rfl ?_
  refine V_to (fun _ _ => rfl) ?_
  refine C_cond rfl (fun hc35 => ?_) (fun hc35 => ?_)
  ·rw [if_pos hc35] at h29
   refine C_skip_to (fun _ _ => rfl) ?_
   refine C_seq ?_
   obtain ⟨o36, ho36, h29⟩ := Option.bind_eq_some_iff.1 h29
   refine C_cutG (ι := (Int × (Nat → Prop))) (fun ⟨s37, A42⟩ => [(0, .pointer (some ⟨b_x, 0, none⟩)), (2, .int .i64 amount), (4, .pointer (some ⟨b5, 0, none⟩)), (7, .int .i64 s37), (8, .int .i64 s24.2)]) (fun ⟨s37, A42⟩ => fun w' => o36 = .fin s37 ∧ Hp B A42 w' (obC b_x [v_x] 75 :: obPS (obCk 102 portref2_ShiftsIn) 76 v_x x.clocks :: L) ∧ Tr Dw B A26 w25 A42 w') ?_ ?_
   ·have hr38 : Tr Dw B A26 w25 A26 w25 := Tr.refl (Dw := Dw) hA
    refine C_block ?_
    refine C_seq ?_
    refine C_seq ?_
    refine C_region ?_
    refine V_y (Y_move rfl) rfl rfl rfl ?_
    refine V_y (Y_move rfl) rfl rfl rfl ?_
    refine V_y (Y_geq rfl rfl) rfl rfl rfl ?_
    refine V_to (fun _ _ => rfl) ?_
    refine C_cond rfl (fun hc44 => ?_) (fun hc44 => ?_)
    ·rw [if_pos hc44] at ho36
     refine C_seq ?_
     refine C_region ?_
     refine V_y (Y_move rfl) rfl rfl rfl ?_
     refine V_y (Y_assign rfl) rfl rfl rfl ?_
     refine V_to (fun _ _ => rfl) ?_
     obtain rfl := Option.some.inj ho36
     rw [Lp.andThen_rt] at h29
     obtain rfl := Option.some.inj h29
     obtain rfl := (h30 : Lp.rt _ = _)
     rw [Lp.andThen_rt] at hm
     obtain rfl := Option.some.inj hm
     refine C_ret ?_
     try simp only [↓inBlock_ret, ↓then_ret]
     exact retQ rfl (Res.one Try.results42 rfl) ⟨A26, rfl, hH, hK⟩
    ·rw [if_neg (nt hc44)] at ho36
     refine C_skip_to (fun _ _ => rfl) ?_
     refine C_seq ?_
     refine C_region ?_
     have h45 := El_level_Clock_6 h8
     refine V_y (Y_fieldAddr Try.underlying37 rfl Try.sizeOf35 (by decide) rfl) rfl rfl rfl ?_
     obtain ⟨v46, h47, h48⟩ := El.list h45
     refine V_y (Y_load h47 Try.isAgg35 rfl) rfl rfl rfl ?_
     refine V_y (Y_lenSl h48 rfl Try.underlying35 rfl) rfl rfl rfl ?_
     refine V_y (Y_move rfl) rfl rfl rfl ?_
     refine V_to (fun _ _ => rfl) ?_
     have hn69 := Sl.le h48
     obtain ⟨o49, ho49, ho36⟩ := Option.bind_eq_some_iff.1 ho36
     refine C_cutG (ι := (Int × (Nat → Prop))) (fun ⟨s50, A56⟩ => [(0, .pointer (some ⟨b_x, 0, none⟩)), (2, .int .i64 amount), (4, .pointer (some ⟨b5, 0, none⟩)), (7, .int .i64 s50), (8, .int .i64 s24.2)]) (fun ⟨s50, A56⟩ => fun w' => o49 = .fin s50 ∧ Hp B A56 w' (obC b_x [v_x] 75 :: obPS (obCk 102 portref2_ShiftsIn) 76 v_x x.clocks :: L) ∧ Tr Dw B A26 w25 A56 w') ?_ ?_
     ·refine C_block ?_
      refine C_range ho49 (fun k52 s58 a w' => ∃ i : (Nat → Prop), Has ⟨59, [], none⟩ a ([(0, .pointer (some ⟨b_x, 0, none⟩)), (2, .int .i64 amount), (4, .pointer (some ⟨b5, 0, none⟩)), (7, .int .i64 s58), (8, .int .i64 s24.2), (22, v46), (23, .int .i64 (c.pieces.length : Int)), (24, .int .i64 (k52 : Int))]) ∧ Hp B i w' (obC b_x [v_x] 75 :: obPS (obCk 102 portref2_ShiftsIn) 76 v_x x.clocks :: L) ∧ Tr Dw B A26 w25 i w') (fun a ha => ⟨A26, ha.sub ⟨rfl, rfl, rfl, rfl, rfl, rfl, rfl, rfl, trivial⟩, ⟨hH, Tr.refl (Dw := Dw) hA⟩⟩) ?_
      rintro K k52 s58 a w59 ⟨A60, ha180, hH61, hr51⟩ hle65 K68 h67
      refine C_of ?_ ha180
      replace h48 := Sl.tr (Dw := Dw) h48 hr51
      replace hB := Nat.le_trans hB hr51.ex.size
      replace hA := hr51.new
      replace hH : Hp B A60 w59 (obC b_x [v_x] 75 :: obPS (obCk 102 portref2_ShiftsIn) 76 v_x x.clocks :: L) := hH61
      refine C_seq (C_region (V_y (Y_lss rfl rfl) rfl rfl rfl (V_to (fun _ _ => rfl) ?_)))
      refine C_seq ?_
      refine C_cond rfl (fun hc70 => ?_) (fun hc70 => ?_)
      ·have hlt66 := lt_of_dec hc70
       obtain ⟨x62, h63, h64⟩ := K68 hlt66
       refine C_skip_to (fun _ _ => rfl) ?_
       refine C_seq ?_
       obtain ⟨s72, ho71, h63⟩ := Option.bind_eq_some_iff.1 h63
       refine C_cutG (ι := (Nat → Prop)) (fun (A77 : (Nat → Prop)) => [(0, .pointer (some ⟨b_x, 0, none⟩)), (2, .int .i64 amount), (4, .pointer (some ⟨b5, 0, none⟩)), (7, .int .i64 s72), (8, .int .i64 s24.2), (22, v46), (23, .int .i64 (c.pieces.length : Int)), (24, .int .i64 (k52 : Int))]) (fun (A77 : (Nat → Prop)) => fun w' => Hp B A77 w' (obC b_x [v_x] 75 :: obPS (obCk 102 portref2_ShiftsIn) 76 v_x x.clocks :: L) ∧ Tr Dw B A60 w59 A77 w') ?_ ?_
       ·have hr73 : Tr Dw B A60 w59 A60 w59 := Tr.refl (Dw := Dw) hA
        refine C_block ?_
        refine C_seq ?_
        refine C_region ?_
        obtain ⟨x79, hx79, ho71⟩ := Option.bind_eq_some_iff.1 ho71
        refine V_indexAddr h48 hx79 Try.underlying35 Try.sizeOf62 rfl rfl rfl ?_
        intro b80 o81 h82
        obtain ⟨h83, _⟩ := El_level_Piece h82
        refine V_y (Y_loadA h83 Try.isAgg62 Try.sizeOf62 rfl) rfl rfl rfl ?_
        refine V_alloc Try.zeroValue62 rfl ?_
        intro b84 w85 h86
        refine V_storeNew h86 Try.sizeOf62 rfl rfl rfl rfl (by exact (List.forall_mem_cons.2 ⟨rfl, (List.forall_mem_cons.2 ⟨rfl, (List.forall_mem_cons.2 ⟨rfl, (fun _ h => nomatch h)⟩)⟩)⟩)) ?_
        intro w87 h88
        have hk90 := h88.kp (Dw := Dw)
        have h89 : El (α := level_Piece) A60 w87 b84 0 x79 := h88.el hA ⟨[.int .i64 x79.from_], _, rfl, rfl, ⟨[.int .i64 x79.to_], _, rfl, rfl, rfl⟩⟩
        have ht91 := Kp.tr (Dw := Dw) hk90 hA hB
        replace hH := Hp.kp (Dw := Dw) hH hk90
        replace hr73 := Tr.trans (Dw := Dw) hr73 ht91
        replace hB := Nat.le_trans hB ht91.ex.size
        replace hA := ht91.new
        refine V_to (fun _ _ => rfl) ?_
        refine C_seq ?_
        obtain ⟨s93, ho92, ho71⟩ := Option.bind_eq_some_iff.1 ho71
        refine C_cutG (ι := (Nat → Prop)) (fun (A98 : (Nat → Prop)) => [(0, .pointer (some ⟨b_x, 0, none⟩)), (2, .int .i64 amount), (4, .pointer (some ⟨b5, 0, none⟩)), (7, .int .i64 s58), (8, .int .i64 s24.2), (22, v46), (23, .int .i64 (c.pieces.length : Int)), (24, .int .i64 (k52 : Int)), (54, .bool s93)]) (fun (A98 : (Nat → Prop)) => fun w' => Hp B A98 w' (obC b_x [v_x] 75 :: obPS (obCk 102 portref2_ShiftsIn) 76 v_x x.clocks :: L) ∧ Tr Dw B A60 w87 A98 w') ?_ ?_
        ·have hr94 : Tr Dw B A60 w87 A60 w87 := Tr.refl (Dw := Dw) hA
         refine C_region_qt (Dw := Dw) 25 Try_mixed (by kernel_rfl) ?_
         simp only [List.take, List.drop]
         have h100 := El_level_Piece_0 h89
         refine VQ_y (fun w' hw' => Y_fieldAddr Try.underlying62 rfl Try.sizeOf3 (by decide) rfl) rfl rfl rfl ?_
         refine VQ_y (fun w' hw' => Y_load (El.int (El.kp (Dw := Dw) h100 hw')) Try.isAgg3 rfl) rfl rfl rfl ?_
         refine VQ_y (fun w' hw' => Y_move rfl) rfl rfl rfl ?_
         refine VQ_y (fun w' hw' => Y_leq rfl rfl) rfl rfl rfl ?_
         refine VQ_y (fun w' hw' => Y_move rfl) rfl rfl rfl ?_
         rcases Bool.eq_false_or_eq_true (decide (x79.from_ ≤ s24.2)) with hc101 | hc101
         ·rw [if_pos hc101] at ho92
          refine VQ_ge rfl rfl rfl hc101 ?_
          have h102 := El_level_Piece_1 h89
          refine VQ_y (fun w' hw' => Y_fieldAddr Try.underlying62 rfl Try.sizeOf3 (by decide) rfl) rfl rfl rfl ?_
          refine VQ_ge rfl rfl rfl hc101 ?_
          refine VQ_y (fun w' hw' => Y_load (El.int (El.kp (Dw := Dw) h102 hw')) Try.isAgg3 rfl) rfl rfl rfl ?_
          refine VQ_ge rfl rfl rfl hc101 ?_
          refine VQ_y (fun w' hw' => Y_lss rfl rfl) rfl rfl rfl ?_
          refine VQ_ge rfl rfl rfl hc101 ?_
          refine VQ_y (fun w' hw' => Y_move rfl) rfl rfl rfl ?_
          rcases Bool.eq_false_or_eq_true (decide (x79.to_ < 0)) with hc103 | hc103
          ·rw [if_pos hc103] at ho92
           refine VQ_gn rfl rfl rfl hc103 rfl rfl rfl ?_
           refine VQ_gn rfl rfl rfl hc103 rfl rfl rfl ?_
           refine VQ_gn rfl rfl rfl hc103 rfl rfl rfl ?_
           refine VQ_gn rfl rfl rfl hc103 rfl rfl rfl ?_
           refine VQ_ge rfl rfl rfl hc101 ?_
           refine VQ_y (fun _ _ => Y_pick_te rfl hc103 rfl) rfl rfl rfl ?_
           refine VQ_y (fun _ _ => Y_pick_te rfl hc101 rfl) rfl rfl rfl ?_
           refine VQ_y (fun w' hw' => Y_move rfl) rfl rfl rfl ?_
           rcases Bool.eq_false_or_eq_true (true) with hc104 | hc104
           ·rw [if_pos hc104] at ho92
            refine VQ_ge rfl rfl rfl hc104 ?_
            refine VQ_y (fun w' hw' => Y_move rfl) rfl rfl rfl ?_
            refine VQ_ge rfl rfl rfl hc104 ?_
            refine VQ_y (fun w' hw' => Y_nilCheck rfl) rfl rfl rfl ?_
            refine VQ_ge rfl rfl rfl hc104 ?_
            refine VQ_y (fun w' hw' => Y_fieldAddrC (off2 := 0) Try.underlying75 rfl Try.sizeOf73 (by decide) rfl rfl) rfl rfl rfl ?_
            refine VQ_ge rfl rfl rfl hc104 ?_
            refine VQ_y (fun w' hw' => Y_load ((World.cell?_of_block (hw'.block _ (World.block_lt_of_cell? _ _ (Hp.cell (j := 0) hH (i := 0) rfl rfl)))).trans (Hp.cell (j := 0) hH (i := 0) rfl rfl)) Try.isAgg73 rfl) rfl rfl rfl ?_
            refine VQ_ge rfl rfl rfl hc104 ?_
            have h105 := El_level_Piece_2 h89
            refine VQ_y (fun w' hw' => Y_fieldAddr Try.underlying62 rfl Try.sizeOf3 (by decide) rfl) rfl rfl rfl ?_
            refine VQ_ge rfl rfl rfl hc104 ?_
            refine VQ_y (fun w' hw' => Y_load (El.int (El.kp (Dw := Dw) h105 hw')) Try.isAgg3 rfl) rfl rfl rfl ?_
            refine VQ_ge rfl rfl rfl hc104 ?_
            obtain ⟨x106, hx106, ho92⟩ := Option.bind_eq_some_iff.1 ho92
            refine VQ_indexAddrPS (f := obCk 102 portref2_ShiftsIn) (e := 76) (v := v_x) (cs := x.clocks) hH (i := 1) rfl hx106 Try.underlying73 Try.sizeOf76 rfl rfl rfl ?_
            intro b107 o108 b110 hk111 h109 hH
            replace hH : Hp B A60 w87 (obCk 102 portref2_ShiftsIn b110 x106 :: obC b_x [v_x] 75 :: obPX (obCk 102 portref2_ShiftsIn) 76 v_x x.clocks (Int.toNat x79.calendar) b110 :: L) := hH
            refine VQ_ge rfl rfl rfl hc104 ?_
            refine VQ_y (fun w' hw' => Y_load ((World.cell?_of_block (hw'.block _ (World.block_lt_of_cell? _ _ (h109)))).trans (h109)) Try.isAgg76 rfl) rfl rfl rfl ?_
            refine VQ_ge rfl rfl rfl hc104 ?_
            refine VQ_y (fun w' hw' => Y_move rfl) rfl rfl rfl ?_
            refine VQ_tail (fun w112 hk113 => ?_)
            try simp only [List.take, List.drop]
            have ht114 := Kp.tr (Dw := Dw) hk113 hA hB
            replace hH := Hp.kp (Dw := Dw) hH hk113
            replace hr94 := Tr.trans (Dw := Dw) hr94 ht114
            replace hB := Nat.le_trans hB ht114.ex.size
            replace hA := ht114.new
            refine V_ge rfl rfl rfl hc104 ?_
            obtain ⟨x115, hx115, ho92⟩ := Option.bind_eq_some_iff.1 ho92
            refine V_call Try.call63 rfl rfl rfl rfl (portref2_Clock_Open_c (Dw := Dw) w112 hB hA x106 b110 s24.2 hH hx115) ?_
            rintro _ w116 ⟨A117, rfl, hH118, ht119⟩
            replace hr94 := Tr.trans (Dw := Dw) hr94 ht119
            replace hH : Hp B A117 w116 (obCk 102 portref2_ShiftsIn b110 x106 :: obC b_x [v_x] 75 :: obPX (obCk 102 portref2_ShiftsIn) 76 v_x x.clocks (Int.toNat x79.calendar) b110 :: L) := hH118
            replace hH : Hp B A117 w116 (obC b_x [v_x] 75 :: obPS (obCk 102 portref2_ShiftsIn) 76 v_x x.clocks :: L) := Hp.psBack hH (i := 1) rfl hk111
            refine V_y (Y_pick_te rfl hc104 rfl) rfl rfl rfl ?_
            obtain rfl := Option.some.inj ho92
            refine V_end (fun a ha120 => ?_)
            exact ⟨A117, ha120.sub ⟨rfl, rfl, rfl, rfl, rfl, rfl, rfl, rfl, rfl, trivial⟩, ⟨hH, hr94⟩⟩
           ·rw [if_neg (nt hc104)] at ho92
            refine VQ_gn rfl rfl rfl hc104 rfl rfl rfl ?_
            refine VQ_gn rfl rfl rfl hc104 rfl rfl rfl ?_
            refine VQ_gn rfl rfl rfl hc104 rfl rfl rfl ?_
            refine VQ_gn rfl rfl rfl hc104 rfl rfl rfl ?_
            refine VQ_gn rfl rfl rfl hc104 rfl rfl rfl ?_
            refine VQ_gn rfl rfl rfl hc104 rfl rfl rfl ?_
            refine VQ_gn rfl rfl rfl hc104 rfl rfl rfl ?_
            refine VQ_gn rfl rfl rfl hc104 rfl rfl rfl ?_
            refine VQ_gn rfl rfl rfl hc104 rfl rfl rfl ?_
            refine VQ_tail (fun w121 hk122 => ?_)
            try simp only [List.take, List.drop]
            have ht123 := Kp.tr (Dw := Dw) hk122 hA hB
            replace hH := Hp.kp (Dw := Dw) hH hk122
            replace hr94 := Tr.trans (Dw := Dw) hr94 ht123
            refine V_gn rfl rfl rfl hc104 rfl rfl rfl ?_
            refine V_y (Y_pick_fe rfl hc104 rfl) rfl rfl rfl ?_
            obtain rfl := Option.some.inj ho92
            refine V_end (fun a ha124 => ?_)
            exact ⟨A60, ha124.sub ⟨rfl, rfl, rfl, rfl, rfl, rfl, rfl, rfl, rfl, trivial⟩, ⟨hH, hr94⟩⟩
          ·rw [if_neg (nt hc103)] at ho92
           refine VQ_ge rfl rfl rfl hc103 ?_
           refine VQ_y (fun w' hw' => Y_move rfl) rfl rfl rfl ?_
           refine VQ_ge rfl rfl rfl hc103 ?_
           have h125 := El_level_Piece_1 h89
           refine VQ_y (fun w' hw' => Y_fieldAddr Try.underlying62 rfl Try.sizeOf3 (by decide) rfl) rfl rfl rfl ?_
           refine VQ_ge rfl rfl rfl hc103 ?_
           refine VQ_y (fun w' hw' => Y_load (El.int (El.kp (Dw := Dw) h125 hw')) Try.isAgg3 rfl) rfl rfl rfl ?_
           refine VQ_ge rfl rfl rfl hc103 ?_
           refine VQ_y (fun w' hw' => Y_lss rfl rfl) rfl rfl rfl ?_
           refine VQ_ge rfl rfl rfl hc101 ?_
           refine VQ_y (fun _ _ => Y_pick_fe rfl hc103 rfl) rfl rfl rfl ?_
           refine VQ_y (fun _ _ => Y_pick_te rfl hc101 rfl) rfl rfl rfl ?_
           refine VQ_y (fun w' hw' => Y_move rfl) rfl rfl rfl ?_
           rcases Bool.eq_false_or_eq_true (decide (s24.2 < x79.to_)) with hc126 | hc126
           ·rw [if_pos hc126] at ho92
            refine VQ_ge rfl rfl rfl hc126 ?_
            refine VQ_y (fun w' hw' => Y_move rfl) rfl rfl rfl ?_
            refine VQ_ge rfl rfl rfl hc126 ?_
            refine VQ_y (fun w' hw' => Y_nilCheck rfl) rfl rfl rfl ?_
            refine VQ_ge rfl rfl rfl hc126 ?_
            refine VQ_y (fun w' hw' => Y_fieldAddrC (off2 := 0) Try.underlying75 rfl Try.sizeOf73 (by decide) rfl rfl) rfl rfl rfl ?_
            refine VQ_ge rfl rfl rfl hc126 ?_
            refine VQ_y (fun w' hw' => Y_load ((World.cell?_of_block (hw'.block _ (World.block_lt_of_cell? _ _ (Hp.cell (j := 0) hH (i := 0) rfl rfl)))).trans (Hp.cell (j := 0) hH (i := 0) rfl rfl)) Try.isAgg73 rfl) rfl rfl rfl ?_
            refine VQ_ge rfl rfl rfl hc126 ?_
            have h127 := El_level_Piece_2 h89
            refine VQ_y (fun w' hw' => Y_fieldAddr Try.underlying62 rfl Try.sizeOf3 (by decide) rfl) rfl rfl rfl ?_
            refine VQ_ge rfl rfl rfl hc126 ?_
            refine VQ_y (fun w' hw' => Y_load (El.int (El.kp (Dw := Dw) h127 hw')) Try.isAgg3 rfl) rfl rfl rfl ?_
            refine VQ_ge rfl rfl rfl hc126 ?_
            obtain ⟨x128, hx128, ho92⟩ := Option.bind_eq_some_iff.1 ho92
            refine VQ_indexAddrPS (f := obCk 102 portref2_ShiftsIn) (e := 76) (v := v_x) (cs := x.clocks) hH (i := 1) rfl hx128 Try.underlying73 Try.sizeOf76 rfl rfl rfl ?_
            intro b129 o130 b132 hk133 h131 hH
            replace hH : Hp B A60 w87 (obCk 102 portref2_ShiftsIn b132 x128 :: obC b_x [v_x] 75 :: obPX (obCk 102 portref2_ShiftsIn) 76 v_x x.clocks (Int.toNat x79.calendar) b132 :: L) := hH
            refine VQ_ge rfl rfl rfl hc126 ?_
            refine VQ_y (fun w' hw' => Y_load ((World.cell?_of_block (hw'.block _ (World.block_lt_of_cell? _ _ (h131)))).trans (h131)) Try.isAgg76 rfl) rfl rfl rfl ?_
            refine VQ_ge rfl rfl rfl hc126 ?_
            refine VQ_y (fun w' hw' => Y_move rfl) rfl rfl rfl ?_
            refine VQ_tail (fun w134 hk135 => ?_)
            try simp only [List.take, List.drop]
            have ht136 := Kp.tr (Dw := Dw) hk135 hA hB
            replace hH := Hp.kp (Dw := Dw) hH hk135
            replace hr94 := Tr.trans (Dw := Dw) hr94 ht136
            replace hB := Nat.le_trans hB ht136.ex.size
            replace hA := ht136.new
            refine V_ge rfl rfl rfl hc126 ?_
            obtain ⟨x137, hx137, ho92⟩ := Option.bind_eq_some_iff.1 ho92
            refine V_call Try.call63 rfl rfl rfl rfl (portref2_Clock_Open_c (Dw := Dw) w134 hB hA x128 b132 s24.2 hH hx137) ?_
            rintro _ w138 ⟨A139, rfl, hH140, ht141⟩
            replace hr94 := Tr.trans (Dw := Dw) hr94 ht141
            replace hH : Hp B A139 w138 (obCk 102 portref2_ShiftsIn b132 x128 :: obC b_x [v_x] 75 :: obPX (obCk 102 portref2_ShiftsIn) 76 v_x x.clocks (Int.toNat x79.calendar) b132 :: L) := hH140
            replace hH : Hp B A139 w138 (obC b_x [v_x] 75 :: obPS (obCk 102 portref2_ShiftsIn) 76 v_x x.clocks :: L) := Hp.psBack hH (i := 1) rfl hk133
            refine V_y (Y_pick_te rfl hc126 rfl) rfl rfl rfl ?_
            obtain rfl := Option.some.inj ho92
            refine V_end (fun a ha142 => ?_)
            exact ⟨A139, ha142.sub ⟨rfl, rfl, rfl, rfl, rfl, rfl, rfl, rfl, rfl, trivial⟩, ⟨hH, hr94⟩⟩
           ·rw [if_neg (nt hc126)] at ho92
            refine VQ_gn rfl rfl rfl hc126 rfl rfl rfl ?_
            refine VQ_gn rfl rfl rfl hc126 rfl rfl rfl ?_
            refine VQ_gn rfl rfl rfl hc126 rfl rfl rfl ?_
            refine VQ_gn rfl rfl rfl hc126 rfl rfl rfl ?_
            refine VQ_gn rfl rfl rfl hc126 rfl rfl rfl ?_
            refine VQ_gn rfl rfl rfl hc126 rfl rfl rfl ?_
            refine VQ_gn rfl rfl rfl hc126 rfl rfl rfl ?_
            refine VQ_gn rfl rfl rfl hc126 rfl rfl rfl ?_
            refine VQ_gn rfl rfl rfl hc126 rfl rfl rfl ?_
            refine VQ_tail (fun w143 hk144 => ?_)
            try simp only [List.take, List.drop]
            have ht145 := Kp.tr (Dw := Dw) hk144 hA hB
            replace hH := Hp.kp (Dw := Dw) hH hk144
            replace hr94 := Tr.trans (Dw := Dw) hr94 ht145
            refine V_gn rfl rfl rfl hc126 rfl rfl rfl ?_
            refine V_y (Y_pick_fe rfl hc126 rfl) rfl rfl rfl ?_
            obtain rfl := Option.some.inj ho92
            refine V_end (fun a ha146 => ?_)
            exact ⟨A60, ha146.sub ⟨rfl, rfl, rfl, rfl, rfl, rfl, rfl, rfl, rfl, trivial⟩, ⟨hH, hr94⟩⟩
         ·rw [if_neg (nt hc101)] at ho92
          refine VQ_gn rfl rfl rfl hc101 rfl rfl rfl ?_
          refine VQ_gn rfl rfl rfl hc101 rfl rfl rfl ?_
          refine VQ_gn rfl rfl rfl hc101 rfl rfl rfl ?_
          refine VQ_gn rfl rfl rfl hc101 rfl rfl rfl ?_
          refine VQ_gu rfl rfl rfl rfl rfl ?_
          refine VQ_gu rfl rfl rfl rfl rfl ?_
          refine VQ_gu rfl rfl rfl rfl rfl ?_
          refine VQ_gu rfl rfl rfl rfl rfl ?_
          refine VQ_gn rfl rfl rfl hc101 rfl rfl rfl ?_
          refine VQ_y (fun _ _ => Y_pick_fe rfl hc101 rfl) rfl rfl rfl ?_
          refine VQ_y (fun w' hw' => Y_move rfl) rfl rfl rfl ?_
          rcases Bool.eq_false_or_eq_true (false) with hc147 | hc147
          ·rw [if_pos hc147] at ho92
           refine VQ_ge rfl rfl rfl hc147 ?_
           refine VQ_y (fun w' hw' => Y_move rfl) rfl rfl rfl ?_
           refine VQ_ge rfl rfl rfl hc147 ?_
           refine VQ_y (fun w' hw' => Y_nilCheck rfl) rfl rfl rfl ?_
           refine VQ_ge rfl rfl rfl hc147 ?_
           refine VQ_y (fun w' hw' => Y_fieldAddrC (off2 := 0) Try.underlying75 rfl Try.sizeOf73 (by decide) rfl rfl) rfl rfl rfl ?_
           refine VQ_ge rfl rfl rfl hc147 ?_
           refine VQ_y (fun w' hw' => Y_load ((World.cell?_of_block (hw'.block _ (World.block_lt_of_cell? _ _ (Hp.cell (j := 0) hH (i := 0) rfl rfl)))).trans (Hp.cell (j := 0) hH (i := 0) rfl rfl)) Try.isAgg73 rfl) rfl rfl rfl ?_
           refine VQ_ge rfl rfl rfl hc147 ?_
           have h148 := El_level_Piece_2 h89
           refine VQ_y (fun w' hw' => Y_fieldAddr Try.underlying62 rfl Try.sizeOf3 (by decide) rfl) rfl rfl rfl ?_
           refine VQ_ge rfl rfl rfl hc147 ?_
           refine VQ_y (fun w' hw' => Y_load (El.int (El.kp (Dw := Dw) h148 hw')) Try.isAgg3 rfl) rfl rfl rfl ?_
           refine VQ_ge rfl rfl rfl hc147 ?_
           obtain ⟨x149, hx149, ho92⟩ := Option.bind_eq_some_iff.1 ho92
           refine VQ_indexAddrPS (f := obCk 102 portref2_ShiftsIn) (e := 76) (v := v_x) (cs := x.clocks) hH (i := 1) rfl hx149 Try.underlying73 Try.sizeOf76 rfl rfl rfl ?_
           intro b150 o151 b153 hk154 h152 hH
           replace hH : Hp B A60 w87 (obCk 102 portref2_ShiftsIn b153 x149 :: obC b_x [v_x] 75 :: obPX (obCk 102 portref2_ShiftsIn) 76 v_x x.clocks (Int.toNat x79.calendar) b153 :: L) := hH
           refine VQ_ge rfl rfl rfl hc147 ?_
           refine VQ_y (fun w' hw' => Y_load ((World.cell?_of_block (hw'.block _ (World.block_lt_of_cell? _ _ (h152)))).trans (h152)) Try.isAgg76 rfl) rfl rfl rfl ?_
           refine VQ_ge rfl rfl rfl hc147 ?_
           refine VQ_y (fun w' hw' => Y_move rfl) rfl rfl rfl ?_
           refine VQ_tail (fun w155 hk156 => ?_)
           try simp only [List.take, List.drop]
           have ht157 := Kp.tr (Dw := Dw) hk156 hA hB
           replace hH := Hp.kp (Dw := Dw) hH hk156
           replace hr94 := Tr.trans (Dw := Dw) hr94 ht157
           replace hB := Nat.le_trans hB ht157.ex.size
           replace hA := ht157.new
           refine V_ge rfl rfl rfl hc147 ?_
           obtain ⟨x158, hx158, ho92⟩ := Option.bind_eq_some_iff.1 ho92
           refine V_call Try.call63 rfl rfl rfl rfl (portref2_Clock_Open_c (Dw := Dw) w155 hB hA x149 b153 s24.2 hH hx158) ?_
           rintro _ w159 ⟨A160, rfl, hH161, ht162⟩
           replace hr94 := Tr.trans (Dw := Dw) hr94 ht162
           replace hH : Hp B A160 w159 (obCk 102 portref2_ShiftsIn b153 x149 :: obC b_x [v_x] 75 :: obPX (obCk 102 portref2_ShiftsIn) 76 v_x x.clocks (Int.toNat x79.calendar) b153 :: L) := hH161
           replace hH : Hp B A160 w159 (obC b_x [v_x] 75 :: obPS (obCk 102 portref2_ShiftsIn) 76 v_x x.clocks :: L) := Hp.psBack hH (i := 1) rfl hk154
           refine V_y (Y_pick_te rfl hc147 rfl) rfl rfl rfl ?_
           obtain rfl := Option.some.inj ho92
           refine V_end (fun a ha163 => ?_)
           exact ⟨A160, ha163.sub ⟨rfl, rfl, rfl, rfl, rfl, rfl, rfl, rfl, rfl, trivial⟩, ⟨hH, hr94⟩⟩
          ·rw [if_neg (nt hc147)] at ho92
           refine VQ_gn rfl rfl rfl hc147 rfl rfl rfl ?_
           refine VQ_gn rfl rfl rfl hc147 rfl rfl rfl ?_
           refine VQ_gn rfl rfl rfl hc147 rfl rfl rfl ?_
           refine VQ_gn rfl rfl rfl hc147 rfl rfl rfl ?_
           refine VQ_gn rfl rfl rfl hc147 rfl rfl rfl ?_
           refine VQ_gn rfl rfl rfl hc147 rfl rfl rfl ?_
           refine VQ_gn rfl rfl rfl hc147 rfl rfl rfl ?_
           refine VQ_gn rfl rfl rfl hc147 rfl rfl rfl ?_
           refine VQ_gn rfl rfl rfl hc147 rfl rfl rfl ?_
           refine VQ_tail (fun w164 hk165 => ?_)
           try simp only [List.take, List.drop]
           have ht166 := Kp.tr (Dw := Dw) hk165 hA hB
           replace hH := Hp.kp (Dw := Dw) hH hk165
           replace hr94 := Tr.trans (Dw := Dw) hr94 ht166
           refine V_gn rfl rfl rfl hc147 rfl rfl rfl ?_
           refine V_y (Y_pick_fe rfl hc147 rfl) rfl rfl rfl ?_
           obtain rfl := Option.some.inj ho92
           refine V_end (fun a ha167 => ?_)
           exact ⟨A60, ha167.sub ⟨rfl, rfl, rfl, rfl, rfl, rfl, rfl, rfl, rfl, trivial⟩, ⟨hH, hr94⟩⟩
        rintro A98 w95 ⟨hH99, hk96⟩ a ha97
        replace hr73 := Tr.trans (Dw := Dw) hr73 hk96
        replace hA := hk96.new
        replace hH : Hp B A98 w95 (obC b_x [v_x] 75 :: obPS (obCk 102 portref2_ShiftsIn) 76 v_x x.clocks :: L) := hH99
        refine C_at (n := ⟨59, [], none⟩) (fun _ _ => rfl) ?_ ha97
        obtain ⟨s169, ho168, ho71⟩ := Option.bind_eq_some_iff.1 ho71
        refine C_cutG (ι := Unit) (fun (_ : Unit) => [(0, .pointer (some ⟨b_x, 0, none⟩)), (2, .int .i64 amount), (4, .pointer (some ⟨b5, 0, none⟩)), (7, .int .i64 s169), (8, .int .i64 s24.2), (22, v46), (23, .int .i64 (c.pieces.length : Int)), (24, .int .i64 (k52 : Int))]) (fun (_ : Unit) => fun w' => w95 = w') ?_ ?_
        ·refine C_cond rfl (fun hc174 => ?_) (fun hc174 => ?_)
         ·rw [if_pos hc174] at ho168
          refine C_region ?_
          refine V_y (Y_move rfl) rfl rfl rfl ?_
          refine V_y (Y_addI rfl rfl) rfl rfl rfl ?_
          refine V_y (Y_assign rfl) rfl rfl rfl ?_
          obtain rfl := Option.some.inj ho168
          refine V_end (fun a ha175 => ?_)
          exact ⟨(), ha175.sub ⟨rfl, rfl, rfl, rfl, rfl, rfl, rfl, rfl, trivial⟩, rfl⟩
         ·rw [if_neg (nt hc174)] at ho168
          obtain rfl := Option.some.inj ho168
          refine C_skip (fun a ha176 => ?_)
          exact ⟨(), ha176.sub ⟨rfl, rfl, rfl, rfl, rfl, rfl, rfl, rfl, trivial⟩, rfl⟩
        rintro _ _ rfl a ha173
        obtain rfl := Option.some.inj ho71
        exact ⟨A98, ha173.sub ⟨rfl, rfl, rfl, rfl, rfl, rfl, rfl, rfl, trivial⟩, ⟨hH, hr73⟩⟩
       rintro A77 w74 ⟨hH78, hk75⟩ a ha76
       replace hr51 := Tr.trans (Dw := Dw) hr51 hk75
       replace hA := hk75.new
       replace hH : Hp B A77 w74 (obC b_x [v_x] 75 :: obPS (obCk 102 portref2_ShiftsIn) 76 v_x x.clocks :: L) := hH78
       refine C_at (n := ⟨59, [], none⟩) (fun _ _ => rfl) ?_ ha76
       refine C_region ?_
       refine V_y (Y_addI rfl rfl) rfl rfl rfl ?_
       refine V_y (Y_move rfl) rfl rfl rfl ?_
       obtain rfl := Option.some.inj h63
       refine V_end (fun a ha178 => ?_)
       exact ⟨s72, hlt66, h64, ⟨A77, ha178.sub ⟨rfl, rfl, rfl, rfl, rfl, rfl, rfl, (congrArg (fun z => some (Value.int .i64 z)) (w64_succ hlt66 hn69)), trivial⟩, ⟨hH, hr51⟩⟩⟩
      ·refine C_exit (fun a ha179 => ?_)
       exact ⟨(s58, A60), ha179.sub ⟨rfl, rfl, rfl, rfl, rfl, trivial⟩, ⟨(h67 (eq_of_dec hle65 hc70)).symm, hH, hr51⟩⟩
     rintro ⟨s50, A56⟩ w53 ⟨rfl, hH57, hk54⟩ a ha55
     rw [Lp.andThen_fin] at ho36
     replace hr38 := Tr.trans (Dw := Dw) hr38 hk54
     replace hA := hk54.new
     replace hH : Hp B A56 w53 (obC b_x [v_x] 75 :: obPS (obCk 102 portref2_ShiftsIn) 76 v_x x.clocks :: L) := hH57
     obtain rfl := Option.some.inj ho36
     exact ⟨(s50, A56), ha55.sub ⟨rfl, rfl, rfl, rfl, rfl, trivial⟩, ⟨rfl, hH, hr38⟩⟩
   rintro ⟨s37, A42⟩ w39 ⟨rfl, hH43, hk40⟩ a ha41
   rw [Lp.andThen_fin] at h29
   replace hr17 := Tr.trans (Dw := Dw) hr17 hk40
   replace hA := hk40.new
   replace hH : Hp B A42 w39 (obC b_x [v_x] 75 :: obPS (obCk 102 portref2_ShiftsIn) 76 v_x x.clocks :: L) := hH43
   refine C_at (n := ⟨59, [], none⟩) (fun _ _ => rfl) ?_ ha41
   refine C_region ?_
   refine V_y (Y_move rfl) rfl rfl rfl ?_
   refine V_y (Y_addI rfl rfl) rfl rfl rfl ?_
   refine V_y (Y_assign rfl) rfl rfl rfl ?_
   obtain rfl := Option.some.inj h29
   refine V_end (fun a ha182 => ?_)
   exact ⟨(s37, w64 (s24.2 + 1)), h30, ⟨A42, ha182.sub ⟨rfl, rfl, rfl, rfl, rfl, trivial⟩, ⟨hH, hr17⟩⟩⟩
  ·rw [if_neg (nt hc35)] at h29
   obtain rfl := Option.some.inj h29
   refine C_exit (fun a ha183 => ?_)
   exact ⟨((s24.1, s24.2), A26), ha183.sub ⟨rfl, trivial⟩, ⟨h30.symm, hH, hr17⟩⟩
 rintro ⟨s16, A22⟩ w19 ⟨rfl, hH23, hk20⟩ a ha21
 rw [Lp.andThen_fin] at hm
 replace hK := Tr.trans (Dw := Dw) hK hk20
 replace hA := hk20.new
 replace hH : Hp B A22 w19 (obC b_x [v_x] 75 :: obPS (obCk 102 portref2_ShiftsIn) 76 v_x x.clocks :: L) := hH23
 refine C_at (n := ⟨59, [], none⟩) (fun _ _ => rfl) ?_ ha21
 refine C_seq ?_
 refine C_region ?_
 refine V_y (Y_move rfl) rfl rfl rfl ?_
 refine V_y (Y_assign rfl) rfl rfl rfl ?_
 refine V_to (fun _ _ => rfl) ?_
 obtain rfl := Option.some.inj hm
 refine C_ret ?_
 try simp only [↓inBlock_ret, ↓then_ret]
 exact retQ rfl (Res.one Try.results42 rfl) ⟨A22, rfl, hH, hK⟩
set_option maxRecDepth 4000 in
set_option maxHeartbeats 4000000 in
theorem portref2_meter_due_c (w : World) {A : Nat → Prop} {B : Nat} (hB : B ≤ w.heap.size) (hA : ∀ b, w.heap.size ≤ b → A b) (x : portref2_meter) (b_x : Nat) (v_x : Value) (c : level_Clock) (v_c : Value) (h_c : Sl A w v_c c.pieces) {L : List Ob} (hH : Hp B A w (obC b_x [v_x] 75 :: obPS (obCk 102 portref2_ShiftsIn) 76 v_x x.clocks :: L)) {r : Int} (hm : portref2_meter_due x c = some r) : Ret Try.prog 23 #[.pointer (some ⟨b_x, 0, none⟩), .agg #[.int .i64 c.kind, .int .i64 c.level, .int .i64 c.minutes, .int .i64 c.start, .int .i64 c.stop, .int .i64 c.end_, v_c]] w fun v w' => ∃ A1 : Nat → Prop, v = .int .i64 r ∧ Hp B A1 w' (obC b_x [v_x] 75 :: obPS (obCk 102 portref2_ShiftsIn) 76 v_x x.clocks :: L) ∧ Tr Dw B A w A1 w' := by
 unfold portref2_meter_due at hm
 refine enter Try.func23 rfl Try.ntmps23 rfl ?_
 have hK : Tr Dw B A w A w := Tr.refl (Dw := Dw) hA
 refine C_seq ?_
 refine C_region ?_
 refine V_box rfl rfl ?_
 intro b5 w6 h7
 have hk9 := h7.kp (Dw := Dw)
 have h8 : El (α := level_Clock) A w6 b5 0 c := h7.el hA ⟨[.int .i64 c.kind], _, rfl, rfl, ⟨[.int .i64 c.level], _, rfl, rfl, ⟨[.int .i64 c.minutes], _, rfl, rfl, ⟨[.int .i64 c.start], _, rfl, rfl, ⟨[.int .i64 c.stop], _, rfl, rfl, ⟨[.int .i64 c.end_], _, rfl, rfl, ⟨_, rfl, h_c⟩⟩⟩⟩⟩⟩⟩
 have ht10 := Kp.tr (Dw := Dw) hk9 hA hB
 replace hH := Hp.kp (Dw := Dw) hH hk9
 replace hK := Tr.trans (Dw := Dw) hK ht10
 replace hB := Nat.le_trans hB ht10.ex.size
 replace hA := ht10.new
 refine V_y (Y_assign rfl) rfl rfl rfl ?_
 refine V_to (fun _ _ => rfl) ?_
 refine C_seq ?_
 refine C_region ?_
 refine V_y (Y_move rfl) rfl rfl rfl ?_
 obtain ⟨v11, h13, h12⟩ := El_level_Clock h8
 refine V_y (Y_loadA h13 Try.isAgg37 Try.sizeOf37 rfl) rfl rfl rfl ?_
 have h14 := El_level_Clock_2 h8
 refine V_y (Y_fieldAddr Try.underlying37 rfl Try.sizeOf3 (by decide) rfl) rfl rfl rfl ?_
 refine V_y (Y_load (El.int h14) Try.isAgg3 rfl) rfl rfl rfl ?_
 refine V_y (Y_addI rfl rfl) rfl rfl rfl ?_
 replace hH : Hp B A w6 (obPS (obCk 102 portref2_ShiftsIn) 76 v_x x.clocks :: obC b_x [v_x] 75 :: L) := Hp.front hH (i := 1) rfl
 replace hH : Hp B A w6 (obC b_x [v_x] 75 :: obPS (obCk 102 portref2_ShiftsIn) 76 v_x x.clocks :: L) := Hp.front hH (i := 1) rfl
 obtain ⟨x15, hx15, hm⟩ := Option.bind_eq_some_iff.1 hm
 refine V_call Try.call42 rfl rfl rfl rfl (portref2_meter_first_c (Dw := Dw) w6 hB hA x b_x v_x c v11 h12 (w64 (c.minutes + 1)) hH hx15) ?_
 rintro _ w17 ⟨A18, rfl, hH19, ht20⟩
 replace hK := Tr.trans (Dw := Dw) hK ht20
 replace hH : Hp B A18 w17 (obC b_x [v_x] 75 :: obPS (obCk 102 portref2_ShiftsIn) 76 v_x x.clocks :: L) := hH19
 refine V_y (Y_subI rfl rfl) rfl rfl rfl ?_
 refine V_y (Y_assign rfl) rfl rfl rfl ?_
 refine V_to (fun _ _ => rfl) ?_
 obtain rfl := Option.some.inj hm
 refine C_ret ?_
 try simp only [↓inBlock_ret, ↓then_ret]
 exact retQ rfl (Res.one Try.results23 rfl) ⟨A18, rfl, hH, hK⟩
set_option maxRecDepth 4000 in
set_option maxHeartbeats 4000000 in
theorem portref2_NextOf_c (w : World) {A : Nat → Prop} (hA : ∀ b, w.heap.size ≤ b → A b) (l : (List level_Clock)) (v_l : Value) (h_l : Sl A w v_l l) (cals : (List cal_Calendar)) (v_cals : Value) (h_cals : Sl A w v_cals cals) (m : Int) {r : (Int × Int × Int)} (hm : portref2_NextOf l cals m = some r) : Ret Try.prog 6 #[v_l, v_cals, .int .i64 m] w fun v w' => v = .tuple #[.int .i64 r.1, .int .i64 r.2.1, .int .i64 r.2.2] ∧ Kp Dw w w' := by
 unfold portref2_NextOf at hm
 refine enter Try.func6 rfl Try.ntmps6 rfl ?_
 have hA0 := hA
 have hB := Nat.le_refl w.heap.size
 have hK : Tr Dw w.heap.size A w A w := Tr.refl (Dw := Dw) hA
 have hH : Hp w.heap.size A w [] := Hp.nil
 refine C_seq ?_
 refine C_region ?_
 refine V_y (Y_assign rfl) rfl rfl rfl ?_
 refine V_y (Y_assign rfl) rfl rfl rfl ?_
 refine V_y (Y_assign rfl) rfl rfl rfl ?_
 refine V_to (fun _ _ => rfl) ?_
 refine C_seq ?_
 refine C_seq ?_
 refine C_region ?_
 refine V_y (Y_move rfl) rfl rfl rfl ?_
 refine V_y (Y_move rfl) rfl rfl rfl ?_
 obtain ⟨x5, hx5, hm⟩ := Option.bind_eq_some_iff.1 hm
 refine V_call Try.call19 rfl rfl rfl rfl (portref2_clocksFault_c (Dw := Dw) w hA l v_l h_l cals v_cals h_cals hx5) ?_
 rintro _ w6 ⟨rfl, hk7⟩
 have ht8 := Kp.tr (Dw := Dw) hk7 hA hB
 replace hH := Hp.kp (Dw := Dw) hH hk7
 replace h_l := Sl.tr (Dw := Dw) h_l ht8
 replace h_cals := Sl.tr (Dw := Dw) h_cals ht8
 replace hK := Tr.trans (Dw := Dw) hK ht8
 replace hB := Nat.le_trans hB ht8.ex.size
 replace hA := ht8.new
 refine V_y (Y_assign rfl) rfl rfl rfl ?_
 refine V_to (fun _ _ => rfl) ?_
 refine C_seq ?_
 refine C_region ?_
 refine V_y (Y_move rfl) rfl rfl rfl ?_
 refine V_y (Y_neq rfl rfl) rfl rfl rfl ?_
 refine V_to (fun _ _ => rfl) ?_
 refine C_cond rfl (fun hc9 => ?_) (fun hc9 => ?_)
 ·rw [if_pos hc9] at hm
  refine C_seq ?_
  refine C_region ?_
  refine V_y (Y_move rfl) rfl rfl rfl ?_
  refine V_y (Y_assign rfl) rfl rfl rfl ?_
  refine V_y (Y_assign rfl) rfl rfl rfl ?_
  refine V_y (Y_assign rfl) rfl rfl rfl ?_
  refine V_to (fun _ _ => rfl) ?_
  obtain rfl := Option.some.inj hm
  refine C_ret ?_
  try simp only [↓inBlock_ret, ↓then_ret]
  exact retQ rfl (Res.three Try.results6 rfl rfl rfl) ⟨rfl, hK.kp⟩
 ·rw [if_neg (nt hc9)] at hm
  refine C_skip_to (fun _ _ => rfl) ?_
  refine C_seq ?_
  refine C_seq ?_
  refine C_region ?_
  refine V_y (Y_move rfl) rfl rfl rfl ?_
  refine V_call Try.call20 rfl rfl rfl rfl (portref2_IsMoment_c w6 m) ?_
  rintro _ _ ⟨rfl, rfl⟩
  refine V_y (Y_not rfl) rfl rfl rfl ?_
  refine V_to (fun _ _ => rfl) ?_
  refine C_cond rfl (fun hc10 => ?_) (fun hc10 => ?_)
  ·rw [if_pos hc10] at hm
   refine C_seq ?_
   refine C_region ?_
   refine V_y (Y_assign rfl) rfl rfl rfl ?_
   refine V_y (Y_assign rfl) rfl rfl rfl ?_
   refine V_y (Y_assign rfl) rfl rfl rfl ?_
   refine V_to (fun _ _ => rfl) ?_
   obtain rfl := Option.some.inj hm
   refine C_ret ?_
   try simp only [↓inBlock_ret, ↓then_ret]
   exact retQ rfl (Res.three Try.results6 rfl rfl rfl) ⟨rfl, hK.kp⟩
  ·rw [if_neg (nt hc10)] at hm
   refine C_skip_to (fun _ _ => rfl) ?_
   refine C_seq ?_
   refine C_region ?_
   refine V_y (Y_move rfl) rfl rfl rfl ?_
   obtain ⟨x11, hx11, hm⟩ := Option.bind_eq_some_iff.1 hm
   refine V_call Try.call21 rfl rfl rfl rfl (portref2_newMeter_c (Dw := Dw) w6 hB hA cals v_cals h_cals hH hx11) ?_
   rintro _ w15 ⟨b12, v13, A16, rfl, hH17, ht18⟩
   replace h_l := Sl.tr (Dw := Dw) h_l ht18
   replace hK := Tr.trans (Dw := Dw) hK ht18
   replace hB := Nat.le_trans hB ht18.ex.size
   replace hA := ht18.new
   replace hH : Hp w.heap.size A16 w15 (obC b12 [v13] 75 :: obPS (obCk 102 portref2_ShiftsIn) 76 v13 x11.clocks :: []) := hH17
   refine V_y (Y_assign rfl) rfl rfl rfl ?_
   refine V_to (fun _ _ => rfl) ?_
   refine C_seq ?_
   refine C_region ?_
   refine V_y (Y_assign rfl) rfl rfl rfl ?_
   refine V_y (Y_assign rfl) rfl rfl rfl ?_
   refine V_to (fun _ _ => rfl) ?_
   refine C_seq ?_
   refine C_seq ?_
   refine C_region ?_
   refine V_y (Y_move rfl) rfl rfl rfl ?_
   refine V_y (Y_lenSl h_l rfl Try.underlying22 rfl) rfl rfl rfl ?_
   refine V_y (Y_move rfl) rfl rfl rfl ?_
   refine V_to (fun _ _ => rfl) ?_
   have hn39 := Sl.le h_l
   obtain ⟨o19, ho19, hm⟩ := Option.bind_eq_some_iff.1 hm
   refine C_cutG (ι := ((Int × Int) × (Nat → Prop))) (fun ⟨s20, A26⟩ => [(11, .int .i64 s20.1), (12, .int .i64 s20.2)]) (fun ⟨s20, A26⟩ => fun w' => o19 = .fin s20 ∧ Hp w.heap.size A26 w' (obC b12 [v13] 75 :: obPS (obCk 102 portref2_ShiftsIn) 76 v13 x11.clocks :: []) ∧ Tr Dw w.heap.size A16 w15 A26 w') ?_ ?_
   ·refine C_block ?_
    refine C_range ho19 (fun k22 s28 a w' => ∃ i : (Nat → Prop), Has ⟨62, [], none⟩ a ([(2, .int .i64 m), (10, .pointer (some ⟨b12, 0, none⟩)), (11, .int .i64 s28.1), (12, .int .i64 s28.2), (27, v_l), (28, .int .i64 (l.length : Int)), (29, .int .i64 (k22 : Int))]) ∧ Hp w.heap.size i w' (obC b12 [v13] 75 :: obPS (obCk 102 portref2_ShiftsIn) 76 v13 x11.clocks :: []) ∧ Tr Dw w.heap.size A16 w15 i w') (fun a ha => ⟨A16, ha.sub ⟨rfl, rfl, rfl, rfl, rfl, rfl, rfl, trivial⟩, ⟨hH, Tr.refl (Dw := Dw) hA⟩⟩) ?_
    rintro K k22 s28 a w29 ⟨A30, ha102, hH31, hr21⟩ hle35 K38 h37
    refine C_of ?_ ha102
    replace h_l := Sl.tr (Dw := Dw) h_l hr21
    replace hB := Nat.le_trans hB hr21.ex.size
    replace hA := hr21.new
    replace hH : Hp w.heap.size A30 w29 (obC b12 [v13] 75 :: obPS (obCk 102 portref2_ShiftsIn) 76 v13 x11.clocks :: []) := hH31
    refine C_seq (C_region (V_y (Y_lss rfl rfl) rfl rfl rfl (V_to (fun _ _ => rfl) ?_)))
    refine C_seq ?_
    refine C_cond rfl (fun hc40 => ?_) (fun hc40 => ?_)
    ·have hlt36 := lt_of_dec hc40
     obtain ⟨x32, h33, h34⟩ := K38 hlt36
     refine C_skip_to (fun _ _ => rfl) ?_
     refine C_seq ?_
     obtain ⟨s42, ho41, h33⟩ := Option.bind_eq_some_iff.1 h33
     refine C_cutG (ι := (Nat → Prop)) (fun (A47 : (Nat → Prop)) => [(2, .int .i64 m), (10, .pointer (some ⟨b12, 0, none⟩)), (11, .int .i64 s42.1), (12, .int .i64 s42.2), (27, v_l), (28, .int .i64 (l.length : Int)), (29, .int .i64 (k22 : Int))]) (fun (A47 : (Nat → Prop)) => fun w' => Hp w.heap.size A47 w' (obC b12 [v13] 75 :: obPS (obCk 102 portref2_ShiftsIn) 76 v13 x11.clocks :: []) ∧ Tr Dw w.heap.size A30 w29 A47 w') ?_ ?_
     ·have hr43 : Tr Dw w.heap.size A30 w29 A30 w29 := Tr.refl (Dw := Dw) hA
      refine C_block ?_
      refine C_seq ?_
      refine C_region ?_
      refine V_y (Y_move rfl) rfl rfl rfl ?_
      obtain ⟨x49, hx49, ho41⟩ := Option.bind_eq_some_iff.1 ho41
      refine V_indexAddr h_l hx49 Try.underlying22 Try.sizeOf37 rfl rfl rfl ?_
      intro b50 o51 h52
      obtain ⟨v53, h55, h54⟩ := El_level_Clock h52
      refine V_y (Y_loadA h55 Try.isAgg37 Try.sizeOf37 rfl) rfl rfl rfl ?_
      refine V_alloc Try.zeroValue37 rfl ?_
      intro b56 w57 h58
      refine V_y (Y_assign rfl) rfl rfl rfl ?_
      have h63 : (v53).oneCell' = true := by obtain ⟨_, _, e, _⟩ := Sl.form h54; rw [e]; rfl
      refine V_storeNew h58 Try.sizeOf37 rfl rfl rfl rfl (by exact (List.forall_mem_cons.2 ⟨rfl, (List.forall_mem_cons.2 ⟨rfl, (List.forall_mem_cons.2 ⟨rfl, (List.forall_mem_cons.2 ⟨rfl, (List.forall_mem_cons.2 ⟨rfl, (List.forall_mem_cons.2 ⟨rfl, (List.forall_mem_cons.2 ⟨h63, (fun _ h => nomatch h)⟩)⟩)⟩)⟩)⟩)⟩)⟩)) ?_
      intro w59 h60
      have hk65 := h60.kp (Dw := Dw)
      have h64 : El (α := level_Clock) A30 w59 b56 0 x49 := h60.el hA ⟨[.int .i64 x49.kind], _, rfl, rfl, ⟨[.int .i64 x49.level], _, rfl, rfl, ⟨[.int .i64 x49.minutes], _, rfl, rfl, ⟨[.int .i64 x49.start], _, rfl, rfl, ⟨[.int .i64 x49.stop], _, rfl, rfl, ⟨[.int .i64 x49.end_], _, rfl, rfl, ⟨_, rfl, h54⟩⟩⟩⟩⟩⟩⟩
      have ht66 := Kp.tr (Dw := Dw) hk65 hA hB
      replace hH := Hp.kp (Dw := Dw) hH hk65
      replace hr43 := Tr.trans (Dw := Dw) hr43 ht66
      replace hB := Nat.le_trans hB ht66.ex.size
      replace hA := ht66.new
      refine V_to (fun _ _ => rfl) ?_
      refine C_seq ?_
      refine C_seq ?_
      refine C_region ?_
      obtain ⟨v67, h69, h68⟩ := El_level_Clock h64
      refine V_y (Y_loadA h69 Try.isAgg37 Try.sizeOf37 rfl) rfl rfl rfl ?_
      obtain ⟨x70, hx70, ho41⟩ := Option.bind_eq_some_iff.1 ho41
      refine V_call Try.call22 rfl rfl rfl rfl (portref2_goesOn_c (Dw := Dw) w59 hA x49 v67 h68 hx70) ?_
      rintro _ w71 ⟨rfl, hk72⟩
      have ht73 := Kp.tr (Dw := Dw) hk72 hA hB
      replace hH := Hp.kp (Dw := Dw) hH hk72
      replace h64 := El.tr (Dw := Dw) h64 ht73
      replace hr43 := Tr.trans (Dw := Dw) hr43 ht73
      replace hB := Nat.le_trans hB ht73.ex.size
      replace hA := ht73.new
      refine V_y (Y_not rfl) rfl rfl rfl ?_
      refine V_to (fun _ _ => rfl) ?_
      refine C_cond rfl (fun hc74 => ?_) (fun hc74 => ?_)
      ·rw [if_pos hc74] at ho41
       obtain rfl := Option.some.inj ho41
       refine C_exit (fun a ha75 => ?_)
       exact ⟨A30, ha75.sub ⟨rfl, rfl, rfl, rfl, rfl, rfl, rfl, trivial⟩, ⟨hH, hr43⟩⟩
      ·rw [if_neg (nt hc74)] at ho41
       refine C_skip_to (fun _ _ => rfl) ?_
       refine C_seq ?_
       refine C_region ?_
       refine V_y (Y_move rfl) rfl rfl rfl ?_
       obtain ⟨v76, h78, h77⟩ := El_level_Clock h64
       refine V_y (Y_loadA h78 Try.isAgg37 Try.sizeOf37 rfl) rfl rfl rfl ?_
       replace hH : Hp w.heap.size A30 w71 (obPS (obCk 102 portref2_ShiftsIn) 76 v13 x11.clocks :: obC b12 [v13] 75 :: []) := Hp.front hH (i := 1) rfl
       replace hH : Hp w.heap.size A30 w71 (obC b12 [v13] 75 :: obPS (obCk 102 portref2_ShiftsIn) 76 v13 x11.clocks :: []) := Hp.front hH (i := 1) rfl
       obtain ⟨x79, hx79, ho41⟩ := Option.bind_eq_some_iff.1 ho41
       refine V_call Try.call23 rfl rfl rfl rfl (portref2_meter_due_c (Dw := Dw) w71 hB hA x11 b12 v13 x49 v76 h77 hH hx79) ?_
       rintro _ w80 ⟨A81, rfl, hH82, ht83⟩
       replace hr43 := Tr.trans (Dw := Dw) hr43 ht83
       replace hH : Hp w.heap.size A81 w80 (obC b12 [v13] 75 :: obPS (obCk 102 portref2_ShiftsIn) 76 v13 x11.clocks :: []) := hH82
       refine V_y (Y_addI rfl rfl) rfl rfl rfl ?_
       refine V_y (Y_assign rfl) rfl rfl rfl ?_
       refine V_to (fun _ _ => rfl) ?_
       refine C_seq ?_
       refine C_region ?_
       refine V_y (Y_move rfl) rfl rfl rfl ?_
       refine V_y (Y_move rfl) rfl rfl rfl ?_
       refine V_y (Y_gtr rfl rfl) rfl rfl rfl ?_
       refine V_y (Y_move rfl) rfl rfl rfl ?_
       refine V_cut 3 (fun _ : Unit => [(2, .int .i64 m), (10, .pointer (some ⟨b12, 0, none⟩)), (11, .int .i64 s28.1), (12, .int .i64 s28.2), (13, .int .i64 (k22 : Int)), (15, .int .i64 (w64 (x79 + 1))), (27, v_l), (28, .int .i64 (l.length : Int)), (29, .int .i64 (k22 : Int)), (47, .bool ((decide (m < (w64 (x79 + 1)))) && (decide ((w64 (x79 + 1)) ≤ 3000000))))]) (fun _ w' => w80 = w') ?_ ?_
       ·simp only [List.take, List.drop]
        rcases Bool.eq_false_or_eq_true (decide (m < (w64 (x79 + 1)))) with hc84 | hc84
        ·refine V_ge rfl rfl rfl hc84 ?_
         refine V_y (Y_move rfl) rfl rfl rfl ?_
         refine V_ge rfl rfl rfl hc84 ?_
         refine V_y (Y_leq rfl rfl) rfl rfl rfl ?_
         refine V_y (Y_pick_te rfl hc84 rfl) rfl rfl rfl ?_
         exact V_end fun a ha => ⟨(), ha.sub ⟨rfl, rfl, rfl, rfl, rfl, rfl, rfl, rfl, rfl, (by rw [hc84]; rfl), trivial⟩, rfl⟩
        ·refine V_gn rfl rfl rfl hc84 rfl rfl rfl ?_
         refine V_gn rfl rfl rfl hc84 rfl rfl rfl ?_
         refine V_y (Y_pick_fe rfl hc84 rfl) rfl rfl rfl ?_
         exact V_end fun a ha => ⟨(), ha.sub ⟨rfl, rfl, rfl, rfl, rfl, rfl, rfl, rfl, rfl, (by rw [hc84]; rfl), trivial⟩, rfl⟩
       simp only [List.take, List.drop]
       rintro _ _ rfl
       refine V_y (Y_move rfl) rfl rfl rfl ?_
       refine V_cut 8 (fun _ : Unit => [(2, .int .i64 m), (10, .pointer (some ⟨b12, 0, none⟩)), (11, .int .i64 s28.1), (12, .int .i64 s28.2), (13, .int .i64 (k22 : Int)), (15, .int .i64 (w64 (x79 + 1))), (27, v_l), (28, .int .i64 (l.length : Int)), (29, .int .i64 (k22 : Int)), (56, .bool (((decide (m < (w64 (x79 + 1)))) && (decide ((w64 (x79 + 1)) ≤ 3000000))) && ((decide (s28.1 < 0)) || (decide ((w64 (x79 + 1)) < s28.1)))))]) (fun _ w' => w80 = w') ?_ ?_
       ·simp only [List.take, List.drop]
        rcases Bool.eq_false_or_eq_true (((decide (m < (w64 (x79 + 1)))) && (decide ((w64 (x79 + 1)) ≤ 3000000)))) with hc86 | hc86
        ·refine V_ge rfl rfl rfl hc86 ?_
         refine V_y (Y_move rfl) rfl rfl rfl ?_
         refine V_ge rfl rfl rfl hc86 ?_
         refine V_y (Y_lss rfl rfl) rfl rfl rfl ?_
         refine V_ge rfl rfl rfl hc86 ?_
         refine V_y (Y_move rfl) rfl rfl rfl ?_
         refine V_cut 4 (fun _ : Unit => [(2, .int .i64 m), (10, .pointer (some ⟨b12, 0, none⟩)), (11, .int .i64 s28.1), (12, .int .i64 s28.2), (13, .int .i64 (k22 : Int)), (15, .int .i64 (w64 (x79 + 1))), (27, v_l), (28, .int .i64 (l.length : Int)), (29, .int .i64 (k22 : Int)), (48, .bool ((decide (m < (w64 (x79 + 1)))) && (decide ((w64 (x79 + 1)) ≤ 3000000)))), (55, .bool ((decide (s28.1 < 0)) || (decide ((w64 (x79 + 1)) < s28.1))))]) (fun _ w' => w80 = w') ?_ ?_
         ·simp only [List.take, List.drop]
          rcases Bool.eq_false_or_eq_true (decide (s28.1 < 0)) with hc88 | hc88
          ·refine V_gn rfl rfl rfl hc88 rfl rfl rfl ?_
           refine V_gn rfl rfl rfl hc88 rfl rfl rfl ?_
           refine V_gn rfl rfl rfl hc88 rfl rfl rfl ?_
           refine V_ge rfl rfl rfl hc86 ?_
           refine V_y (Y_pick_te rfl hc88 rfl) rfl rfl rfl ?_
           exact V_end fun a ha => ⟨(), ha.sub ⟨rfl, rfl, rfl, rfl, rfl, rfl, rfl, rfl, rfl, rfl, (by rw [hc88]; rfl), trivial⟩, rfl⟩
          ·refine V_ge rfl rfl rfl hc88 ?_
           refine V_y (Y_move rfl) rfl rfl rfl ?_
           refine V_ge rfl rfl rfl hc88 ?_
           refine V_y (Y_move rfl) rfl rfl rfl ?_
           refine V_ge rfl rfl rfl hc88 ?_
           refine V_y (Y_lss rfl rfl) rfl rfl rfl ?_
           refine V_ge rfl rfl rfl hc86 ?_
           refine V_y (Y_pick_fe rfl hc88 rfl) rfl rfl rfl ?_
           exact V_end fun a ha => ⟨(), ha.sub ⟨rfl, rfl, rfl, rfl, rfl, rfl, rfl, rfl, rfl, rfl, (by rw [hc88]; rfl), trivial⟩, rfl⟩
         simp only [List.take, List.drop]
         rintro _ _ rfl
         refine V_y (Y_pick_te rfl hc86 rfl) rfl rfl rfl ?_
         exact V_end fun a ha => ⟨(), ha.sub ⟨rfl, rfl, rfl, rfl, rfl, rfl, rfl, rfl, rfl, (by rw [hc86]; rfl), trivial⟩, rfl⟩
        ·refine V_gn rfl rfl rfl hc86 rfl rfl rfl ?_
         refine V_gn rfl rfl rfl hc86 rfl rfl rfl ?_
         refine V_gn rfl rfl rfl hc86 rfl rfl rfl ?_
         refine V_gu rfl rfl rfl rfl rfl ?_
         refine V_gu rfl rfl rfl rfl rfl ?_
         refine V_gu rfl rfl rfl rfl rfl ?_
         refine V_gn rfl rfl rfl hc86 rfl rfl rfl ?_
         refine V_y (Y_pick_fe rfl hc86 rfl) rfl rfl rfl ?_
         exact V_end fun a ha => ⟨(), ha.sub ⟨rfl, rfl, rfl, rfl, rfl, rfl, rfl, rfl, rfl, (by rw [hc86]; rfl), trivial⟩, rfl⟩
       simp only [List.take, List.drop]
       rintro _ _ rfl
       refine V_to (fun _ _ => rfl) ?_
       obtain ⟨s91, ho90, ho41⟩ := Option.bind_eq_some_iff.1 ho41
       refine C_cutG (ι := Unit) (fun (_ : Unit) => [(2, .int .i64 m), (10, .pointer (some ⟨b12, 0, none⟩)), (11, .int .i64 s91.1), (12, .int .i64 s91.2), (27, v_l), (28, .int .i64 (l.length : Int)), (29, .int .i64 (k22 : Int))]) (fun (_ : Unit) => fun w' => w80 = w') ?_ ?_
       ·refine C_cond rfl (fun hc96 => ?_) (fun hc96 => ?_)
        ·rw [if_pos hc96] at ho90
         refine C_region ?_
         refine V_y (Y_move rfl) rfl rfl rfl ?_
         refine V_y (Y_move rfl) rfl rfl rfl ?_
         refine V_y (Y_assign rfl) rfl rfl rfl ?_
         refine V_y (Y_assign rfl) rfl rfl rfl ?_
         obtain rfl := Option.some.inj ho90
         refine V_end (fun a ha97 => ?_)
         exact ⟨(), ha97.sub ⟨rfl, rfl, rfl, rfl, rfl, rfl, rfl, trivial⟩, rfl⟩
        ·rw [if_neg (nt hc96)] at ho90
         obtain rfl := Option.some.inj ho90
         refine C_skip (fun a ha98 => ?_)
         exact ⟨(), ha98.sub ⟨rfl, rfl, rfl, rfl, rfl, rfl, rfl, trivial⟩, rfl⟩
       rintro _ _ rfl a ha95
       obtain rfl := Option.some.inj ho41
       exact ⟨A81, ha95.sub ⟨rfl, rfl, rfl, rfl, rfl, rfl, rfl, trivial⟩, ⟨hH, hr43⟩⟩
     rintro A47 w44 ⟨hH48, hk45⟩ a ha46
     replace hr21 := Tr.trans (Dw := Dw) hr21 hk45
     replace hA := hk45.new
     replace hH : Hp w.heap.size A47 w44 (obC b12 [v13] 75 :: obPS (obCk 102 portref2_ShiftsIn) 76 v13 x11.clocks :: []) := hH48
     refine C_at (n := ⟨62, [], none⟩) (fun _ _ => rfl) ?_ ha46
     refine C_region ?_
     refine V_y (Y_addI rfl rfl) rfl rfl rfl ?_
     refine V_y (Y_move rfl) rfl rfl rfl ?_
     obtain rfl := Option.some.inj h33
     refine V_end (fun a ha100 => ?_)
     exact ⟨(s42.1, s42.2), hlt36, h34, ⟨A47, ha100.sub ⟨rfl, rfl, rfl, rfl, rfl, rfl, (congrArg (fun z => some (Value.int .i64 z)) (w64_succ hlt36 hn39)), trivial⟩, ⟨hH, hr21⟩⟩⟩
    ·refine C_exit (fun a ha101 => ?_)
     exact ⟨((s28.1, s28.2), A30), ha101.sub ⟨rfl, rfl, trivial⟩, ⟨(h37 (eq_of_dec hle35 hc40)).symm, hH, hr21⟩⟩
   rintro ⟨s20, A26⟩ w23 ⟨rfl, hH27, hk24⟩ a ha25
   rw [Lp.andThen_fin] at hm
   replace hK := Tr.trans (Dw := Dw) hK hk24
   replace hA := hk24.new
   replace hH : Hp w.heap.size A26 w23 (obC b12 [v13] 75 :: obPS (obCk 102 portref2_ShiftsIn) 76 v13 x11.clocks :: []) := hH27
   refine C_at (n := ⟨62, [], none⟩) (fun _ _ => rfl) ?_ ha25
   refine C_seq ?_
   refine C_region ?_
   refine V_y (Y_move rfl) rfl rfl rfl ?_
   refine V_y (Y_move rfl) rfl rfl rfl ?_
   refine V_y (Y_assign rfl) rfl rfl rfl ?_
   refine V_y (Y_assign rfl) rfl rfl rfl ?_
   refine V_y (Y_assign rfl) rfl rfl rfl ?_
   refine V_to (fun _ _ => rfl) ?_
   obtain rfl := Option.some.inj hm
   refine C_ret ?_
   try simp only [↓inBlock_ret, ↓then_ret]
   exact retQ rfl (Res.three Try.results6 rfl rfl rfl) ⟨rfl, hK.kp⟩
set_option maxRecDepth 4000 in
set_option maxHeartbeats 4000000 in
theorem slices_insertionSortCmpFunc_int_c (w : World) {A : Nat → Prop} {B : Nat} (hB : B ≤ w.heap.size) (hA : ∀ b, w.heap.size ≤ b → A b) (data : (List Int)) (v_data : Value) (a_ : Int) (b : Int) (cmp : (Int × Int) → Option Int) (cmp_Y : Ob) (cmp_v : Value) (cmp_one : cmp_v.cells.toList = [cmp_v]) (cmp_spec : ∀ (w2 : World) (A2 : Nat → Prop) (L2 : List Ob) (x : (Int × Int)) (b : Int), B ≤ w2.heap.size → (∀ b, w2.heap.size ≤ b → A2 b) → Tr Dw B A w A2 w2 → Hp B A2 w2 (cmp_Y :: L2) → cmp x = some b → CallV Try.prog cmp_v [.int .i64 x.1, .int .i64 x.2] w2 fun v w3 => v = .int .i64 b ∧ ∃ A3, Tr Dw B A2 w2 A3 w3 ∧ Hp B A3 w3 (cmp_Y :: L2)) {L : List Ob} (hH : Hp B A w (obS (α := Int) 3 v_data data :: cmp_Y :: L)) {r : (List Int)} (hm : slices_insertionSortCmpFunc_int data a_ b cmp = some r) : Ret Try.prog 52 #[v_data, .int .i64 a_, .int .i64 b, cmp_v] w fun v w' => ∃ A1 : Nat → Prop, v = .tuple #[] ∧ Hp B A1 w' (obS (α := Int) 3 v_data r :: cmp_Y :: L) ∧ Tr Dw B A w A1 w' := by
 unfold slices_insertionSortCmpFunc_int at hm
 refine enter Try.func52 rfl Try.ntmps52 rfl ?_
 have hK : Tr Dw B A w A w := Tr.refl (Dw := Dw) hA
 refine C_seq ?_
 refine C_region ?_
 refine V_y (Y_move rfl) rfl rfl rfl ?_
 refine V_y (Y_addI rfl rfl) rfl rfl rfl ?_
 refine V_y (Y_assign rfl) rfl rfl rfl ?_
 refine V_to (fun _ _ => rfl) ?_
 obtain ⟨o1, ho1, hm⟩ := Option.bind_eq_some_iff.1 hm
 refine C_cutG (ι := ((Int × (List Int)) × (Nat → Prop))) (fun ⟨s2, A8⟩ => []) (fun ⟨s2, A8⟩ => fun w' => o1 = .fin s2 ∧ Hp B A8 w' (obS (α := Int) 3 v_data s2.2 :: cmp_Y :: L) ∧ Tr Dw B A w A8 w') ?_ ?_
 ·refine C_block ?_
  refine C_while ho1 (fun s10 a w' => ∃ i : (Nat → Prop), Has ⟨53, [], none⟩ a ([(0, v_data), (1, .int .i64 a_), (2, .int .i64 b), (3, cmp_v), (8, .int .i64 s10.1)]) ∧ Hp B i w' (obS (α := Int) 3 v_data s10.2 :: cmp_Y :: L) ∧ Tr Dw B A w i w') (fun a ha => ⟨A, ha.sub ⟨rfl, rfl, rfl, rfl, rfl, trivial⟩, ⟨hH, Tr.refl (Dw := Dw) hA⟩⟩) ?_
  rintro K s10 a w11 ⟨A12, ha119, hH13, hr3⟩ K20
  refine C_of ?_ ha119
  replace hK := Tr.trans (Dw := Dw) hK hr3
  replace hB := Nat.le_trans hB hr3.ex.size
  replace hA := hr3.new
  replace hH : Hp B A12 w11 (obS (α := Int) 3 v_data s10.2 :: cmp_Y :: L) := hH13
  obtain ⟨x14, h15, h16⟩ := K20
  refine C_seq ?_
  refine C_seq ?_
  refine C_region ?_
  refine V_y (Y_move rfl) rfl rfl rfl ?_
  refine V_y (Y_move rfl) rfl rfl rfl ?_
  refine V_y (Y_lss rfl rfl) rfl rfl rfl ?_
  refine V_to (fun _ _ => rfl) ?_
  refine C_cond rfl (fun hc21 => ?_) (fun hc21 => ?_)
  ·rw [if_pos hc21] at h15
   refine C_skip_to (fun _ _ => rfl) ?_
   refine C_seq ?_
   obtain ⟨s23, ho22, h15⟩ := Option.bind_eq_some_iff.1 h15
   refine C_cutG (ι := (Nat → Prop)) (fun (A28 : (Nat → Prop)) => [(0, v_data), (1, .int .i64 a_), (2, .int .i64 b), (3, cmp_v), (8, .int .i64 s10.1)]) (fun (A28 : (Nat → Prop)) => fun w' => Hp B A28 w' (obS (α := Int) 3 v_data s23 :: cmp_Y :: L) ∧ Tr Dw B A12 w11 A28 w') ?_ ?_
   ·have hr24 : Tr Dw B A12 w11 A12 w11 := Tr.refl (Dw := Dw) hA
    refine C_block ?_
    refine C_seq ?_
    refine C_region ?_
    refine V_y (Y_move rfl) rfl rfl rfl ?_
    refine V_y (Y_assign rfl) rfl rfl rfl ?_
    refine V_to (fun _ _ => rfl) ?_
    obtain ⟨o30, ho30, ho22⟩ := Option.bind_eq_some_iff.1 ho22
    refine C_cutG (ι := ((Int × (List Int)) × (Nat → Prop))) (fun ⟨s31, A37⟩ => [(0, v_data), (1, .int .i64 a_), (2, .int .i64 b), (3, cmp_v), (8, .int .i64 s10.1)]) (fun ⟨s31, A37⟩ => fun w' => o30 = .fin s31 ∧ Hp B A37 w' (obS (α := Int) 3 v_data s31.2 :: cmp_Y :: L) ∧ Tr Dw B A12 w11 A37 w') ?_ ?_
    ·refine C_block ?_
     refine C_while ho30 (fun s39 a w' => ∃ i : (Nat → Prop), Has ⟨53, [], none⟩ a ([(0, v_data), (1, .int .i64 a_), (2, .int .i64 b), (3, cmp_v), (8, .int .i64 s10.1), (9, .int .i64 s39.1)]) ∧ Hp B i w' (obS (α := Int) 3 v_data s39.2 :: cmp_Y :: L) ∧ Tr Dw B A12 w11 i w') (fun a ha => ⟨A12, ha.sub ⟨rfl, rfl, rfl, rfl, rfl, rfl, trivial⟩, ⟨hH, Tr.refl (Dw := Dw) hA⟩⟩) ?_
     rintro K s39 a w40 ⟨A41, ha115, hH42, hr32⟩ K49
     refine C_of ?_ ha115
     replace hK := Tr.trans (Dw := Dw) hK hr32
     replace hB := Nat.le_trans hB hr32.ex.size
     replace hA := hr32.new
     replace hH : Hp B A41 w40 (obS (α := Int) 3 v_data s39.2 :: cmp_Y :: L) := hH42
     obtain ⟨x43, h44, h45⟩ := K49
     refine C_seq ?_
     refine C_seq ?_
     obtain ⟨s51, ho50, h44⟩ := Option.bind_eq_some_iff.1 h44
     refine C_cutG (ι := (Nat → Prop)) (fun (A56 : (Nat → Prop)) => [(0, v_data), (1, .int .i64 a_), (2, .int .i64 b), (3, cmp_v), (8, .int .i64 s10.1), (9, .int .i64 s39.1), (34, .bool s51)]) (fun (A56 : (Nat → Prop)) => fun w' => Hp B A56 w' (obS (α := Int) 3 v_data s39.2 :: cmp_Y :: L) ∧ Tr Dw B A41 w40 A56 w') ?_ ?_
     ·have hr52 : Tr Dw B A41 w40 A41 w40 := Tr.refl (Dw := Dw) hA
      refine C_region_qt (Dw := Dw) 14 Try_mixed (by kernel_rfl) ?_
      simp only [List.take, List.drop]
      refine VQ_y (fun w' hw' => Y_move rfl) rfl rfl rfl ?_
      refine VQ_y (fun w' hw' => Y_move rfl) rfl rfl rfl ?_
      refine VQ_y (fun w' hw' => Y_gtr rfl rfl) rfl rfl rfl ?_
      refine VQ_y (fun w' hw' => Y_move rfl) rfl rfl rfl ?_
      rcases Bool.eq_false_or_eq_true (decide (a_ < s39.1)) with hc58 | hc58
      ·rw [if_pos hc58] at ho50
       refine VQ_ge rfl rfl rfl hc58 ?_
       refine VQ_y (fun w' hw' => Y_move rfl) rfl rfl rfl ?_
       refine VQ_ge rfl rfl rfl hc58 ?_
       refine VQ_y (fun w' hw' => Y_move rfl) rfl rfl rfl ?_
       refine VQ_ge rfl rfl rfl hc58 ?_
       refine VQ_y (fun w' hw' => Y_move rfl) rfl rfl rfl ?_
       refine VQ_ge rfl rfl rfl hc58 ?_
       obtain ⟨x59, hx59, ho50⟩ := Option.bind_eq_some_iff.1 ho50
       refine VQ_indexAddrH (α := Int) (e := 3) (v := v_data) (l := s39.2) hH (i := 0) rfl hx59 Try.underlying27 Try.sizeOf3 rfl rfl rfl ?_
       intro b60 o61 h62 hl63
       refine VQ_ge rfl rfl rfl hc58 ?_
       refine VQ_y (fun w' hw' => Y_load (El.int (El.kp (Dw := Dw) h62 hw')) Try.isAgg3 rfl) rfl rfl rfl ?_
       refine VQ_ge rfl rfl rfl hc58 ?_
       refine VQ_y (fun w' hw' => Y_move rfl) rfl rfl rfl ?_
       refine VQ_ge rfl rfl rfl hc58 ?_
       refine VQ_y (fun w' hw' => Y_move rfl) rfl rfl rfl ?_
       refine VQ_ge rfl rfl rfl hc58 ?_
       refine VQ_y (fun w' hw' => Y_subI rfl rfl) rfl rfl rfl ?_
       refine VQ_ge rfl rfl rfl hc58 ?_
       obtain ⟨x64, hx64, ho50⟩ := Option.bind_eq_some_iff.1 ho50
       refine VQ_indexAddrH (α := Int) (e := 3) (v := v_data) (l := s39.2) hH (i := 0) rfl hx64 Try.underlying27 Try.sizeOf3 rfl rfl rfl ?_
       intro b65 o66 h67 hl68
       refine VQ_ge rfl rfl rfl hc58 ?_
       refine VQ_y (fun w' hw' => Y_load (El.int (El.kp (Dw := Dw) h67 hw')) Try.isAgg3 rfl) rfl rfl rfl ?_
       refine VQ_tail (fun w69 hk70 => ?_)
       try simp only [List.take, List.drop]
       have ht71 := Kp.tr (Dw := Dw) hk70 hA hB
       replace hH := Hp.kp (Dw := Dw) hH hk70
       replace hK := Tr.trans (Dw := Dw) hK ht71
       replace hr52 := Tr.trans (Dw := Dw) hr52 ht71
       replace hB := Nat.le_trans hB ht71.ex.size
       replace hA := ht71.new
       refine V_ge rfl rfl rfl hc58 ?_
       obtain ⟨x72, hx72, ho50⟩ := Option.bind_eq_some_iff.1 ho50
       replace hH : Hp B A41 w69 (cmp_Y :: obS (α := Int) 3 v_data s39.2 :: L) := Hp.front hH (i := 1) rfl
       refine V_callV rfl rfl rfl (cmp_spec w69 _ _ (x59, x64) x72 hB hA hK hH hx72) ?_
       rintro _ w73 ⟨rfl, A74, ht76, hH75⟩
       replace hr52 := Tr.trans (Dw := Dw) hr52 ht76
       replace hH : Hp B A74 w73 (cmp_Y :: obS (α := Int) 3 v_data s39.2 :: L) := hH75
       refine V_ge rfl rfl rfl hc58 ?_
       refine V_y (Y_lss rfl rfl) rfl rfl rfl ?_
       refine V_y (Y_pick_te rfl hc58 rfl) rfl rfl rfl ?_
       obtain rfl := Option.some.inj ho50
       refine V_end (fun a ha77 => ?_)
       replace hH : Hp B A74 w73 (obS (α := Int) 3 v_data s39.2 :: cmp_Y :: L) := Hp.front hH (i := 1) rfl
       exact ⟨A74, ha77.sub ⟨rfl, rfl, rfl, rfl, rfl, rfl, rfl, trivial⟩, ⟨hH, hr52⟩⟩
      ·rw [if_neg (nt hc58)] at ho50
       refine VQ_gn rfl rfl rfl hc58 rfl rfl rfl ?_
       refine VQ_gn rfl rfl rfl hc58 rfl rfl rfl ?_
       refine VQ_gn rfl rfl rfl hc58 rfl rfl rfl ?_
       refine VQ_gn rfl rfl rfl hc58 rfl rfl rfl ?_
       refine VQ_gn rfl rfl rfl hc58 rfl rfl rfl ?_
       refine VQ_gn rfl rfl rfl hc58 rfl rfl rfl ?_
       refine VQ_gn rfl rfl rfl hc58 rfl rfl rfl ?_
       refine VQ_gn rfl rfl rfl hc58 rfl rfl rfl ?_
       refine VQ_gn rfl rfl rfl hc58 rfl rfl rfl ?_
       refine VQ_gn rfl rfl rfl hc58 rfl rfl rfl ?_
       refine VQ_tail (fun w78 hk79 => ?_)
       try simp only [List.take, List.drop]
       have ht80 := Kp.tr (Dw := Dw) hk79 hA hB
       replace hH := Hp.kp (Dw := Dw) hH hk79
       replace hr52 := Tr.trans (Dw := Dw) hr52 ht80
       refine V_gn rfl rfl rfl hc58 rfl rfl rfl ?_
       refine V_gn rfl rfl rfl hc58 rfl rfl rfl ?_
       refine V_y (Y_pick_fe rfl hc58 rfl) rfl rfl rfl ?_
       obtain rfl := Option.some.inj ho50
       refine V_end (fun a ha81 => ?_)
       exact ⟨A41, ha81.sub ⟨rfl, rfl, rfl, rfl, rfl, rfl, rfl, trivial⟩, ⟨hH, hr52⟩⟩
     rintro A56 w53 ⟨hH57, hk54⟩ a ha55
     replace hr32 := Tr.trans (Dw := Dw) hr32 hk54
     replace hB := Nat.le_trans hB hk54.ex.size
     replace hA := hk54.new
     replace hH : Hp B A56 w53 (obS (α := Int) 3 v_data s39.2 :: cmp_Y :: L) := hH57
     refine C_at (n := ⟨53, [], none⟩) (fun _ _ => rfl) ?_ ha55
     refine C_cond rfl (fun hc82 => ?_) (fun hc82 => ?_)
     ·rw [if_pos hc82] at h44
      refine C_skip_to (fun _ _ => rfl) ?_
      refine C_seq ?_
      refine C_block ?_
      refine C_region_ch (Dw := Dw) A56 18 [(1, 0), (1, 1), (1, 2), (1, 3), (1, 4), (1, 5), (1, 6), (1, 7), (0, 8), (0, 9), (1, 10), (1, 11), (0, 12), (0, 13), (0, 14), (3, 15), (0, 16), (4, 17)] Try_mixed (by kernel_rfl) (fun w83 hk84 => ?_)
      have ht85 := Kp.tr (Dw := Dw) hk84 hA hB
      replace hH := Hp.kp (Dw := Dw) hH hk84
      replace hr32 := Tr.trans (Dw := Dw) hr32 ht85
      replace hB := Nat.le_trans hB ht85.ex.size
      replace hA := ht85.new
      refine CH_q2 (Dw := Dw) rfl ?_
      refine VQ_y (fun w' hw' => Y_move rfl) rfl rfl rfl ?_
      refine VQ_CH (Dw := Dw) ?_
      refine CH_q2 (Dw := Dw) rfl ?_
      refine VQ_y (fun w' hw' => Y_move rfl) rfl rfl rfl ?_
      refine VQ_CH (Dw := Dw) ?_
      refine CH_q2 (Dw := Dw) rfl ?_
      refine VQ_y (fun w' hw' => Y_move rfl) rfl rfl rfl ?_
      refine VQ_CH (Dw := Dw) ?_
      refine CH_q2 (Dw := Dw) rfl ?_
      refine VQ_y (fun w' hw' => Y_move rfl) rfl rfl rfl ?_
      refine VQ_CH (Dw := Dw) ?_
      refine CH_q2 (Dw := Dw) rfl ?_
      refine VQ_y (fun w' hw' => Y_subI rfl rfl) rfl rfl rfl ?_
      refine VQ_CH (Dw := Dw) ?_
      refine CH_q2 (Dw := Dw) rfl ?_
      refine VQ_y (fun w' hw' => Y_move rfl) rfl rfl rfl ?_
      refine VQ_CH (Dw := Dw) ?_
      refine CH_q2 (Dw := Dw) rfl ?_
      refine VQ_y (fun w' hw' => Y_move rfl) rfl rfl rfl ?_
      refine VQ_CH (Dw := Dw) ?_
      refine CH_q2 (Dw := Dw) rfl ?_
      refine VQ_y (fun w' hw' => Y_subI rfl rfl) rfl rfl rfl ?_
      refine VQ_CH (Dw := Dw) ?_
      refine CH_q1 (Dw := Dw) rfl ?_
      obtain ⟨x86, hx86, h44⟩ := Option.bind_eq_some_iff.1 h44
      refine VQ_indexAddrH (α := Int) (e := 3) (v := v_data) (l := s39.2) hH (i := 0) rfl hx86 Try.underlying27 Try.sizeOf3 rfl rfl rfl ?_
      intro b87 o88 h89 hl90
      refine VQ_CH (Dw := Dw) ?_
      refine CH_q1 (Dw := Dw) rfl ?_
      refine VQ_y (fun w' hw' => Y_load (El.int (El.kp (Dw := Dw) h89 hw')) Try.isAgg3 rfl) rfl rfl rfl ?_
      refine VQ_CH (Dw := Dw) ?_
      refine CH_q2 (Dw := Dw) rfl ?_
      refine VQ_y (fun w' hw' => Y_move rfl) rfl rfl rfl ?_
      refine VQ_CH (Dw := Dw) ?_
      refine CH_q2 (Dw := Dw) rfl ?_
      refine VQ_y (fun w' hw' => Y_move rfl) rfl rfl rfl ?_
      refine VQ_CH (Dw := Dw) ?_
      refine CH_q1 (Dw := Dw) rfl ?_
      obtain ⟨x91, hx91, h44⟩ := Option.bind_eq_some_iff.1 h44
      refine VQ_indexAddrH (α := Int) (e := 3) (v := v_data) (l := s39.2) hH (i := 0) rfl hx91 Try.underlying27 Try.sizeOf3 rfl rfl rfl ?_
      intro b92 o93 h94 hl95
      refine VQ_CH (Dw := Dw) ?_
      refine CH_q1 (Dw := Dw) rfl ?_
      refine VQ_y (fun w' hw' => Y_load (El.int (El.kp (Dw := Dw) h94 hw')) Try.isAgg3 rfl) rfl rfl rfl ?_
      refine VQ_CH (Dw := Dw) ?_
      refine CH_q1 (Dw := Dw) rfl ?_
      refine VQ_indexAddrH (α := Int) (e := 3) (v := v_data) (l := s39.2) hH (i := 0) rfl hx91 Try.underlying27 Try.sizeOf3 rfl rfl rfl ?_
      intro b96 o97 h98 hl99
      refine VQ_CH (Dw := Dw) ?_
      refine CH_l1 (Dw := Dw) (k := 1) rfl ?_
      obtain ⟨x100, hx100, h44⟩ := Option.bind_eq_some_iff.1 h44
      refine V_storeH (Dw := Dw) (α := Int) (e := 3) (v := v_data) (l := s39.2) hH (i := 0) rfl hl99 hx100 rfl Try.sizeOf3 rfl hB hA rfl rfl ?_
      intro w101 hH102 ht103
      replace hr32 := Tr.trans (Dw := Dw) hr32 ht103
      replace hB := Nat.le_trans hB ht103.ex.size
      replace hA := ht103.new
      replace hH : Hp B A56 w101 (obS (α := Int) 3 v_data x100 :: cmp_Y :: L) := hH102
      refine V_CHx (Dw := Dw) (XA.tr (Dw := Dw) ht103) ?_
      refine CH_q1 (Dw := Dw) rfl ?_
      obtain ⟨x104, hx104, h44⟩ := Option.bind_eq_some_iff.1 h44
      refine VQ_indexAddrH (α := Int) (e := 3) (v := v_data) (l := x100) hH (i := 0) rfl hx104 Try.underlying27 Try.sizeOf3 rfl rfl rfl ?_
      intro b105 o106 h107 hl108
      refine VQ_CH (Dw := Dw) ?_
      refine CH_l1 (Dw := Dw) (k := 2) rfl ?_
      obtain ⟨x109, hx109, h44⟩ := Option.bind_eq_some_iff.1 h44
      refine V_storeH (Dw := Dw) (α := Int) (e := 3) (v := v_data) (l := x100) hH (i := 0) rfl hl108 hx109 rfl Try.sizeOf3 rfl hB hA rfl rfl ?_
      intro w110 hH111 ht112
      replace hr32 := Tr.trans (Dw := Dw) hr32 ht112
      replace hH : Hp B A56 w110 (obS (α := Int) 3 v_data x109 :: cmp_Y :: L) := hH111
      refine V_CHw (Dw := Dw) ?_
      refine CH_tail (Dw := Dw) ?_
      show V _ _ _ _ [] _ _
      refine V_to (fun _ _ => rfl) ?_
      refine C_region ?_
      refine V_y (Y_move rfl) rfl rfl rfl ?_
      refine V_y (Y_subI rfl rfl) rfl rfl rfl ?_
      refine V_y (Y_assign rfl) rfl rfl rfl ?_
      obtain rfl := Option.some.inj h44
      refine V_end (fun a ha113 => ?_)
      exact ⟨(w64 (s39.1 - 1), x109), h45, ⟨A56, ha113.sub ⟨rfl, rfl, rfl, rfl, rfl, rfl, trivial⟩, ⟨hH, hr32⟩⟩⟩
     ·rw [if_neg (nt hc82)] at h44
      obtain rfl := Option.some.inj h44
      refine C_exit (fun a ha114 => ?_)
      exact ⟨((s39.1, s39.2), A56), ha114.sub ⟨rfl, rfl, rfl, rfl, rfl, trivial⟩, ⟨h45.symm, hH, hr32⟩⟩
    rintro ⟨s31, A37⟩ w34 ⟨rfl, hH38, hk35⟩ a ha36
    rw [Lp.andThen_fin] at ho22
    replace hr24 := Tr.trans (Dw := Dw) hr24 hk35
    replace hA := hk35.new
    replace hH : Hp B A37 w34 (obS (α := Int) 3 v_data s31.2 :: cmp_Y :: L) := hH38
    obtain rfl := Option.some.inj ho22
    exact ⟨A37, ha36.sub ⟨rfl, rfl, rfl, rfl, rfl, trivial⟩, ⟨hH, hr24⟩⟩
   rintro A28 w25 ⟨hH29, hk26⟩ a ha27
   replace hr3 := Tr.trans (Dw := Dw) hr3 hk26
   replace hA := hk26.new
   replace hH : Hp B A28 w25 (obS (α := Int) 3 v_data s23 :: cmp_Y :: L) := hH29
   refine C_at (n := ⟨53, [], none⟩) (fun _ _ => rfl) ?_ ha27
   refine C_region ?_
   refine V_y (Y_move rfl) rfl rfl rfl ?_
   refine V_y (Y_addI rfl rfl) rfl rfl rfl ?_
   refine V_y (Y_assign rfl) rfl rfl rfl ?_
   obtain rfl := Option.some.inj h15
   refine V_end (fun a ha117 => ?_)
   exact ⟨(w64 (s10.1 + 1), s23), h16, ⟨A28, ha117.sub ⟨rfl, rfl, rfl, rfl, rfl, trivial⟩, ⟨hH, hr3⟩⟩⟩
  ·rw [if_neg (nt hc21)] at h15
   obtain rfl := Option.some.inj h15
   refine C_exit (fun a ha118 => ?_)
   exact ⟨((s10.1, s10.2), A12), ha118.sub trivial, ⟨h16.symm, hH, hr3⟩⟩
 rintro ⟨s2, A8⟩ w5 ⟨rfl, hH9, hk6⟩ a ha7
 rw [Lp.andThen_fin] at hm
 replace hK := Tr.trans (Dw := Dw) hK hk6
 replace hA := hk6.new
 replace hH : Hp B A8 w5 (obS (α := Int) 3 v_data s2.2 :: cmp_Y :: L) := hH9
 obtain rfl := Option.some.inj hm
 try simp only [↓inBlock_ret, ↓then_ret]
 exact normQ (retQ rfl (Res.zero Try.results52) ⟨A8, rfl, hH, hK⟩ a ha7)
set_option maxRecDepth 4000 in
set_option maxHeartbeats 4000000 in
theorem slices_swapRangeCmpFunc_int_c (w : World) {A : Nat → Prop} {B : Nat} (hB : B ≤ w.heap.size) (hA : ∀ b, w.heap.size ≤ b → A b) (data : (List Int)) (v_data : Value) (a_ : Int) (b : Int) (n : Int) (cmp : (Int × Int) → Option Int) (cmp_Y : Ob) (cmp_v : Value) (cmp_one : cmp_v.cells.toList = [cmp_v]) (cmp_spec : ∀ (w2 : World) (A2 : Nat → Prop) (L2 : List Ob) (x : (Int × Int)) (b : Int), B ≤ w2.heap.size → (∀ b, w2.heap.size ≤ b → A2 b) → Tr Dw B A w A2 w2 → Hp B A2 w2 (cmp_Y :: L2) → cmp x = some b → CallV Try.prog cmp_v [.int .i64 x.1, .int .i64 x.2] w2 fun v w3 => v = .int .i64 b ∧ ∃ A3, Tr Dw B A2 w2 A3 w3 ∧ Hp B A3 w3 (cmp_Y :: L2)) {L : List Ob} (hH : Hp B A w (obS (α := Int) 3 v_data data :: cmp_Y :: L)) {r : (List Int)} (hm : slices_swapRangeCmpFunc_int data a_ b n cmp = some r) : Ret Try.prog 90 #[v_data, .int .i64 a_, .int .i64 b, .int .i64 n, cmp_v] w fun v w' => ∃ A1 : Nat → Prop, v = .tuple #[] ∧ Hp B A1 w' (obS (α := Int) 3 v_data r :: cmp_Y :: L) ∧ Tr Dw B A w A1 w' := by
 unfold slices_swapRangeCmpFunc_int at hm
 refine enter Try.func90 rfl Try.ntmps90 rfl ?_
 have hK : Tr Dw B A w A w := Tr.refl (Dw := Dw) hA
 refine C_seq ?_
 refine C_region ?_
 refine V_y (Y_assign rfl) rfl rfl rfl ?_
 refine V_to (fun _ _ => rfl) ?_
 obtain ⟨o1, ho1, hm⟩ := Option.bind_eq_some_iff.1 hm
 refine C_cutG (ι := ((Int × (List Int)) × (Nat → Prop))) (fun ⟨s2, A8⟩ => []) (fun ⟨s2, A8⟩ => fun w' => o1 = .fin s2 ∧ Hp B A8 w' (obS (α := Int) 3 v_data s2.2 :: cmp_Y :: L) ∧ Tr Dw B A w A8 w') ?_ ?_
 ·refine C_block ?_
  refine C_while ho1 (fun s10 a w' => ∃ i : (Nat → Prop), Has ⟨38, [], none⟩ a ([(0, v_data), (1, .int .i64 a_), (2, .int .i64 b), (3, .int .i64 n), (10, .int .i64 s10.1)]) ∧ Hp B i w' (obS (α := Int) 3 v_data s10.2 :: cmp_Y :: L) ∧ Tr Dw B A w i w') (fun a ha => ⟨A, ha.sub ⟨rfl, rfl, rfl, rfl, rfl, trivial⟩, ⟨hH, Tr.refl (Dw := Dw) hA⟩⟩) ?_
  rintro K s10 a w11 ⟨A12, ha54, hH13, hr3⟩ K20
  refine C_of ?_ ha54
  replace hB := Nat.le_trans hB hr3.ex.size
  replace hA := hr3.new
  replace hH : Hp B A12 w11 (obS (α := Int) 3 v_data s10.2 :: cmp_Y :: L) := hH13
  obtain ⟨x14, h15, h16⟩ := K20
  refine C_seq ?_
  refine C_seq ?_
  refine C_region ?_
  refine V_y (Y_move rfl) rfl rfl rfl ?_
  refine V_y (Y_move rfl) rfl rfl rfl ?_
  refine V_y (Y_lss rfl rfl) rfl rfl rfl ?_
  refine V_to (fun _ _ => rfl) ?_
  refine C_cond rfl (fun hc21 => ?_) (fun hc21 => ?_)
  ·rw [if_pos hc21] at h15
   refine C_skip_to (fun _ _ => rfl) ?_
   refine C_seq ?_
   refine C_block ?_
   refine C_region_ch (Dw := Dw) A12 24 [(1, 0), (1, 1), (1, 2), (1, 3), (1, 4), (1, 5), (1, 6), (1, 7), (1, 8), (1, 9), (1, 10), (1, 11), (0, 12), (0, 13), (1, 14), (1, 15), (1, 16), (1, 17), (0, 18), (0, 19), (0, 20), (3, 21), (0, 22), (4, 23)] Try_mixed (by kernel_rfl) (fun w22 hk23 => ?_)
   have ht24 := Kp.tr (Dw := Dw) hk23 hA hB
   replace hH := Hp.kp (Dw := Dw) hH hk23
   replace hr3 := Tr.trans (Dw := Dw) hr3 ht24
   replace hB := Nat.le_trans hB ht24.ex.size
   replace hA := ht24.new
   refine CH_q2 (Dw := Dw) rfl ?_
   refine VQ_y (fun w' hw' => Y_move rfl) rfl rfl rfl ?_
   refine VQ_CH (Dw := Dw) ?_
   refine CH_q2 (Dw := Dw) rfl ?_
   refine VQ_y (fun w' hw' => Y_move rfl) rfl rfl rfl ?_
   refine VQ_CH (Dw := Dw) ?_
   refine CH_q2 (Dw := Dw) rfl ?_
   refine VQ_y (fun w' hw' => Y_move rfl) rfl rfl rfl ?_
   refine VQ_CH (Dw := Dw) ?_
   refine CH_q2 (Dw := Dw) rfl ?_
   refine VQ_y (fun w' hw' => Y_addI rfl rfl) rfl rfl rfl ?_
   refine VQ_CH (Dw := Dw) ?_
   refine CH_q2 (Dw := Dw) rfl ?_
   refine VQ_y (fun w' hw' => Y_move rfl) rfl rfl rfl ?_
   refine VQ_CH (Dw := Dw) ?_
   refine CH_q2 (Dw := Dw) rfl ?_
   refine VQ_y (fun w' hw' => Y_move rfl) rfl rfl rfl ?_
   refine VQ_CH (Dw := Dw) ?_
   refine CH_q2 (Dw := Dw) rfl ?_
   refine VQ_y (fun w' hw' => Y_move rfl) rfl rfl rfl ?_
   refine VQ_CH (Dw := Dw) ?_
   refine CH_q2 (Dw := Dw) rfl ?_
   refine VQ_y (fun w' hw' => Y_addI rfl rfl) rfl rfl rfl ?_
   refine VQ_CH (Dw := Dw) ?_
   refine CH_q2 (Dw := Dw) rfl ?_
   refine VQ_y (fun w' hw' => Y_move rfl) rfl rfl rfl ?_
   refine VQ_CH (Dw := Dw) ?_
   refine CH_q2 (Dw := Dw) rfl ?_
   refine VQ_y (fun w' hw' => Y_move rfl) rfl rfl rfl ?_
   refine VQ_CH (Dw := Dw) ?_
   refine CH_q2 (Dw := Dw) rfl ?_
   refine VQ_y (fun w' hw' => Y_move rfl) rfl rfl rfl ?_
   refine VQ_CH (Dw := Dw) ?_
   refine CH_q2 (Dw := Dw) rfl ?_
   refine VQ_y (fun w' hw' => Y_addI rfl rfl) rfl rfl rfl ?_
   refine VQ_CH (Dw := Dw) ?_
   refine CH_q1 (Dw := Dw) rfl ?_
   obtain ⟨x25, hx25, h15⟩ := Option.bind_eq_some_iff.1 h15
   refine VQ_indexAddrH (α := Int) (e := 3) (v := v_data) (l := s10.2) hH (i := 0) rfl hx25 Try.underlying27 Try.sizeOf3 rfl rfl rfl ?_
   intro b26 o27 h28 hl29
   refine VQ_CH (Dw := Dw) ?_
   refine CH_q1 (Dw := Dw) rfl ?_
   refine VQ_y (fun w' hw' => Y_load (El.int (El.kp (Dw := Dw) h28 hw')) Try.isAgg3 rfl) rfl rfl rfl ?_
   refine VQ_CH (Dw := Dw) ?_
   refine CH_q2 (Dw := Dw) rfl ?_
   refine VQ_y (fun w' hw' => Y_move rfl) rfl rfl rfl ?_
   refine VQ_CH (Dw := Dw) ?_
   refine CH_q2 (Dw := Dw) rfl ?_
   refine VQ_y (fun w' hw' => Y_move rfl) rfl rfl rfl ?_
   refine VQ_CH (Dw := Dw) ?_
   refine CH_q2 (Dw := Dw) rfl ?_
   refine VQ_y (fun w' hw' => Y_move rfl) rfl rfl rfl ?_
   refine VQ_CH (Dw := Dw) ?_
   refine CH_q2 (Dw := Dw) rfl ?_
   refine VQ_y (fun w' hw' => Y_addI rfl rfl) rfl rfl rfl ?_
   refine VQ_CH (Dw := Dw) ?_
   refine CH_q1 (Dw := Dw) rfl ?_
   obtain ⟨x30, hx30, h15⟩ := Option.bind_eq_some_iff.1 h15
   refine VQ_indexAddrH (α := Int) (e := 3) (v := v_data) (l := s10.2) hH (i := 0) rfl hx30 Try.underlying27 Try.sizeOf3 rfl rfl rfl ?_
   intro b31 o32 h33 hl34
   refine VQ_CH (Dw := Dw) ?_
   refine CH_q1 (Dw := Dw) rfl ?_
   refine VQ_y (fun w' hw' => Y_load (El.int (El.kp (Dw := Dw) h33 hw')) Try.isAgg3 rfl) rfl rfl rfl ?_
   refine VQ_CH (Dw := Dw) ?_
   refine CH_q1 (Dw := Dw) rfl ?_
   refine VQ_indexAddrH (α := Int) (e := 3) (v := v_data) (l := s10.2) hH (i := 0) rfl hx30 Try.underlying27 Try.sizeOf3 rfl rfl rfl ?_
   intro b35 o36 h37 hl38
   refine VQ_CH (Dw := Dw) ?_
   refine CH_l1 (Dw := Dw) (k := 1) rfl ?_
   obtain ⟨x39, hx39, h15⟩ := Option.bind_eq_some_iff.1 h15
   refine V_storeH (Dw := Dw) (α := Int) (e := 3) (v := v_data) (l := s10.2) hH (i := 0) rfl hl38 hx39 rfl Try.sizeOf3 rfl hB hA rfl rfl ?_
   intro w40 hH41 ht42
   replace hr3 := Tr.trans (Dw := Dw) hr3 ht42
   replace hB := Nat.le_trans hB ht42.ex.size
   replace hA := ht42.new
   replace hH : Hp B A12 w40 (obS (α := Int) 3 v_data x39 :: cmp_Y :: L) := hH41
   refine V_CHx (Dw := Dw) (XA.tr (Dw := Dw) ht42) ?_
   refine CH_q1 (Dw := Dw) rfl ?_
   obtain ⟨x43, hx43, h15⟩ := Option.bind_eq_some_iff.1 h15
   refine VQ_indexAddrH (α := Int) (e := 3) (v := v_data) (l := x39) hH (i := 0) rfl hx43 Try.underlying27 Try.sizeOf3 rfl rfl rfl ?_
   intro b44 o45 h46 hl47
   refine VQ_CH (Dw := Dw) ?_
   refine CH_l1 (Dw := Dw) (k := 2) rfl ?_
   obtain ⟨x48, hx48, h15⟩ := Option.bind_eq_some_iff.1 h15
   refine V_storeH (Dw := Dw) (α := Int) (e := 3) (v := v_data) (l := x39) hH (i := 0) rfl hl47 hx48 rfl Try.sizeOf3 rfl hB hA rfl rfl ?_
   intro w49 hH50 ht51
   replace hr3 := Tr.trans (Dw := Dw) hr3 ht51
   replace hH : Hp B A12 w49 (obS (α := Int) 3 v_data x48 :: cmp_Y :: L) := hH50
   refine V_CHw (Dw := Dw) ?_
   refine CH_tail (Dw := Dw) ?_
   show V _ _ _ _ [] _ _
   refine V_to (fun _ _ => rfl) ?_
   refine C_region ?_
   refine V_y (Y_move rfl) rfl rfl rfl ?_
   refine V_y (Y_addI rfl rfl) rfl rfl rfl ?_
   refine V_y (Y_assign rfl) rfl rfl rfl ?_
   obtain rfl := Option.some.inj h15
   refine V_end (fun a ha52 => ?_)
   exact ⟨(w64 (s10.1 + 1), x48), h16, ⟨A12, ha52.sub ⟨rfl, rfl, rfl, rfl, rfl, trivial⟩, ⟨hH, hr3⟩⟩⟩
  ·rw [if_neg (nt hc21)] at h15
   obtain rfl := Option.some.inj h15
   refine C_exit (fun a ha53 => ?_)
   exact ⟨((s10.1, s10.2), A12), ha53.sub trivial, ⟨h16.symm, hH, hr3⟩⟩
 rintro ⟨s2, A8⟩ w5 ⟨rfl, hH9, hk6⟩ a ha7
 rw [Lp.andThen_fin] at hm
 replace hK := Tr.trans (Dw := Dw) hK hk6
 replace hA := hk6.new
 replace hH : Hp B A8 w5 (obS (α := Int) 3 v_data s2.2 :: cmp_Y :: L) := hH9
 obtain rfl := Option.some.inj hm
 try simp only [↓inBlock_ret, ↓then_ret]
 exact normQ (retQ rfl (Res.zero Try.results90) ⟨A8, rfl, hH, hK⟩ a ha7)
set_option maxRecDepth 4000 in
set_option maxHeartbeats 4000000 in
theorem slices_rotateCmpFunc_int_c (w : World) {A : Nat → Prop} {B : Nat} (hB : B ≤ w.heap.size) (hA : ∀ b, w.heap.size ≤ b → A b) (data : (List Int)) (v_data : Value) (a_ : Int) (m : Int) (b : Int) (cmp : (Int × Int) → Option Int) (cmp_Y : Ob) (cmp_v : Value) (cmp_one : cmp_v.cells.toList = [cmp_v]) (cmp_spec : ∀ (w2 : World) (A2 : Nat → Prop) (L2 : List Ob) (x : (Int × Int)) (b : Int), B ≤ w2.heap.size → (∀ b, w2.heap.size ≤ b → A2 b) → Tr Dw B A w A2 w2 → Hp B A2 w2 (cmp_Y :: L2) → cmp x = some b → CallV Try.prog cmp_v [.int .i64 x.1, .int .i64 x.2] w2 fun v w3 => v = .int .i64 b ∧ ∃ A3, Tr Dw B A2 w2 A3 w3 ∧ Hp B A3 w3 (cmp_Y :: L2)) {L : List Ob} (hH : Hp B A w (obS (α := Int) 3 v_data data :: cmp_Y :: L)) {r : (List Int)} (hm : slices_rotateCmpFunc_int data a_ m b cmp = some r) : Ret Try.prog 79 #[v_data, .int .i64 a_, .int .i64 m, .int .i64 b, cmp_v] w fun v w' => ∃ A1 : Nat → Prop, v = .tuple #[] ∧ Hp B A1 w' (obS (α := Int) 3 v_data r :: cmp_Y :: L) ∧ Tr Dw B A w A1 w' := by
 unfold slices_rotateCmpFunc_int at hm
 refine enter Try.func79 rfl Try.ntmps79 rfl ?_
 have hK : Tr Dw B A w A w := Tr.refl (Dw := Dw) hA
 refine C_seq ?_
 refine C_region ?_
 refine V_y (Y_move rfl) rfl rfl rfl ?_
 refine V_y (Y_move rfl) rfl rfl rfl ?_
 refine V_y (Y_subI rfl rfl) rfl rfl rfl ?_
 refine V_y (Y_assign rfl) rfl rfl rfl ?_
 refine V_to (fun _ _ => rfl) ?_
 refine C_seq ?_
 refine C_region ?_
 refine V_y (Y_move rfl) rfl rfl rfl ?_
 refine V_y (Y_move rfl) rfl rfl rfl ?_
 refine V_y (Y_subI rfl rfl) rfl rfl rfl ?_
 refine V_y (Y_assign rfl) rfl rfl rfl ?_
 refine V_to (fun _ _ => rfl) ?_
 refine C_seq ?_
 obtain ⟨o1, ho1, hm⟩ := Option.bind_eq_some_iff.1 hm
 refine C_cutG (ι := ((Int × Int × (List Int)) × (Nat → Prop))) (fun ⟨s2, A8⟩ => [(0, v_data), (2, .int .i64 m), (4, cmp_v), (10, .int .i64 s2.1)]) (fun ⟨s2, A8⟩ => fun w' => o1 = .fin s2 ∧ Hp B A8 w' (obS (α := Int) 3 v_data s2.2.2 :: cmp_Y :: L) ∧ Tr Dw B A w A8 w') ?_ ?_
 ·refine C_block ?_
  refine C_while ho1 (fun s10 a w' => ∃ i : (Nat → Prop), Has ⟨58, [], none⟩ a ([(0, v_data), (2, .int .i64 m), (4, cmp_v), (10, .int .i64 s10.1), (11, .int .i64 s10.2.1)]) ∧ Hp B i w' (obS (α := Int) 3 v_data s10.2.2 :: cmp_Y :: L) ∧ Tr Dw B A w i w') (fun a ha => ⟨A, ha.sub ⟨rfl, rfl, rfl, rfl, rfl, trivial⟩, ⟨hH, Tr.refl (Dw := Dw) hA⟩⟩) ?_
  rintro K s10 a w11 ⟨A12, ha54, hH13, hr3⟩ K20
  refine C_of ?_ ha54
  replace hK := Tr.trans (Dw := Dw) hK hr3
  replace hB := Nat.le_trans hB hr3.ex.size
  replace hA := hr3.new
  replace hH : Hp B A12 w11 (obS (α := Int) 3 v_data s10.2.2 :: cmp_Y :: L) := hH13
  obtain ⟨x14, h15, h16⟩ := K20
  refine C_seq ?_
  refine C_seq ?_
  refine C_region ?_
  refine V_y (Y_move rfl) rfl rfl rfl ?_
  refine V_y (Y_move rfl) rfl rfl rfl ?_
  refine V_y (Y_neq rfl rfl) rfl rfl rfl ?_
  refine V_to (fun _ _ => rfl) ?_
  refine C_cond rfl (fun hc21 => ?_) (fun hc21 => ?_)
  ·rw [if_pos hc21] at h15
   refine C_skip_to (fun _ _ => rfl) ?_
   obtain ⟨s23, ho22, h15⟩ := Option.bind_eq_some_iff.1 h15
   refine C_cutG (ι := (Nat → Prop)) (fun (A28 : (Nat → Prop)) => [(0, v_data), (2, .int .i64 m), (4, cmp_v), (10, .int .i64 s23.1), (11, .int .i64 s23.2.1)]) (fun (A28 : (Nat → Prop)) => fun w' => Hp B A28 w' (obS (α := Int) 3 v_data s23.2.2 :: cmp_Y :: L) ∧ Tr Dw B A12 w11 A28 w') ?_ ?_
   ·have hr24 : Tr Dw B A12 w11 A12 w11 := Tr.refl (Dw := Dw) hA
    refine C_block ?_
    refine C_seq ?_
    refine C_region ?_
    refine V_y (Y_move rfl) rfl rfl rfl ?_
    refine V_y (Y_move rfl) rfl rfl rfl ?_
    refine V_y (Y_gtr rfl rfl) rfl rfl rfl ?_
    refine V_to (fun _ _ => rfl) ?_
    obtain ⟨s31, ho30, ho22⟩ := Option.bind_eq_some_iff.1 ho22
    refine C_cutG (ι := (Nat → Prop)) (fun (A36 : (Nat → Prop)) => [(0, v_data), (2, .int .i64 m), (4, cmp_v), (10, .int .i64 s31.1), (11, .int .i64 s31.2.1)]) (fun (A36 : (Nat → Prop)) => fun w' => Hp B A36 w' (obS (α := Int) 3 v_data s31.2.2 :: cmp_Y :: L) ∧ Tr Dw B A12 w11 A36 w') ?_ ?_
    ·have hr32 : Tr Dw B A12 w11 A12 w11 := Tr.refl (Dw := Dw) hA
     refine C_cond rfl (fun hc38 => ?_) (fun hc38 => ?_)
     ·rw [if_pos hc38] at ho30
      refine C_seq ?_
      refine C_region ?_
      refine V_y (Y_move rfl) rfl rfl rfl ?_
      refine V_y (Y_move rfl) rfl rfl rfl ?_
      refine V_y (Y_move rfl) rfl rfl rfl ?_
      refine V_y (Y_subI rfl rfl) rfl rfl rfl ?_
      refine V_y (Y_move rfl) rfl rfl rfl ?_
      refine V_y (Y_move rfl) rfl rfl rfl ?_
      refine V_y (Y_move rfl) rfl rfl rfl ?_
      replace hH : Hp B A12 w11 (cmp_Y :: obS (α := Int) 3 v_data s10.2.2 :: L) := Hp.front hH (i := 1) rfl
      replace hH : Hp B A12 w11 (obS (α := Int) 3 v_data s10.2.2 :: cmp_Y :: L) := Hp.front hH (i := 1) rfl
      obtain ⟨x39, hx39, ho30⟩ := Option.bind_eq_some_iff.1 ho30
      refine V_call Try.call90 rfl rfl rfl rfl (slices_swapRangeCmpFunc_int_c (Dw := Dw) w11 hB hA s10.2.2 v_data (w64 (m - s10.1)) m s10.2.1 cmp cmp_Y cmp_v cmp_one (fun w2 A2 L2 x2 r2 h1 h2 h3 => cmp_spec w2 A2 L2 x2 r2 h1 h2 (Tr.trans (Dw := Dw) hK h3)) hH hx39) ?_
      rintro _ w40 ⟨A41, rfl, hH42, ht43⟩
      replace hr32 := Tr.trans (Dw := Dw) hr32 ht43
      replace hH : Hp B A41 w40 (obS (α := Int) 3 v_data x39 :: cmp_Y :: L) := hH42
      refine V_to (fun _ _ => rfl) ?_
      refine C_region ?_
      refine V_y (Y_move rfl) rfl rfl rfl ?_
      refine V_y (Y_move rfl) rfl rfl rfl ?_
      refine V_y (Y_subI rfl rfl) rfl rfl rfl ?_
      refine V_y (Y_assign rfl) rfl rfl rfl ?_
      obtain rfl := Option.some.inj ho30
      refine V_end (fun a ha44 => ?_)
      exact ⟨A41, ha44.sub ⟨rfl, rfl, rfl, rfl, rfl, trivial⟩, ⟨hH, hr32⟩⟩
     ·rw [if_neg (nt hc38)] at ho30
      refine C_seq ?_
      refine C_region ?_
      refine V_y (Y_move rfl) rfl rfl rfl ?_
      refine V_y (Y_move rfl) rfl rfl rfl ?_
      refine V_y (Y_move rfl) rfl rfl rfl ?_
      refine V_y (Y_subI rfl rfl) rfl rfl rfl ?_
      refine V_y (Y_move rfl) rfl rfl rfl ?_
      refine V_y (Y_move rfl) rfl rfl rfl ?_
      refine V_y (Y_addI rfl rfl) rfl rfl rfl ?_
      refine V_y (Y_move rfl) rfl rfl rfl ?_
      refine V_y (Y_subI rfl rfl) rfl rfl rfl ?_
      refine V_y (Y_move rfl) rfl rfl rfl ?_
      refine V_y (Y_move rfl) rfl rfl rfl ?_
      replace hH : Hp B A12 w11 (cmp_Y :: obS (α := Int) 3 v_data s10.2.2 :: L) := Hp.front hH (i := 1) rfl
      replace hH : Hp B A12 w11 (obS (α := Int) 3 v_data s10.2.2 :: cmp_Y :: L) := Hp.front hH (i := 1) rfl
      obtain ⟨x45, hx45, ho30⟩ := Option.bind_eq_some_iff.1 ho30
      refine V_call Try.call90 rfl rfl rfl rfl (slices_swapRangeCmpFunc_int_c (Dw := Dw) w11 hB hA s10.2.2 v_data (w64 (m - s10.1)) (w64 ((w64 (m + s10.2.1)) - s10.1)) s10.1 cmp cmp_Y cmp_v cmp_one (fun w2 A2 L2 x2 r2 h1 h2 h3 => cmp_spec w2 A2 L2 x2 r2 h1 h2 (Tr.trans (Dw := Dw) hK h3)) hH hx45) ?_
      rintro _ w46 ⟨A47, rfl, hH48, ht49⟩
      replace hr32 := Tr.trans (Dw := Dw) hr32 ht49
      replace hH : Hp B A47 w46 (obS (α := Int) 3 v_data x45 :: cmp_Y :: L) := hH48
      refine V_to (fun _ _ => rfl) ?_
      refine C_region ?_
      refine V_y (Y_move rfl) rfl rfl rfl ?_
      refine V_y (Y_move rfl) rfl rfl rfl ?_
      refine V_y (Y_subI rfl rfl) rfl rfl rfl ?_
      refine V_y (Y_assign rfl) rfl rfl rfl ?_
      obtain rfl := Option.some.inj ho30
      refine V_end (fun a ha50 => ?_)
      exact ⟨A47, ha50.sub ⟨rfl, rfl, rfl, rfl, rfl, trivial⟩, ⟨hH, hr32⟩⟩
    rintro A36 w33 ⟨hH37, hk34⟩ a ha35
    replace hr24 := Tr.trans (Dw := Dw) hr24 hk34
    replace hA := hk34.new
    replace hH : Hp B A36 w33 (obS (α := Int) 3 v_data s31.2.2 :: cmp_Y :: L) := hH37
    obtain rfl := Option.some.inj ho22
    exact ⟨A36, ha35.sub ⟨rfl, rfl, rfl, rfl, rfl, trivial⟩, ⟨hH, hr24⟩⟩
   rintro A28 w25 ⟨hH29, hk26⟩ a ha27
   replace hr3 := Tr.trans (Dw := Dw) hr3 hk26
   replace hA := hk26.new
   replace hH : Hp B A28 w25 (obS (α := Int) 3 v_data s23.2.2 :: cmp_Y :: L) := hH29
   obtain rfl := Option.some.inj h15
   exact ⟨(s23.1, s23.2.1, s23.2.2), h16, ⟨A28, ha27.sub ⟨rfl, rfl, rfl, rfl, rfl, trivial⟩, ⟨hH, hr3⟩⟩⟩
  ·rw [if_neg (nt hc21)] at h15
   obtain rfl := Option.some.inj h15
   refine C_exit (fun a ha53 => ?_)
   exact ⟨((s10.1, s10.2.1, s10.2.2), A12), ha53.sub ⟨rfl, rfl, rfl, rfl, trivial⟩, ⟨h16.symm, hH, hr3⟩⟩
 rintro ⟨s2, A8⟩ w5 ⟨rfl, hH9, hk6⟩ a ha7
 rw [Lp.andThen_fin] at hm
 replace hK := Tr.trans (Dw := Dw) hK hk6
 replace hB := Nat.le_trans hB hk6.ex.size
 replace hA := hk6.new
 replace hH : Hp B A8 w5 (obS (α := Int) 3 v_data s2.2.2 :: cmp_Y :: L) := hH9
 refine C_at (n := ⟨58, [], none⟩) (fun _ _ => rfl) ?_ ha7
 refine C_region ?_
 refine V_y (Y_move rfl) rfl rfl rfl ?_
 refine V_y (Y_move rfl) rfl rfl rfl ?_
 refine V_y (Y_move rfl) rfl rfl rfl ?_
 refine V_y (Y_subI rfl rfl) rfl rfl rfl ?_
 refine V_y (Y_move rfl) rfl rfl rfl ?_
 refine V_y (Y_move rfl) rfl rfl rfl ?_
 refine V_y (Y_move rfl) rfl rfl rfl ?_
 replace hH : Hp B A8 w5 (cmp_Y :: obS (α := Int) 3 v_data s2.2.2 :: L) := Hp.front hH (i := 1) rfl
 replace hH : Hp B A8 w5 (obS (α := Int) 3 v_data s2.2.2 :: cmp_Y :: L) := Hp.front hH (i := 1) rfl
 obtain ⟨x55, hx55, hm⟩ := Option.bind_eq_some_iff.1 hm
 refine V_call Try.call90 rfl rfl rfl rfl (slices_swapRangeCmpFunc_int_c (Dw := Dw) w5 hB hA s2.2.2 v_data (w64 (m - s2.1)) m s2.1 cmp cmp_Y cmp_v cmp_one (fun w2 A2 L2 x2 r2 h1 h2 h3 => cmp_spec w2 A2 L2 x2 r2 h1 h2 (Tr.trans (Dw := Dw) hK h3)) hH hx55) ?_
 rintro _ w56 ⟨A57, rfl, hH58, ht59⟩
 replace hK := Tr.trans (Dw := Dw) hK ht59
 replace hH : Hp B A57 w56 (obS (α := Int) 3 v_data x55 :: cmp_Y :: L) := hH58
 refine V_end (fun a ha60 => ?_)
 obtain rfl := Option.some.inj hm
 try simp only [↓inBlock_ret, ↓then_ret]
 exact normQ (retQ rfl (Res.zero Try.results79) ⟨A57, rfl, hH, hK⟩ a ha60)
end Go.Proofs.Ytabkhhpkibbheaa.W
