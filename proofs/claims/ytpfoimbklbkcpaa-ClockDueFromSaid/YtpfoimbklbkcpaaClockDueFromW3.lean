/-
  Written by program (gen.py) from the IR of the dump: each function computes its model.
-/
import Derived.Test.YtpfoimbklbkcpaaClockDueFromW2
namespace Go.Proofs.Ytpfoimbklbkcpaa.W
open Go Go.RowKit Go.Pu Go.Gw Go.Proofs Go.Proofs.Ytpfoimbklbkcpaa.M
set_option linter.unusedVariables false

set_option maxRecDepth 4000 in
set_option maxHeartbeats 4000000 in
theorem portref2_meter_first_c (w : World) {A : Nat → Prop} {B : Nat} (hB : B ≤ w.heap.size) (hA : ∀ b, w.heap.size ≤ b → A b) (x : portref2_meter) (b_x : Nat) (v_x : Value) (c : level_Clock) (v_c : Value) (h_c : Sl A w v_c c.pieces) (amount : Int) {L : List Ob} (hH : Hp B A w (obC b_x [v_x] 82 :: obPS (obCk 107 portref2_ShiftsIn) 79 v_x x.clocks :: L)) {r : Int} (hm : portref2_meter_first x c amount = some r) : Ret Try.prog 50 #[.pointer (some ⟨b_x, 0, none⟩), .agg #[.int .i64 c.kind, .int .i64 c.level, .int .i64 c.minutes, .int .i64 c.start, .int .i64 c.stop, .int .i64 c.end_, v_c], .int .i64 amount] w fun v w' => ∃ A1 : Nat → Prop, v = .int .i64 r ∧ Hp B A1 w' (obC b_x [v_x] 82 :: obPS (obCk 107 portref2_ShiftsIn) 79 v_x x.clocks :: L) ∧ Tr B A w A1 w' := by
  unfold portref2_meter_first at hm
  refine enter Try.func50 rfl Try.ntmps50 rfl ?_
  have hK : Tr B A w A w := Tr.refl hA
  refine C_seq ?_
  refine C_region ?_
  refine V_box rfl rfl ?_
  intro b5 w6 h7
  have hk9 := h7.kp
  have h8 : El (α := level_Clock) A w6 b5 0 c := h7.el hA ⟨[.int .i64 c.kind], _, rfl, rfl, ⟨[.int .i64 c.level], _, rfl, rfl, ⟨[.int .i64 c.minutes], _, rfl, rfl, ⟨[.int .i64 c.start], _, rfl, rfl, ⟨[.int .i64 c.stop], _, rfl, rfl, ⟨[.int .i64 c.end_], _, rfl, rfl, ⟨_, rfl, h_c⟩⟩⟩⟩⟩⟩⟩
  have ht10 := Kp.tr hk9 hA hB
  replace hH := Hp.kp hH hk9
  replace h_c := Sl.tr h_c ht10
  replace hK := Tr.trans hK ht10
  replace hB := Nat.le_trans hB ht10.ex.size
  replace hA := ht10.new
  refine V_y (Y_assign rfl) rfl rfl rfl ?_
  refine V_to (fun _ _ => rfl) ?_
  refine C_seq ?_
  refine C_region_q Try_mixed (by kernel_rfl) ?_
  have h11 := El_level_Clock_3 h8
  refine VQ_y (fun w' hw' => Y_fieldAddr Try.underlying35 rfl Try.sizeOf3 (by decide) rfl) rfl rfl rfl ?_
  refine VQ_y (fun w' hw' => Y_load (El.int (El.kp h11 hw')) Try.isAgg3 rfl) rfl rfl rfl ?_
  refine VQ_y (fun w' hw' => Y_assign rfl) rfl rfl rfl ?_
  refine VQ_y (fun w' hw' => Y_assign rfl) rfl rfl rfl ?_
  refine VQ_to (fun _ _ => rfl) (fun w12 hk13 => ?_)
  have ht14 := Kp.tr hk13 hA hB
  replace hH := Hp.kp hH hk13
  replace h8 := El.tr h8 ht14
  replace hK := Tr.trans hK ht14
  replace hB := Nat.le_trans hB ht14.ex.size
  replace hA := ht14.new
  refine C_seq ?_
  obtain ⟨o15, ho15, hm⟩ := Option.bind_eq_some_iff.1 hm
  refine C_cutG (ι := ((Int × Int) × (Nat → Prop))) (fun ⟨s16, A22⟩ => [(8, .int .i64 s16.2)]) (fun ⟨s16, A22⟩ => fun w' => o15 = .fin s16 ∧ Hp B A22 w' (obC b_x [v_x] 82 :: obPS (obCk 107 portref2_ShiftsIn) 79 v_x x.clocks :: L) ∧ Tr B A w12 A22 w') ?_ ?_
  · refine C_block ?_
    refine C_while ho15 (fun s24 a w' => ∃ i : (Nat → Prop), Has ⟨59, [], none⟩ a ([(0, .pointer (some ⟨b_x, 0, none⟩)), (2, .int .i64 amount), (4, .pointer (some ⟨b5, 0, none⟩)), (7, .int .i64 s24.1), (8, .int .i64 s24.2)]) ∧ Hp B i w' (obC b_x [v_x] 82 :: obPS (obCk 107 portref2_ShiftsIn) 79 v_x x.clocks :: L) ∧ Tr B A w12 i w') (fun a ha => ⟨A, ha.sub ⟨rfl, rfl, rfl, rfl, rfl, trivial⟩, ⟨hH, Tr.refl hA⟩⟩) ?_
    rintro K s24 a w25 ⟨A26, ha184, hH27, hr17⟩ K34
    refine C_of ?_ ha184
    replace h8 := El.tr h8 hr17
    replace hK := Tr.trans hK hr17
    replace hB := Nat.le_trans hB hr17.ex.size
    replace hA := hr17.new
    replace hH : Hp B A26 w25 (obC b_x [v_x] 82 :: obPS (obCk 107 portref2_ShiftsIn) 79 v_x x.clocks :: L) := hH27
    obtain ⟨x28, h29, h30⟩ := K34
    refine C_seq ?_
    refine C_seq ?_
    refine C_region ?_
    refine V_y (Y_move rfl) rfl rfl rfl ?_
    refine V_y (Y_leq rfl rfl) rfl rfl rfl ?_
    refine V_to (fun _ _ => rfl) ?_
    refine C_cond rfl (fun hc35 => ?_) (fun hc35 => ?_)
    · rw [if_pos hc35] at h29
      refine C_skip_to (fun _ _ => rfl) ?_
      refine C_seq ?_
      obtain ⟨o36, ho36, h29⟩ := Option.bind_eq_some_iff.1 h29
      refine C_cutG (ι := (Int × (Nat → Prop))) (fun ⟨s37, A42⟩ => [(0, .pointer (some ⟨b_x, 0, none⟩)), (2, .int .i64 amount), (4, .pointer (some ⟨b5, 0, none⟩)), (7, .int .i64 s37), (8, .int .i64 s24.2)]) (fun ⟨s37, A42⟩ => fun w' => o36 = .fin s37 ∧ Hp B A42 w' (obC b_x [v_x] 82 :: obPS (obCk 107 portref2_ShiftsIn) 79 v_x x.clocks :: L) ∧ Tr B A26 w25 A42 w') ?_ ?_
      · have hr38 : Tr B A26 w25 A26 w25 := Tr.refl hA
        refine C_block ?_
        refine C_seq ?_
        refine C_seq ?_
        refine C_region ?_
        refine V_y (Y_move rfl) rfl rfl rfl ?_
        refine V_y (Y_move rfl) rfl rfl rfl ?_
        refine V_y (Y_geq rfl rfl) rfl rfl rfl ?_
        refine V_to (fun _ _ => rfl) ?_
        refine C_cond rfl (fun hc44 => ?_) (fun hc44 => ?_)
        · rw [if_pos hc44] at ho36
          refine C_seq ?_
          refine C_region ?_
          refine V_y (Y_move rfl) rfl rfl rfl ?_
          refine V_y (Y_assign rfl) rfl rfl rfl ?_
          refine V_to (fun _ _ => rfl) ?_
          obtain rfl := Option.some.inj ho36
          rw [Lp.andThen_rt] at h29
          obtain rfl := Option.some.inj h29
          obtain rfl := (h30 : Lp.rt _ = _)
          rw [Lp.andThen_rt] at hm
          obtain rfl := Option.some.inj hm
          refine C_ret ?_
          try simp only [↓inBlock_ret, ↓then_ret]
          exact retQ rfl (Res.one Try.results50 rfl) ⟨A26, rfl, hH, hK⟩
        · rw [if_neg (nt hc44)] at ho36
          refine C_skip_to (fun _ _ => rfl) ?_
          refine C_seq ?_
          refine C_region ?_
          have h45 := El_level_Clock_6 h8
          refine V_y (Y_fieldAddr Try.underlying35 rfl Try.sizeOf33 (by decide) rfl) rfl rfl rfl ?_
          obtain ⟨v46, h47, h48⟩ := El.list h45
          refine V_y (Y_load h47 Try.isAgg33 rfl) rfl rfl rfl ?_
          refine V_y (Y_lenSl h48 rfl Try.underlying33 rfl) rfl rfl rfl ?_
          refine V_y (Y_move rfl) rfl rfl rfl ?_
          refine V_to (fun _ _ => rfl) ?_
          have hn69 := Sl.le h48
          obtain ⟨o49, ho49, ho36⟩ := Option.bind_eq_some_iff.1 ho36
          refine C_cutG (ι := (Int × (Nat → Prop))) (fun ⟨s50, A56⟩ => [(0, .pointer (some ⟨b_x, 0, none⟩)), (2, .int .i64 amount), (4, .pointer (some ⟨b5, 0, none⟩)), (7, .int .i64 s50), (8, .int .i64 s24.2)]) (fun ⟨s50, A56⟩ => fun w' => o49 = .fin s50 ∧ Hp B A56 w' (obC b_x [v_x] 82 :: obPS (obCk 107 portref2_ShiftsIn) 79 v_x x.clocks :: L) ∧ Tr B A26 w25 A56 w') ?_ ?_
          · refine C_block ?_
            refine C_range ho49 (fun k52 s58 a w' => ∃ i : (Nat → Prop), Has ⟨59, [], none⟩ a ([(0, .pointer (some ⟨b_x, 0, none⟩)), (2, .int .i64 amount), (4, .pointer (some ⟨b5, 0, none⟩)), (7, .int .i64 s58), (8, .int .i64 s24.2), (22, v46), (23, .int .i64 (c.pieces.length : Int)), (24, .int .i64 (k52 : Int))]) ∧ Hp B i w' (obC b_x [v_x] 82 :: obPS (obCk 107 portref2_ShiftsIn) 79 v_x x.clocks :: L) ∧ Tr B A26 w25 i w') (fun a ha => ⟨A26, ha.sub ⟨rfl, rfl, rfl, rfl, rfl, rfl, rfl, rfl, trivial⟩, ⟨hH, Tr.refl hA⟩⟩) ?_
            rintro K k52 s58 a w59 ⟨A60, ha180, hH61, hr51⟩ hle65 K68 h67
            refine C_of ?_ ha180
            replace h8 := El.tr h8 hr51
            replace h48 := Sl.tr h48 hr51
            replace hK := Tr.trans hK hr51
            replace hr17 := Tr.trans hr17 hr51
            replace hr38 := Tr.trans hr38 hr51
            replace hB := Nat.le_trans hB hr51.ex.size
            replace hA := hr51.new
            replace hH : Hp B A60 w59 (obC b_x [v_x] 82 :: obPS (obCk 107 portref2_ShiftsIn) 79 v_x x.clocks :: L) := hH61
            refine C_seq (C_region (V_y (Y_lss rfl rfl) rfl rfl rfl (V_to (fun _ _ => rfl) ?_)))
            refine C_seq ?_
            refine C_cond rfl (fun hc70 => ?_) (fun hc70 => ?_)
            · have hlt66 := lt_of_dec hc70
              obtain ⟨x62, h63, h64⟩ := K68 hlt66
              refine C_skip_to (fun _ _ => rfl) ?_
              refine C_seq ?_
              obtain ⟨s72, ho71, h63⟩ := Option.bind_eq_some_iff.1 h63
              refine C_cutG (ι := (Nat → Prop)) (fun (A77 : (Nat → Prop)) => [(0, .pointer (some ⟨b_x, 0, none⟩)), (2, .int .i64 amount), (4, .pointer (some ⟨b5, 0, none⟩)), (7, .int .i64 s72), (8, .int .i64 s24.2), (22, v46), (23, .int .i64 (c.pieces.length : Int)), (24, .int .i64 (k52 : Int))]) (fun (A77 : (Nat → Prop)) => fun w' => Hp B A77 w' (obC b_x [v_x] 82 :: obPS (obCk 107 portref2_ShiftsIn) 79 v_x x.clocks :: L) ∧ Tr B A60 w59 A77 w') ?_ ?_
              · have hr73 : Tr B A60 w59 A60 w59 := Tr.refl hA
                refine C_block ?_
                refine C_seq ?_
                refine C_region ?_
                obtain ⟨x79, hx79, ho71⟩ := Option.bind_eq_some_iff.1 ho71
                refine V_indexAddr h48 hx79 Try.underlying33 Try.sizeOf64 rfl rfl rfl ?_
                intro b80 o81 h82
                obtain ⟨h83, _⟩ := El_level_Piece h82
                refine V_y (Y_loadA h83 Try.isAgg64 Try.sizeOf64 rfl) rfl rfl rfl ?_
                refine V_alloc Try.zeroValue64 rfl ?_
                intro b84 w85 h86
                refine V_storeNew h86 Try.sizeOf64 rfl rfl rfl rfl (by exact (List.forall_mem_cons.2 ⟨rfl, (List.forall_mem_cons.2 ⟨rfl, (List.forall_mem_cons.2 ⟨rfl, (fun _ h => nomatch h)⟩)⟩)⟩)) ?_
                intro w87 h88
                have hk90 := h88.kp
                have h89 : El (α := level_Piece) A60 w87 b84 0 x79 := h88.el hA ⟨[.int .i64 x79.from_], _, rfl, rfl, ⟨[.int .i64 x79.to_], _, rfl, rfl, rfl⟩⟩
                have ht91 := Kp.tr hk90 hA hB
                replace hH := Hp.kp hH hk90
                replace h8 := El.tr h8 ht91
                replace h48 := Sl.tr h48 ht91
                replace h82 := El.tr h82 ht91
                replace hK := Tr.trans hK ht91
                replace hr17 := Tr.trans hr17 ht91
                replace hr38 := Tr.trans hr38 ht91
                replace hr51 := Tr.trans hr51 ht91
                replace hr73 := Tr.trans hr73 ht91
                replace hB := Nat.le_trans hB ht91.ex.size
                replace hA := ht91.new
                refine V_to (fun _ _ => rfl) ?_
                refine C_seq ?_
                obtain ⟨s93, ho92, ho71⟩ := Option.bind_eq_some_iff.1 ho71
                refine C_cutG (ι := (Nat → Prop)) (fun (A98 : (Nat → Prop)) => [(0, .pointer (some ⟨b_x, 0, none⟩)), (2, .int .i64 amount), (4, .pointer (some ⟨b5, 0, none⟩)), (7, .int .i64 s58), (8, .int .i64 s24.2), (22, v46), (23, .int .i64 (c.pieces.length : Int)), (24, .int .i64 (k52 : Int)), (54, .bool s93)]) (fun (A98 : (Nat → Prop)) => fun w' => Hp B A98 w' (obC b_x [v_x] 82 :: obPS (obCk 107 portref2_ShiftsIn) 79 v_x x.clocks :: L) ∧ Tr B A60 w87 A98 w') ?_ ?_
                · have hr94 : Tr B A60 w87 A60 w87 := Tr.refl hA
                  refine C_region_qt 25 Try_mixed (by kernel_rfl) ?_
                  simp only [List.take, List.drop]
                  have h100 := El_level_Piece_0 h89
                  refine VQ_y (fun w' hw' => Y_fieldAddr Try.underlying64 rfl Try.sizeOf3 (by decide) rfl) rfl rfl rfl ?_
                  refine VQ_y (fun w' hw' => Y_load (El.int (El.kp h100 hw')) Try.isAgg3 rfl) rfl rfl rfl ?_
                  refine VQ_y (fun w' hw' => Y_move rfl) rfl rfl rfl ?_
                  refine VQ_y (fun w' hw' => Y_leq rfl rfl) rfl rfl rfl ?_
                  refine VQ_y (fun w' hw' => Y_move rfl) rfl rfl rfl ?_
                  rcases Bool.eq_false_or_eq_true (decide (x79.from_ ≤ s24.2)) with hc101 | hc101
                  · rw [if_pos hc101] at ho92
                    refine VQ_ge rfl rfl rfl hc101 ?_
                    have h102 := El_level_Piece_1 h89
                    refine VQ_y (fun w' hw' => Y_fieldAddr Try.underlying64 rfl Try.sizeOf3 (by decide) rfl) rfl rfl rfl ?_
                    refine VQ_ge rfl rfl rfl hc101 ?_
                    refine VQ_y (fun w' hw' => Y_load (El.int (El.kp h102 hw')) Try.isAgg3 rfl) rfl rfl rfl ?_
                    refine VQ_ge rfl rfl rfl hc101 ?_
                    refine VQ_y (fun w' hw' => Y_lss rfl rfl) rfl rfl rfl ?_
                    refine VQ_ge rfl rfl rfl hc101 ?_
                    refine VQ_y (fun w' hw' => Y_move rfl) rfl rfl rfl ?_
                    rcases Bool.eq_false_or_eq_true (decide (x79.to_ < 0)) with hc103 | hc103
                    · rw [if_pos hc103] at ho92
                      refine VQ_gn rfl rfl rfl hc103 rfl rfl rfl ?_
                      refine VQ_gn rfl rfl rfl hc103 rfl rfl rfl ?_
                      refine VQ_gn rfl rfl rfl hc103 rfl rfl rfl ?_
                      refine VQ_gn rfl rfl rfl hc103 rfl rfl rfl ?_
                      refine VQ_ge rfl rfl rfl hc101 ?_
                      refine VQ_y (fun _ _ => Y_pick_te rfl hc103 rfl) rfl rfl rfl ?_
                      refine VQ_y (fun _ _ => Y_pick_te rfl hc101 rfl) rfl rfl rfl ?_
                      refine VQ_y (fun w' hw' => Y_move rfl) rfl rfl rfl ?_
                      rcases Bool.eq_false_or_eq_true (true) with hc104 | hc104
                      · rw [if_pos hc104] at ho92
                        refine VQ_ge rfl rfl rfl hc104 ?_
                        refine VQ_y (fun w' hw' => Y_move rfl) rfl rfl rfl ?_
                        refine VQ_ge rfl rfl rfl hc104 ?_
                        refine VQ_y (fun w' hw' => Y_nilCheck rfl) rfl rfl rfl ?_
                        refine VQ_ge rfl rfl rfl hc104 ?_
                        refine VQ_y (fun w' hw' => Y_fieldAddrC (off2 := 0) Try.underlying82 rfl Try.sizeOf80 (by decide) rfl rfl) rfl rfl rfl ?_
                        refine VQ_ge rfl rfl rfl hc104 ?_
                        refine VQ_y (fun w' hw' => Y_load ((World.cell?_of_block (hw'.block _ (World.block_lt_of_cell? _ _ (Hp.cell (j := 0) hH (i := 0) rfl rfl)))).trans (Hp.cell (j := 0) hH (i := 0) rfl rfl)) Try.isAgg80 rfl) rfl rfl rfl ?_
                        refine VQ_ge rfl rfl rfl hc104 ?_
                        have h105 := El_level_Piece_2 h89
                        refine VQ_y (fun w' hw' => Y_fieldAddr Try.underlying64 rfl Try.sizeOf3 (by decide) rfl) rfl rfl rfl ?_
                        refine VQ_ge rfl rfl rfl hc104 ?_
                        refine VQ_y (fun w' hw' => Y_load (El.int (El.kp h105 hw')) Try.isAgg3 rfl) rfl rfl rfl ?_
                        refine VQ_ge rfl rfl rfl hc104 ?_
                        obtain ⟨x106, hx106, ho92⟩ := Option.bind_eq_some_iff.1 ho92
                        refine VQ_indexAddrPS (f := obCk 107 portref2_ShiftsIn) (e := 79) (v := v_x) (cs := x.clocks) hH (i := 1) rfl hx106 Try.underlying80 Try.sizeOf79 rfl rfl rfl ?_
                        intro b107 o108 b110 hk111 h109 hH
                        replace hH : Hp B A60 w87 (obCk 107 portref2_ShiftsIn b110 x106 :: obC b_x [v_x] 82 :: obPX (obCk 107 portref2_ShiftsIn) 79 v_x x.clocks (Int.toNat x79.calendar) b110 :: L) := hH
                        refine VQ_ge rfl rfl rfl hc104 ?_
                        refine VQ_y (fun w' hw' => Y_load ((World.cell?_of_block (hw'.block _ (World.block_lt_of_cell? _ _ (h109)))).trans (h109)) Try.isAgg79 rfl) rfl rfl rfl ?_
                        refine VQ_ge rfl rfl rfl hc104 ?_
                        refine VQ_y (fun w' hw' => Y_move rfl) rfl rfl rfl ?_
                        refine VQ_tail (fun w112 hk113 => ?_)
                        try simp only [List.take, List.drop]
                        have ht114 := Kp.tr hk113 hA hB
                        replace hH := Hp.kp hH hk113
                        replace h8 := El.tr h8 ht114
                        replace h48 := Sl.tr h48 ht114
                        replace h89 := El.tr h89 ht114
                        replace h100 := El.tr h100 ht114
                        replace h102 := El.tr h102 ht114
                        replace h105 := El.tr h105 ht114
                        replace hK := Tr.trans hK ht114
                        replace hr17 := Tr.trans hr17 ht114
                        replace hr38 := Tr.trans hr38 ht114
                        replace hr51 := Tr.trans hr51 ht114
                        replace hr73 := Tr.trans hr73 ht114
                        replace hr94 := Tr.trans hr94 ht114
                        replace hB := Nat.le_trans hB ht114.ex.size
                        replace hA := ht114.new
                        refine V_ge rfl rfl rfl hc104 ?_
                        obtain ⟨x115, hx115, ho92⟩ := Option.bind_eq_some_iff.1 ho92
                        refine V_call Try.call48 rfl rfl rfl rfl (portref2_Clock_Open_c w112 hB hA x106 b110 s24.2 hH hx115) ?_
                        rintro _ w116 ⟨A117, rfl, hH118, ht119⟩
                        replace h8 := El.tr h8 ht119
                        replace h48 := Sl.tr h48 ht119
                        replace h89 := El.tr h89 ht119
                        replace h100 := El.tr h100 ht119
                        replace h102 := El.tr h102 ht119
                        replace h105 := El.tr h105 ht119
                        replace hK := Tr.trans hK ht119
                        replace hr17 := Tr.trans hr17 ht119
                        replace hr38 := Tr.trans hr38 ht119
                        replace hr51 := Tr.trans hr51 ht119
                        replace hr73 := Tr.trans hr73 ht119
                        replace hr94 := Tr.trans hr94 ht119
                        replace hB := Nat.le_trans hB ht119.ex.size
                        replace hA := ht119.new
                        replace hH : Hp B A117 w116 (obCk 107 portref2_ShiftsIn b110 x106 :: obC b_x [v_x] 82 :: obPX (obCk 107 portref2_ShiftsIn) 79 v_x x.clocks (Int.toNat x79.calendar) b110 :: L) := hH118
                        replace hH : Hp B A117 w116 (obC b_x [v_x] 82 :: obPS (obCk 107 portref2_ShiftsIn) 79 v_x x.clocks :: L) := Hp.psBack hH (i := 1) rfl hk111
                        refine V_y (Y_pick_te rfl hc104 rfl) rfl rfl rfl ?_
                        obtain rfl := Option.some.inj ho92
                        refine V_end (fun a ha120 => ?_)
                        exact ⟨A117, ha120.sub ⟨rfl, rfl, rfl, rfl, rfl, rfl, rfl, rfl, rfl, trivial⟩, ⟨hH, hr94⟩⟩
                      · rw [if_neg (nt hc104)] at ho92
                        refine VQ_gn rfl rfl rfl hc104 rfl rfl rfl ?_
                        refine VQ_gn rfl rfl rfl hc104 rfl rfl rfl ?_
                        refine VQ_gn rfl rfl rfl hc104 rfl rfl rfl ?_
                        refine VQ_gn rfl rfl rfl hc104 rfl rfl rfl ?_
                        refine VQ_gn rfl rfl rfl hc104 rfl rfl rfl ?_
                        refine VQ_gn rfl rfl rfl hc104 rfl rfl rfl ?_
                        refine VQ_gn rfl rfl rfl hc104 rfl rfl rfl ?_
                        refine VQ_gn rfl rfl rfl hc104 rfl rfl rfl ?_
                        refine VQ_gn rfl rfl rfl hc104 rfl rfl rfl ?_
                        refine VQ_tail (fun w121 hk122 => ?_)
                        try simp only [List.take, List.drop]
                        have ht123 := Kp.tr hk122 hA hB
                        replace hH := Hp.kp hH hk122
                        replace h8 := El.tr h8 ht123
                        replace h48 := Sl.tr h48 ht123
                        replace h89 := El.tr h89 ht123
                        replace h100 := El.tr h100 ht123
                        replace h102 := El.tr h102 ht123
                        replace hK := Tr.trans hK ht123
                        replace hr17 := Tr.trans hr17 ht123
                        replace hr38 := Tr.trans hr38 ht123
                        replace hr51 := Tr.trans hr51 ht123
                        replace hr73 := Tr.trans hr73 ht123
                        replace hr94 := Tr.trans hr94 ht123
                        replace hB := Nat.le_trans hB ht123.ex.size
                        replace hA := ht123.new
                        refine V_gn rfl rfl rfl hc104 rfl rfl rfl ?_
                        refine V_y (Y_pick_fe rfl hc104 rfl) rfl rfl rfl ?_
                        obtain rfl := Option.some.inj ho92
                        refine V_end (fun a ha124 => ?_)
                        exact ⟨A60, ha124.sub ⟨rfl, rfl, rfl, rfl, rfl, rfl, rfl, rfl, rfl, trivial⟩, ⟨hH, hr94⟩⟩
                    · rw [if_neg (nt hc103)] at ho92
                      refine VQ_ge rfl rfl rfl hc103 ?_
                      refine VQ_y (fun w' hw' => Y_move rfl) rfl rfl rfl ?_
                      refine VQ_ge rfl rfl rfl hc103 ?_
                      have h125 := El_level_Piece_1 h89
                      refine VQ_y (fun w' hw' => Y_fieldAddr Try.underlying64 rfl Try.sizeOf3 (by decide) rfl) rfl rfl rfl ?_
                      refine VQ_ge rfl rfl rfl hc103 ?_
                      refine VQ_y (fun w' hw' => Y_load (El.int (El.kp h125 hw')) Try.isAgg3 rfl) rfl rfl rfl ?_
                      refine VQ_ge rfl rfl rfl hc103 ?_
                      refine VQ_y (fun w' hw' => Y_lss rfl rfl) rfl rfl rfl ?_
                      refine VQ_ge rfl rfl rfl hc101 ?_
                      refine VQ_y (fun _ _ => Y_pick_fe rfl hc103 rfl) rfl rfl rfl ?_
                      refine VQ_y (fun _ _ => Y_pick_te rfl hc101 rfl) rfl rfl rfl ?_
                      refine VQ_y (fun w' hw' => Y_move rfl) rfl rfl rfl ?_
                      rcases Bool.eq_false_or_eq_true (decide (s24.2 < x79.to_)) with hc126 | hc126
                      · rw [if_pos hc126] at ho92
                        refine VQ_ge rfl rfl rfl hc126 ?_
                        refine VQ_y (fun w' hw' => Y_move rfl) rfl rfl rfl ?_
                        refine VQ_ge rfl rfl rfl hc126 ?_
                        refine VQ_y (fun w' hw' => Y_nilCheck rfl) rfl rfl rfl ?_
                        refine VQ_ge rfl rfl rfl hc126 ?_
                        refine VQ_y (fun w' hw' => Y_fieldAddrC (off2 := 0) Try.underlying82 rfl Try.sizeOf80 (by decide) rfl rfl) rfl rfl rfl ?_
                        refine VQ_ge rfl rfl rfl hc126 ?_
                        refine VQ_y (fun w' hw' => Y_load ((World.cell?_of_block (hw'.block _ (World.block_lt_of_cell? _ _ (Hp.cell (j := 0) hH (i := 0) rfl rfl)))).trans (Hp.cell (j := 0) hH (i := 0) rfl rfl)) Try.isAgg80 rfl) rfl rfl rfl ?_
                        refine VQ_ge rfl rfl rfl hc126 ?_
                        have h127 := El_level_Piece_2 h89
                        refine VQ_y (fun w' hw' => Y_fieldAddr Try.underlying64 rfl Try.sizeOf3 (by decide) rfl) rfl rfl rfl ?_
                        refine VQ_ge rfl rfl rfl hc126 ?_
                        refine VQ_y (fun w' hw' => Y_load (El.int (El.kp h127 hw')) Try.isAgg3 rfl) rfl rfl rfl ?_
                        refine VQ_ge rfl rfl rfl hc126 ?_
                        obtain ⟨x128, hx128, ho92⟩ := Option.bind_eq_some_iff.1 ho92
                        refine VQ_indexAddrPS (f := obCk 107 portref2_ShiftsIn) (e := 79) (v := v_x) (cs := x.clocks) hH (i := 1) rfl hx128 Try.underlying80 Try.sizeOf79 rfl rfl rfl ?_
                        intro b129 o130 b132 hk133 h131 hH
                        replace hH : Hp B A60 w87 (obCk 107 portref2_ShiftsIn b132 x128 :: obC b_x [v_x] 82 :: obPX (obCk 107 portref2_ShiftsIn) 79 v_x x.clocks (Int.toNat x79.calendar) b132 :: L) := hH
                        refine VQ_ge rfl rfl rfl hc126 ?_
                        refine VQ_y (fun w' hw' => Y_load ((World.cell?_of_block (hw'.block _ (World.block_lt_of_cell? _ _ (h131)))).trans (h131)) Try.isAgg79 rfl) rfl rfl rfl ?_
                        refine VQ_ge rfl rfl rfl hc126 ?_
                        refine VQ_y (fun w' hw' => Y_move rfl) rfl rfl rfl ?_
                        refine VQ_tail (fun w134 hk135 => ?_)
                        try simp only [List.take, List.drop]
                        have ht136 := Kp.tr hk135 hA hB
                        replace hH := Hp.kp hH hk135
                        replace h8 := El.tr h8 ht136
                        replace h48 := Sl.tr h48 ht136
                        replace h89 := El.tr h89 ht136
                        replace h100 := El.tr h100 ht136
                        replace h102 := El.tr h102 ht136
                        replace h125 := El.tr h125 ht136
                        replace h127 := El.tr h127 ht136
                        replace hK := Tr.trans hK ht136
                        replace hr17 := Tr.trans hr17 ht136
                        replace hr38 := Tr.trans hr38 ht136
                        replace hr51 := Tr.trans hr51 ht136
                        replace hr73 := Tr.trans hr73 ht136
                        replace hr94 := Tr.trans hr94 ht136
                        replace hB := Nat.le_trans hB ht136.ex.size
                        replace hA := ht136.new
                        refine V_ge rfl rfl rfl hc126 ?_
                        obtain ⟨x137, hx137, ho92⟩ := Option.bind_eq_some_iff.1 ho92
                        refine V_call Try.call48 rfl rfl rfl rfl (portref2_Clock_Open_c w134 hB hA x128 b132 s24.2 hH hx137) ?_
                        rintro _ w138 ⟨A139, rfl, hH140, ht141⟩
                        replace h8 := El.tr h8 ht141
                        replace h48 := Sl.tr h48 ht141
                        replace h89 := El.tr h89 ht141
                        replace h100 := El.tr h100 ht141
                        replace h102 := El.tr h102 ht141
                        replace h125 := El.tr h125 ht141
                        replace h127 := El.tr h127 ht141
                        replace hK := Tr.trans hK ht141
                        replace hr17 := Tr.trans hr17 ht141
                        replace hr38 := Tr.trans hr38 ht141
                        replace hr51 := Tr.trans hr51 ht141
                        replace hr73 := Tr.trans hr73 ht141
                        replace hr94 := Tr.trans hr94 ht141
                        replace hB := Nat.le_trans hB ht141.ex.size
                        replace hA := ht141.new
                        replace hH : Hp B A139 w138 (obCk 107 portref2_ShiftsIn b132 x128 :: obC b_x [v_x] 82 :: obPX (obCk 107 portref2_ShiftsIn) 79 v_x x.clocks (Int.toNat x79.calendar) b132 :: L) := hH140
                        replace hH : Hp B A139 w138 (obC b_x [v_x] 82 :: obPS (obCk 107 portref2_ShiftsIn) 79 v_x x.clocks :: L) := Hp.psBack hH (i := 1) rfl hk133
                        refine V_y (Y_pick_te rfl hc126 rfl) rfl rfl rfl ?_
                        obtain rfl := Option.some.inj ho92
                        refine V_end (fun a ha142 => ?_)
                        exact ⟨A139, ha142.sub ⟨rfl, rfl, rfl, rfl, rfl, rfl, rfl, rfl, rfl, trivial⟩, ⟨hH, hr94⟩⟩
                      · rw [if_neg (nt hc126)] at ho92
                        refine VQ_gn rfl rfl rfl hc126 rfl rfl rfl ?_
                        refine VQ_gn rfl rfl rfl hc126 rfl rfl rfl ?_
                        refine VQ_gn rfl rfl rfl hc126 rfl rfl rfl ?_
                        refine VQ_gn rfl rfl rfl hc126 rfl rfl rfl ?_
                        refine VQ_gn rfl rfl rfl hc126 rfl rfl rfl ?_
                        refine VQ_gn rfl rfl rfl hc126 rfl rfl rfl ?_
                        refine VQ_gn rfl rfl rfl hc126 rfl rfl rfl ?_
                        refine VQ_gn rfl rfl rfl hc126 rfl rfl rfl ?_
                        refine VQ_gn rfl rfl rfl hc126 rfl rfl rfl ?_
                        refine VQ_tail (fun w143 hk144 => ?_)
                        try simp only [List.take, List.drop]
                        have ht145 := Kp.tr hk144 hA hB
                        replace hH := Hp.kp hH hk144
                        replace h8 := El.tr h8 ht145
                        replace h48 := Sl.tr h48 ht145
                        replace h89 := El.tr h89 ht145
                        replace h100 := El.tr h100 ht145
                        replace h102 := El.tr h102 ht145
                        replace h125 := El.tr h125 ht145
                        replace hK := Tr.trans hK ht145
                        replace hr17 := Tr.trans hr17 ht145
                        replace hr38 := Tr.trans hr38 ht145
                        replace hr51 := Tr.trans hr51 ht145
                        replace hr73 := Tr.trans hr73 ht145
                        replace hr94 := Tr.trans hr94 ht145
                        replace hB := Nat.le_trans hB ht145.ex.size
                        replace hA := ht145.new
                        refine V_gn rfl rfl rfl hc126 rfl rfl rfl ?_
                        refine V_y (Y_pick_fe rfl hc126 rfl) rfl rfl rfl ?_
                        obtain rfl := Option.some.inj ho92
                        refine V_end (fun a ha146 => ?_)
                        exact ⟨A60, ha146.sub ⟨rfl, rfl, rfl, rfl, rfl, rfl, rfl, rfl, rfl, trivial⟩, ⟨hH, hr94⟩⟩
                  · rw [if_neg (nt hc101)] at ho92
                    refine VQ_gn rfl rfl rfl hc101 rfl rfl rfl ?_
                    refine VQ_gn rfl rfl rfl hc101 rfl rfl rfl ?_
                    refine VQ_gn rfl rfl rfl hc101 rfl rfl rfl ?_
                    refine VQ_gn rfl rfl rfl hc101 rfl rfl rfl ?_
                    refine VQ_gu rfl rfl rfl rfl rfl ?_
                    refine VQ_gu rfl rfl rfl rfl rfl ?_
                    refine VQ_gu rfl rfl rfl rfl rfl ?_
                    refine VQ_gu rfl rfl rfl rfl rfl ?_
                    refine VQ_gn rfl rfl rfl hc101 rfl rfl rfl ?_
                    refine VQ_y (fun _ _ => Y_pick_fe rfl hc101 rfl) rfl rfl rfl ?_
                    refine VQ_y (fun w' hw' => Y_move rfl) rfl rfl rfl ?_
                    rcases Bool.eq_false_or_eq_true (false) with hc147 | hc147
                    · rw [if_pos hc147] at ho92
                      refine VQ_ge rfl rfl rfl hc147 ?_
                      refine VQ_y (fun w' hw' => Y_move rfl) rfl rfl rfl ?_
                      refine VQ_ge rfl rfl rfl hc147 ?_
                      refine VQ_y (fun w' hw' => Y_nilCheck rfl) rfl rfl rfl ?_
                      refine VQ_ge rfl rfl rfl hc147 ?_
                      refine VQ_y (fun w' hw' => Y_fieldAddrC (off2 := 0) Try.underlying82 rfl Try.sizeOf80 (by decide) rfl rfl) rfl rfl rfl ?_
                      refine VQ_ge rfl rfl rfl hc147 ?_
                      refine VQ_y (fun w' hw' => Y_load ((World.cell?_of_block (hw'.block _ (World.block_lt_of_cell? _ _ (Hp.cell (j := 0) hH (i := 0) rfl rfl)))).trans (Hp.cell (j := 0) hH (i := 0) rfl rfl)) Try.isAgg80 rfl) rfl rfl rfl ?_
                      refine VQ_ge rfl rfl rfl hc147 ?_
                      have h148 := El_level_Piece_2 h89
                      refine VQ_y (fun w' hw' => Y_fieldAddr Try.underlying64 rfl Try.sizeOf3 (by decide) rfl) rfl rfl rfl ?_
                      refine VQ_ge rfl rfl rfl hc147 ?_
                      refine VQ_y (fun w' hw' => Y_load (El.int (El.kp h148 hw')) Try.isAgg3 rfl) rfl rfl rfl ?_
                      refine VQ_ge rfl rfl rfl hc147 ?_
                      obtain ⟨x149, hx149, ho92⟩ := Option.bind_eq_some_iff.1 ho92
                      refine VQ_indexAddrPS (f := obCk 107 portref2_ShiftsIn) (e := 79) (v := v_x) (cs := x.clocks) hH (i := 1) rfl hx149 Try.underlying80 Try.sizeOf79 rfl rfl rfl ?_
                      intro b150 o151 b153 hk154 h152 hH
                      replace hH : Hp B A60 w87 (obCk 107 portref2_ShiftsIn b153 x149 :: obC b_x [v_x] 82 :: obPX (obCk 107 portref2_ShiftsIn) 79 v_x x.clocks (Int.toNat x79.calendar) b153 :: L) := hH
                      refine VQ_ge rfl rfl rfl hc147 ?_
                      refine VQ_y (fun w' hw' => Y_load ((World.cell?_of_block (hw'.block _ (World.block_lt_of_cell? _ _ (h152)))).trans (h152)) Try.isAgg79 rfl) rfl rfl rfl ?_
                      refine VQ_ge rfl rfl rfl hc147 ?_
                      refine VQ_y (fun w' hw' => Y_move rfl) rfl rfl rfl ?_
                      refine VQ_tail (fun w155 hk156 => ?_)
                      try simp only [List.take, List.drop]
                      have ht157 := Kp.tr hk156 hA hB
                      replace hH := Hp.kp hH hk156
                      replace h8 := El.tr h8 ht157
                      replace h48 := Sl.tr h48 ht157
                      replace h89 := El.tr h89 ht157
                      replace h100 := El.tr h100 ht157
                      replace h148 := El.tr h148 ht157
                      replace hK := Tr.trans hK ht157
                      replace hr17 := Tr.trans hr17 ht157
                      replace hr38 := Tr.trans hr38 ht157
                      replace hr51 := Tr.trans hr51 ht157
                      replace hr73 := Tr.trans hr73 ht157
                      replace hr94 := Tr.trans hr94 ht157
                      replace hB := Nat.le_trans hB ht157.ex.size
                      replace hA := ht157.new
                      refine V_ge rfl rfl rfl hc147 ?_
                      obtain ⟨x158, hx158, ho92⟩ := Option.bind_eq_some_iff.1 ho92
                      refine V_call Try.call48 rfl rfl rfl rfl (portref2_Clock_Open_c w155 hB hA x149 b153 s24.2 hH hx158) ?_
                      rintro _ w159 ⟨A160, rfl, hH161, ht162⟩
                      replace h8 := El.tr h8 ht162
                      replace h48 := Sl.tr h48 ht162
                      replace h89 := El.tr h89 ht162
                      replace h100 := El.tr h100 ht162
                      replace h148 := El.tr h148 ht162
                      replace hK := Tr.trans hK ht162
                      replace hr17 := Tr.trans hr17 ht162
                      replace hr38 := Tr.trans hr38 ht162
                      replace hr51 := Tr.trans hr51 ht162
                      replace hr73 := Tr.trans hr73 ht162
                      replace hr94 := Tr.trans hr94 ht162
                      replace hB := Nat.le_trans hB ht162.ex.size
                      replace hA := ht162.new
                      replace hH : Hp B A160 w159 (obCk 107 portref2_ShiftsIn b153 x149 :: obC b_x [v_x] 82 :: obPX (obCk 107 portref2_ShiftsIn) 79 v_x x.clocks (Int.toNat x79.calendar) b153 :: L) := hH161
                      replace hH : Hp B A160 w159 (obC b_x [v_x] 82 :: obPS (obCk 107 portref2_ShiftsIn) 79 v_x x.clocks :: L) := Hp.psBack hH (i := 1) rfl hk154
                      refine V_y (Y_pick_te rfl hc147 rfl) rfl rfl rfl ?_
                      obtain rfl := Option.some.inj ho92
                      refine V_end (fun a ha163 => ?_)
                      exact ⟨A160, ha163.sub ⟨rfl, rfl, rfl, rfl, rfl, rfl, rfl, rfl, rfl, trivial⟩, ⟨hH, hr94⟩⟩
                    · rw [if_neg (nt hc147)] at ho92
                      refine VQ_gn rfl rfl rfl hc147 rfl rfl rfl ?_
                      refine VQ_gn rfl rfl rfl hc147 rfl rfl rfl ?_
                      refine VQ_gn rfl rfl rfl hc147 rfl rfl rfl ?_
                      refine VQ_gn rfl rfl rfl hc147 rfl rfl rfl ?_
                      refine VQ_gn rfl rfl rfl hc147 rfl rfl rfl ?_
                      refine VQ_gn rfl rfl rfl hc147 rfl rfl rfl ?_
                      refine VQ_gn rfl rfl rfl hc147 rfl rfl rfl ?_
                      refine VQ_gn rfl rfl rfl hc147 rfl rfl rfl ?_
                      refine VQ_gn rfl rfl rfl hc147 rfl rfl rfl ?_
                      refine VQ_tail (fun w164 hk165 => ?_)
                      try simp only [List.take, List.drop]
                      have ht166 := Kp.tr hk165 hA hB
                      replace hH := Hp.kp hH hk165
                      replace h8 := El.tr h8 ht166
                      replace h48 := Sl.tr h48 ht166
                      replace h89 := El.tr h89 ht166
                      replace h100 := El.tr h100 ht166
                      replace hK := Tr.trans hK ht166
                      replace hr17 := Tr.trans hr17 ht166
                      replace hr38 := Tr.trans hr38 ht166
                      replace hr51 := Tr.trans hr51 ht166
                      replace hr73 := Tr.trans hr73 ht166
                      replace hr94 := Tr.trans hr94 ht166
                      replace hB := Nat.le_trans hB ht166.ex.size
                      replace hA := ht166.new
                      refine V_gn rfl rfl rfl hc147 rfl rfl rfl ?_
                      refine V_y (Y_pick_fe rfl hc147 rfl) rfl rfl rfl ?_
                      obtain rfl := Option.some.inj ho92
                      refine V_end (fun a ha167 => ?_)
                      exact ⟨A60, ha167.sub ⟨rfl, rfl, rfl, rfl, rfl, rfl, rfl, rfl, rfl, trivial⟩, ⟨hH, hr94⟩⟩
                rintro A98 w95 ⟨hH99, hk96⟩ a ha97
                replace h8 := El.tr h8 hk96
                replace h48 := Sl.tr h48 hk96
                replace hK := Tr.trans hK hk96
                replace hr17 := Tr.trans hr17 hk96
                replace hr38 := Tr.trans hr38 hk96
                replace hr51 := Tr.trans hr51 hk96
                replace hr73 := Tr.trans hr73 hk96
                replace hB := Nat.le_trans hB hk96.ex.size
                replace hA := hk96.new
                replace hH : Hp B A98 w95 (obC b_x [v_x] 82 :: obPS (obCk 107 portref2_ShiftsIn) 79 v_x x.clocks :: L) := hH99
                refine C_at (n := ⟨59, [], none⟩) (fun _ _ => rfl) ?_ ha97
                obtain ⟨s169, ho168, ho71⟩ := Option.bind_eq_some_iff.1 ho71
                refine C_cutG (ι := Unit) (fun (_ : Unit) => [(0, .pointer (some ⟨b_x, 0, none⟩)), (2, .int .i64 amount), (4, .pointer (some ⟨b5, 0, none⟩)), (7, .int .i64 s169), (8, .int .i64 s24.2), (22, v46), (23, .int .i64 (c.pieces.length : Int)), (24, .int .i64 (k52 : Int))]) (fun (_ : Unit) => fun w' => w95 = w') ?_ ?_
                · refine C_cond rfl (fun hc174 => ?_) (fun hc174 => ?_)
                  · rw [if_pos hc174] at ho168
                    refine C_region ?_
                    refine V_y (Y_move rfl) rfl rfl rfl ?_
                    refine V_y (Y_addI rfl rfl) rfl rfl rfl ?_
                    refine V_y (Y_assign rfl) rfl rfl rfl ?_
                    obtain rfl := Option.some.inj ho168
                    refine V_end (fun a ha175 => ?_)
                    exact ⟨(), ha175.sub ⟨rfl, rfl, rfl, rfl, rfl, rfl, rfl, rfl, trivial⟩, rfl⟩
                  · rw [if_neg (nt hc174)] at ho168
                    obtain rfl := Option.some.inj ho168
                    refine C_skip (fun a ha176 => ?_)
                    exact ⟨(), ha176.sub ⟨rfl, rfl, rfl, rfl, rfl, rfl, rfl, rfl, trivial⟩, rfl⟩
                rintro _ _ rfl a ha173
                obtain rfl := Option.some.inj ho71
                exact ⟨A98, ha173.sub ⟨rfl, rfl, rfl, rfl, rfl, rfl, rfl, rfl, trivial⟩, ⟨hH, hr73⟩⟩
              rintro A77 w74 ⟨hH78, hk75⟩ a ha76
              replace h8 := El.tr h8 hk75
              replace h48 := Sl.tr h48 hk75
              replace hK := Tr.trans hK hk75
              replace hr17 := Tr.trans hr17 hk75
              replace hr38 := Tr.trans hr38 hk75
              replace hr51 := Tr.trans hr51 hk75
              replace hB := Nat.le_trans hB hk75.ex.size
              replace hA := hk75.new
              replace hH : Hp B A77 w74 (obC b_x [v_x] 82 :: obPS (obCk 107 portref2_ShiftsIn) 79 v_x x.clocks :: L) := hH78
              refine C_at (n := ⟨59, [], none⟩) (fun _ _ => rfl) ?_ ha76
              refine C_region ?_
              refine V_y (Y_addI rfl rfl) rfl rfl rfl ?_
              refine V_y (Y_move rfl) rfl rfl rfl ?_
              obtain rfl := Option.some.inj h63
              refine V_end (fun a ha178 => ?_)
              exact ⟨s72, hlt66, h64, ⟨A77, ha178.sub ⟨rfl, rfl, rfl, rfl, rfl, rfl, rfl, (congrArg (fun z => some (Value.int .i64 z)) (w64_succ hlt66 hn69)), trivial⟩, ⟨hH, hr51⟩⟩⟩
            · refine C_exit (fun a ha179 => ?_)
              exact ⟨(s58, A60), ha179.sub ⟨rfl, rfl, rfl, rfl, rfl, trivial⟩, ⟨(h67 (eq_of_dec hle65 hc70)).symm, hH, hr51⟩⟩
          rintro ⟨s50, A56⟩ w53 ⟨rfl, hH57, hk54⟩ a ha55
          rw [Lp.andThen_fin] at ho36
          replace h8 := El.tr h8 hk54
          replace hK := Tr.trans hK hk54
          replace hr17 := Tr.trans hr17 hk54
          replace hr38 := Tr.trans hr38 hk54
          replace hB := Nat.le_trans hB hk54.ex.size
          replace hA := hk54.new
          replace hH : Hp B A56 w53 (obC b_x [v_x] 82 :: obPS (obCk 107 portref2_ShiftsIn) 79 v_x x.clocks :: L) := hH57
          obtain rfl := Option.some.inj ho36
          exact ⟨(s50, A56), ha55.sub ⟨rfl, rfl, rfl, rfl, rfl, trivial⟩, ⟨rfl, hH, hr38⟩⟩
      rintro ⟨s37, A42⟩ w39 ⟨rfl, hH43, hk40⟩ a ha41
      rw [Lp.andThen_fin] at h29
      replace h8 := El.tr h8 hk40
      replace hK := Tr.trans hK hk40
      replace hr17 := Tr.trans hr17 hk40
      replace hB := Nat.le_trans hB hk40.ex.size
      replace hA := hk40.new
      replace hH : Hp B A42 w39 (obC b_x [v_x] 82 :: obPS (obCk 107 portref2_ShiftsIn) 79 v_x x.clocks :: L) := hH43
      refine C_at (n := ⟨59, [], none⟩) (fun _ _ => rfl) ?_ ha41
      refine C_region ?_
      refine V_y (Y_move rfl) rfl rfl rfl ?_
      refine V_y (Y_addI rfl rfl) rfl rfl rfl ?_
      refine V_y (Y_assign rfl) rfl rfl rfl ?_
      obtain rfl := Option.some.inj h29
      refine V_end (fun a ha182 => ?_)
      exact ⟨(s37, w64 (s24.2 + 1)), h30, ⟨A42, ha182.sub ⟨rfl, rfl, rfl, rfl, rfl, trivial⟩, ⟨hH, hr17⟩⟩⟩
    · rw [if_neg (nt hc35)] at h29
      obtain rfl := Option.some.inj h29
      refine C_exit (fun a ha183 => ?_)
      exact ⟨((s24.1, s24.2), A26), ha183.sub ⟨rfl, trivial⟩, ⟨h30.symm, hH, hr17⟩⟩
  rintro ⟨s16, A22⟩ w19 ⟨rfl, hH23, hk20⟩ a ha21
  rw [Lp.andThen_fin] at hm
  replace hK := Tr.trans hK hk20
  replace hB := Nat.le_trans hB hk20.ex.size
  replace hA := hk20.new
  replace hH : Hp B A22 w19 (obC b_x [v_x] 82 :: obPS (obCk 107 portref2_ShiftsIn) 79 v_x x.clocks :: L) := hH23
  refine C_at (n := ⟨59, [], none⟩) (fun _ _ => rfl) ?_ ha21
  refine C_seq ?_
  refine C_region ?_
  refine V_y (Y_move rfl) rfl rfl rfl ?_
  refine V_y (Y_assign rfl) rfl rfl rfl ?_
  refine V_to (fun _ _ => rfl) ?_
  obtain rfl := Option.some.inj hm
  refine C_ret ?_
  try simp only [↓inBlock_ret, ↓then_ret]
  exact retQ rfl (Res.one Try.results50 rfl) ⟨A22, rfl, hH, hK⟩

set_option maxRecDepth 4000 in
set_option maxHeartbeats 4000000 in
theorem portref2_meter_due_c (w : World) {A : Nat → Prop} {B : Nat} (hB : B ≤ w.heap.size) (hA : ∀ b, w.heap.size ≤ b → A b) (x : portref2_meter) (b_x : Nat) (v_x : Value) (c : level_Clock) (v_c : Value) (h_c : Sl A w v_c c.pieces) {L : List Ob} (hH : Hp B A w (obC b_x [v_x] 82 :: obPS (obCk 107 portref2_ShiftsIn) 79 v_x x.clocks :: L)) {r : Int} (hm : portref2_meter_due x c = some r) : Ret Try.prog 35 #[.pointer (some ⟨b_x, 0, none⟩), .agg #[.int .i64 c.kind, .int .i64 c.level, .int .i64 c.minutes, .int .i64 c.start, .int .i64 c.stop, .int .i64 c.end_, v_c]] w fun v w' => ∃ A1 : Nat → Prop, v = .int .i64 r ∧ Hp B A1 w' (obC b_x [v_x] 82 :: obPS (obCk 107 portref2_ShiftsIn) 79 v_x x.clocks :: L) ∧ Tr B A w A1 w' := by
  unfold portref2_meter_due at hm
  refine enter Try.func35 rfl Try.ntmps35 rfl ?_
  have hK : Tr B A w A w := Tr.refl hA
  refine C_seq ?_
  refine C_region ?_
  refine V_box rfl rfl ?_
  intro b5 w6 h7
  have hk9 := h7.kp
  have h8 : El (α := level_Clock) A w6 b5 0 c := h7.el hA ⟨[.int .i64 c.kind], _, rfl, rfl, ⟨[.int .i64 c.level], _, rfl, rfl, ⟨[.int .i64 c.minutes], _, rfl, rfl, ⟨[.int .i64 c.start], _, rfl, rfl, ⟨[.int .i64 c.stop], _, rfl, rfl, ⟨[.int .i64 c.end_], _, rfl, rfl, ⟨_, rfl, h_c⟩⟩⟩⟩⟩⟩⟩
  have ht10 := Kp.tr hk9 hA hB
  replace hH := Hp.kp hH hk9
  replace h_c := Sl.tr h_c ht10
  replace hK := Tr.trans hK ht10
  replace hB := Nat.le_trans hB ht10.ex.size
  replace hA := ht10.new
  refine V_y (Y_assign rfl) rfl rfl rfl ?_
  refine V_to (fun _ _ => rfl) ?_
  refine C_seq ?_
  refine C_region ?_
  refine V_y (Y_move rfl) rfl rfl rfl ?_
  obtain ⟨v11, h13, h12⟩ := El_level_Clock h8
  refine V_y (Y_loadA h13 Try.isAgg35 Try.sizeOf35 rfl) rfl rfl rfl ?_
  have h14 := El_level_Clock_2 h8
  refine V_y (Y_fieldAddr Try.underlying35 rfl Try.sizeOf3 (by decide) rfl) rfl rfl rfl ?_
  refine V_y (Y_load (El.int h14) Try.isAgg3 rfl) rfl rfl rfl ?_
  refine V_y (Y_addI rfl rfl) rfl rfl rfl ?_
  replace hH : Hp B A w6 (obPS (obCk 107 portref2_ShiftsIn) 79 v_x x.clocks :: obC b_x [v_x] 82 :: L) := Hp.front hH (i := 1) rfl
  replace hH : Hp B A w6 (obC b_x [v_x] 82 :: obPS (obCk 107 portref2_ShiftsIn) 79 v_x x.clocks :: L) := Hp.front hH (i := 1) rfl
  obtain ⟨x15, hx15, hm⟩ := Option.bind_eq_some_iff.1 hm
  refine V_call Try.call50 rfl rfl rfl rfl (portref2_meter_first_c w6 hB hA x b_x v_x c v11 h12 (w64 (c.minutes + 1)) hH hx15) ?_
  rintro _ w17 ⟨A18, rfl, hH19, ht20⟩
  replace h8 := El.tr h8 ht20
  replace h12 := Sl.tr h12 ht20
  replace h14 := El.tr h14 ht20
  replace hK := Tr.trans hK ht20
  replace hB := Nat.le_trans hB ht20.ex.size
  replace hA := ht20.new
  replace hH : Hp B A18 w17 (obC b_x [v_x] 82 :: obPS (obCk 107 portref2_ShiftsIn) 79 v_x x.clocks :: L) := hH19
  refine V_y (Y_subI rfl rfl) rfl rfl rfl ?_
  refine V_y (Y_assign rfl) rfl rfl rfl ?_
  refine V_to (fun _ _ => rfl) ?_
  obtain rfl := Option.some.inj hm
  refine C_ret ?_
  try simp only [↓inBlock_ret, ↓then_ret]
  exact retQ rfl (Res.one Try.results35 rfl) ⟨A18, rfl, hH, hK⟩

set_option maxRecDepth 4000 in
set_option maxHeartbeats 4000000 in
theorem portref2_DueFromOf_c (w : World) {A : Nat → Prop} (hA : ∀ b, w.heap.size ≤ b → A b) (c : cal_Calendar) (v_c0 : Value) (h_c0 : Sl A w v_c0 c.zone.changes) (v_c1 : Value) (h_c1 : Sl A w v_c1 c.week) (v_c2 : Value) (h_c2 : Sl A w v_c2 c.specials) (start : Int) (minutes : Int) {r : (Int × Int)} (hm : portref2_DueFromOf c start minutes = some r) : Ret Try.prog 11 #[.agg #[.int .i64 c.zone.offset, v_c0, v_c1, v_c2], .int .i64 start, .int .i64 minutes] w fun v w' => v = .tuple #[.int .i64 r.1, .int .i64 r.2] ∧ Kp w w' := by
  unfold portref2_DueFromOf at hm
  refine enter Try.func11 rfl Try.ntmps11 rfl ?_
  have hA0 := hA
  have hB := Nat.le_refl w.heap.size
  have hK : Tr w.heap.size A w A w := Tr.refl hA
  have hH : Hp w.heap.size A w [] := Hp.nil
  refine C_seq ?_
  refine C_region ?_
  refine V_box rfl rfl ?_
  intro b7 w9 h10
  have hk12 := h10.kp
  have h11 : El (α := cal_Calendar) A w9 b7 0 c := h10.el hA ⟨[.int .i64 c.zone.offset, v_c0], _, rfl, ⟨[.int .i64 c.zone.offset], _, rfl, rfl, ⟨_, rfl, h_c0⟩⟩, ⟨[v_c1], _, rfl, ⟨_, rfl, h_c1⟩, ⟨_, rfl, h_c2⟩⟩⟩
  have ht13 := Kp.tr hk12 hA hB
  replace hH := Hp.kp hH hk12
  replace h_c0 := Sl.tr h_c0 ht13
  replace h_c1 := Sl.tr h_c1 ht13
  replace h_c2 := Sl.tr h_c2 ht13
  replace hK := Tr.trans hK ht13
  replace hB := Nat.le_trans hB ht13.ex.size
  replace hA := ht13.new
  refine V_y (Y_assign rfl) rfl rfl rfl ?_
  refine V_y (Y_assign rfl) rfl rfl rfl ?_
  refine V_to (fun _ _ => rfl) ?_
  refine C_seq ?_
  refine C_seq ?_
  refine C_region ?_
  obtain ⟨v14, v16, v18, h20, h15, h17, h19⟩ := El_cal_Calendar h11
  refine V_y (Y_loadA h20 Try.isAgg28 Try.sizeOf28 rfl) rfl rfl rfl ?_
  obtain ⟨x21, hx21, hm⟩ := Option.bind_eq_some_iff.1 hm
  refine V_call Try.call32 rfl rfl rfl rfl (portref2_CalendarFault_c w9 hA c v14 h15 v16 h17 v18 h19 hx21) ?_
  rintro _ w22 ⟨rfl, hk23⟩
  have ht24 := Kp.tr hk23 hA hB
  replace hH := Hp.kp hH hk23
  replace h11 := El.tr h11 ht24
  replace h15 := Sl.tr h15 ht24
  replace h17 := Sl.tr h17 ht24
  replace h19 := Sl.tr h19 ht24
  replace hK := Tr.trans hK ht24
  replace hB := Nat.le_trans hB ht24.ex.size
  replace hA := ht24.new
  refine V_y (Y_assign rfl) rfl rfl rfl ?_
  refine V_to (fun _ _ => rfl) ?_
  refine C_seq ?_
  refine C_region ?_
  refine V_y (Y_move rfl) rfl rfl rfl ?_
  refine V_y (Y_neq rfl rfl) rfl rfl rfl ?_
  refine V_to (fun _ _ => rfl) ?_
  refine C_cond rfl (fun hc25 => ?_) (fun hc25 => ?_)
  · rw [if_pos hc25] at hm
    refine C_seq ?_
    refine C_region ?_
    refine V_y (Y_move rfl) rfl rfl rfl ?_
    refine V_y (Y_assign rfl) rfl rfl rfl ?_
    refine V_y (Y_assign rfl) rfl rfl rfl ?_
    refine V_to (fun _ _ => rfl) ?_
    obtain rfl := Option.some.inj hm
    refine C_ret ?_
    try simp only [↓inBlock_ret, ↓then_ret]
    exact retQ rfl (Res.two Try.results11 rfl rfl) ⟨rfl, hK.kp⟩
  · rw [if_neg (nt hc25)] at hm
    refine C_skip_to (fun _ _ => rfl) ?_
    refine C_seq ?_
    refine C_seq ?_
    refine C_region ?_
    refine V_y (Y_move rfl) rfl rfl rfl ?_
    refine V_call Try.call33 rfl rfl rfl rfl (portref2_IsMoment_c w22 start) ?_
    rintro _ _ ⟨rfl, rfl⟩
    refine V_y (Y_not rfl) rfl rfl rfl ?_
    refine V_y (Y_move rfl) rfl rfl rfl ?_
    refine V_cut 3 (fun _ : Unit => [(1, .int .i64 start), (2, .int .i64 minutes), (3, .pointer (some ⟨b7, 0, none⟩)), (20, .bool ((!(portref2_IsMoment start)) || (decide (minutes < 0))))]) (fun _ w' => w22 = w') ?_ ?_
    · simp only [List.take, List.drop]
      rcases Bool.eq_false_or_eq_true (!(portref2_IsMoment start)) with hc26 | hc26
      · refine V_gn rfl rfl rfl hc26 rfl rfl rfl ?_
        refine V_gn rfl rfl rfl hc26 rfl rfl rfl ?_
        refine V_y (Y_pick_te rfl hc26 rfl) rfl rfl rfl ?_
        exact V_end fun a ha => ⟨(), ha.sub ⟨rfl, rfl, rfl, (by rw [hc26]; rfl), trivial⟩, rfl⟩
      · refine V_ge rfl rfl rfl hc26 ?_
        refine V_y (Y_move rfl) rfl rfl rfl ?_
        refine V_ge rfl rfl rfl hc26 ?_
        refine V_y (Y_lss rfl rfl) rfl rfl rfl ?_
        refine V_y (Y_pick_fe rfl hc26 rfl) rfl rfl rfl ?_
        exact V_end fun a ha => ⟨(), ha.sub ⟨rfl, rfl, rfl, (by rw [hc26]; rfl), trivial⟩, rfl⟩
    simp only [List.take, List.drop]
    rintro _ _ rfl
    refine V_y (Y_move rfl) rfl rfl rfl ?_
    refine V_cut 3 (fun _ : Unit => [(1, .int .i64 start), (2, .int .i64 minutes), (3, .pointer (some ⟨b7, 0, none⟩)), (24, .bool (((!(portref2_IsMoment start)) || (decide (minutes < 0))) || (decide ((100000 : Int) < minutes))))]) (fun _ w' => w22 = w') ?_ ?_
    · simp only [List.take, List.drop]
      rcases Bool.eq_false_or_eq_true (((!(portref2_IsMoment start)) || (decide (minutes < 0)))) with hc28 | hc28
      · refine V_gn rfl rfl rfl hc28 rfl rfl rfl ?_
        refine V_gn rfl rfl rfl hc28 rfl rfl rfl ?_
        refine V_y (Y_pick_te rfl hc28 rfl) rfl rfl rfl ?_
        exact V_end fun a ha => ⟨(), ha.sub ⟨rfl, rfl, rfl, (by rw [hc28]; rfl), trivial⟩, rfl⟩
      · refine V_ge rfl rfl rfl hc28 ?_
        refine V_y (Y_move rfl) rfl rfl rfl ?_
        refine V_ge rfl rfl rfl hc28 ?_
        refine V_y (Y_gtr rfl rfl) rfl rfl rfl ?_
        refine V_y (Y_pick_fe rfl hc28 rfl) rfl rfl rfl ?_
        exact V_end fun a ha => ⟨(), ha.sub ⟨rfl, rfl, rfl, (by rw [hc28]; rfl), trivial⟩, rfl⟩
    simp only [List.take, List.drop]
    rintro _ _ rfl
    refine V_to (fun _ _ => rfl) ?_
    refine C_cond rfl (fun hc30 => ?_) (fun hc30 => ?_)
    · rw [if_pos hc30] at hm
      refine C_seq ?_
      refine C_region ?_
      refine V_y (Y_assign rfl) rfl rfl rfl ?_
      refine V_y (Y_assign rfl) rfl rfl rfl ?_
      refine V_to (fun _ _ => rfl) ?_
      obtain rfl := Option.some.inj hm
      refine C_ret ?_
      try simp only [↓inBlock_ret, ↓then_ret]
      exact retQ rfl (Res.two Try.results11 rfl rfl) ⟨rfl, hK.kp⟩
    · rw [if_neg (nt hc30)] at hm
      refine C_skip_to (fun _ _ => rfl) ?_
      refine C_seq ?_
      refine C_region ?_
      obtain ⟨v31, v33, v35, h37, h32, h34, h36⟩ := El_cal_Calendar h11
      refine V_y (Y_loadA h37 Try.isAgg28 Try.sizeOf28 rfl) rfl rfl rfl ?_
      refine V_buildSlice (l := ([c] : List cal_Calendar)) (len := 1) Try.underlying36 Try.sizeOf28 Try.zeroValue28 rfl (by with_unfolding_all rfl) (by decide) (by decide) hA ⟨[.int .i64 c.zone.offset, v31, v33, v35], _, rfl, ⟨[.int .i64 c.zone.offset, v31], _, rfl, ⟨[.int .i64 c.zone.offset], _, rfl, rfl, ⟨_, rfl, h32⟩⟩, ⟨[v33], _, rfl, ⟨_, rfl, h34⟩, ⟨_, rfl, h36⟩⟩⟩, rfl⟩ rfl rfl ?_
      intro v38 w39 hk41 h40
      have ht42 := Kp.tr hk41 hA hB
      replace hH := Hp.kp hH hk41
      replace h11 := El.tr h11 ht42
      replace h32 := Sl.tr h32 ht42
      replace h34 := Sl.tr h34 ht42
      replace h36 := Sl.tr h36 ht42
      replace hK := Tr.trans hK ht42
      replace hB := Nat.le_trans hB ht42.ex.size
      replace hA := ht42.new
      obtain ⟨x43, hx43, hm⟩ := Option.bind_eq_some_iff.1 hm
      refine V_call Try.call34 rfl rfl rfl rfl (portref2_newMeter_c w39 hB hA ([c] : List cal_Calendar) v38 h40 hH hx43) ?_
      rintro _ w47 ⟨b44, v45, A48, rfl, hH49, ht50⟩
      replace h11 := El.tr h11 ht50
      replace h32 := Sl.tr h32 ht50
      replace h34 := Sl.tr h34 ht50
      replace h36 := Sl.tr h36 ht50
      replace h40 := Sl.tr h40 ht50
      replace hK := Tr.trans hK ht50
      replace hB := Nat.le_trans hB ht50.ex.size
      replace hA := ht50.new
      replace hH : Hp w.heap.size A48 w47 (obC b44 [v45] 82 :: obPS (obCk 107 portref2_ShiftsIn) 79 v45 x43.clocks :: []) := hH49
      refine V_y (Y_move rfl) rfl rfl rfl ?_
      refine V_y (Y_move rfl) rfl rfl rfl ?_
      refine V_y (Y_move rfl) rfl rfl rfl ?_
      refine V_y (Y_build Try.underlying64 Try.zeroValue64 (Try_places64 _ Try.underlying64) rfl (by with_unfolding_all rfl)) rfl rfl rfl ?_
      refine V_buildSlice (l := ([(⟨start, (-1), 0⟩ : level_Piece)] : List level_Piece)) (len := 1) Try.underlying33 Try.sizeOf64 Try.zeroValue64 rfl (by with_unfolding_all rfl) (by decide) (by decide) hA ⟨[.int .i64 start, .int .i64 (-1), .int .i64 0], _, rfl, ⟨[.int .i64 start], _, rfl, rfl, ⟨[.int .i64 (-1)], _, rfl, rfl, rfl⟩⟩, rfl⟩ rfl rfl ?_
      intro v51 w52 hk54 h53
      have ht55 := Kp.tr hk54 hA hB
      replace hH := Hp.kp hH hk54
      replace h11 := El.tr h11 ht55
      replace h32 := Sl.tr h32 ht55
      replace h34 := Sl.tr h34 ht55
      replace h36 := Sl.tr h36 ht55
      replace h40 := Sl.tr h40 ht55
      replace hK := Tr.trans hK ht55
      replace hB := Nat.le_trans hB ht55.ex.size
      replace hA := ht55.new
      refine V_y (Y_build (cells := #[.int .i64 0, .int .i64 0, .int .i64 minutes, .int .i64 start, .int .i64 (-1), .int .i64 0, v51]) Try.underlying35 Try.zeroValue35 (Try_places35 _ Try.underlying35) rfl (by obtain ⟨a56, c57, e58, _⟩ := Sl.form h53; subst e58; with_unfolding_all rfl)) rfl rfl rfl ?_
      replace hH : Hp w.heap.size A48 w52 (obPS (obCk 107 portref2_ShiftsIn) 79 v45 x43.clocks :: obC b44 [v45] 82 :: []) := Hp.front hH (i := 1) rfl
      replace hH : Hp w.heap.size A48 w52 (obC b44 [v45] 82 :: obPS (obCk 107 portref2_ShiftsIn) 79 v45 x43.clocks :: []) := Hp.front hH (i := 1) rfl
      obtain ⟨x59, hx59, hm⟩ := Option.bind_eq_some_iff.1 hm
      refine V_call Try.call35 rfl rfl rfl rfl (portref2_meter_due_c w52 hB hA x43 b44 v45 (⟨0, 0, minutes, start, (-1), 0, ([(⟨start, (-1), 0⟩ : level_Piece)] : List level_Piece)⟩ : level_Clock) v51 h53 hH hx59) ?_
      rintro _ w60 ⟨A61, rfl, hH62, ht63⟩
      replace h11 := El.tr h11 ht63
      replace h32 := Sl.tr h32 ht63
      replace h34 := Sl.tr h34 ht63
      replace h36 := Sl.tr h36 ht63
      replace h40 := Sl.tr h40 ht63
      replace h53 := Sl.tr h53 ht63
      replace hK := Tr.trans hK ht63
      replace hB := Nat.le_trans hB ht63.ex.size
      replace hA := ht63.new
      replace hH : Hp w.heap.size A61 w60 (obC b44 [v45] 82 :: obPS (obCk 107 portref2_ShiftsIn) 79 v45 x43.clocks :: []) := hH62
      refine V_y (Y_assign rfl) rfl rfl rfl ?_
      refine V_y (Y_assign rfl) rfl rfl rfl ?_
      refine V_to (fun _ _ => rfl) ?_
      obtain rfl := Option.some.inj hm
      refine C_ret ?_
      try simp only [↓inBlock_ret, ↓then_ret]
      exact retQ rfl (Res.two Try.results11 rfl rfl) ⟨rfl, hK.kp⟩

set_option maxRecDepth 4000 in
set_option maxHeartbeats 4000000 in
theorem portlaw2_ClockDueFrom_c (w : World) {A : Nat → Prop} (hA : ∀ b, w.heap.size ≤ b → A b) (c : cal_Calendar) (v_c0 : Value) (h_c0 : Sl A w v_c0 c.zone.changes) (v_c1 : Value) (h_c1 : Sl A w v_c1 c.week) (v_c2 : Value) (h_c2 : Sl A w v_c2 c.specials) (start : Int) (minutes : Int) {r : Bool} (hm : portlaw2_ClockDueFrom c start minutes = some r) : Ret Try.prog 3 #[.agg #[.int .i64 c.zone.offset, v_c0, v_c1, v_c2], .int .i64 start, .int .i64 minutes] w fun v w' => v = .bool r ∧ Kp w w' := by
  unfold portlaw2_ClockDueFrom at hm
  refine enter Try.func3 rfl Try.ntmps3 rfl ?_
  have hA0 := hA
  have hB := Nat.le_refl w.heap.size
  have hK : Tr w.heap.size A w A w := Tr.refl hA
  have hH : Hp w.heap.size A w [] := Hp.nil
  refine C_seq ?_
  refine C_region ?_
  refine V_box rfl rfl ?_
  intro b7 w9 h10
  have hk12 := h10.kp
  have h11 : El (α := cal_Calendar) A w9 b7 0 c := h10.el hA ⟨[.int .i64 c.zone.offset, v_c0], _, rfl, ⟨[.int .i64 c.zone.offset], _, rfl, rfl, ⟨_, rfl, h_c0⟩⟩, ⟨[v_c1], _, rfl, ⟨_, rfl, h_c1⟩, ⟨_, rfl, h_c2⟩⟩⟩
  have ht13 := Kp.tr hk12 hA hB
  replace hH := Hp.kp hH hk12
  replace h_c0 := Sl.tr h_c0 ht13
  replace h_c1 := Sl.tr h_c1 ht13
  replace h_c2 := Sl.tr h_c2 ht13
  replace hK := Tr.trans hK ht13
  replace hB := Nat.le_trans hB ht13.ex.size
  replace hA := ht13.new
  refine V_y (Y_assign rfl) rfl rfl rfl ?_
  refine V_to (fun _ _ => rfl) ?_
  refine C_seq ?_
  refine C_region ?_
  obtain ⟨v14, v16, v18, h20, h15, h17, h19⟩ := El_cal_Calendar h11
  refine V_y (Y_loadA h20 Try.isAgg28 Try.sizeOf28 rfl) rfl rfl rfl ?_
  refine V_y (Y_move rfl) rfl rfl rfl ?_
  refine V_y (Y_move rfl) rfl rfl rfl ?_
  obtain ⟨x21, hx21, hm⟩ := Option.bind_eq_some_iff.1 hm
  refine V_call Try.call10 rfl rfl rfl rfl (level_DueFrom_c w9 hA c v14 h15 v16 h17 v18 h19 start minutes hx21) ?_
  rintro _ w22 ⟨rfl, hk23⟩
  have ht24 := Kp.tr hk23 hA hB
  replace hH := Hp.kp hH hk23
  replace h11 := El.tr h11 ht24
  replace h15 := Sl.tr h15 ht24
  replace h17 := Sl.tr h17 ht24
  replace h19 := Sl.tr h19 ht24
  replace hK := Tr.trans hK ht24
  replace hB := Nat.le_trans hB ht24.ex.size
  replace hA := ht24.new
  refine V_y (Y_move rfl) rfl rfl rfl ?_
  refine V_y (Y_extract rfl rfl) rfl rfl rfl ?_
  refine V_y (Y_extract rfl rfl) rfl rfl rfl ?_
  refine V_y (Y_assign rfl) rfl rfl rfl ?_
  refine V_y (Y_assign rfl) rfl rfl rfl ?_
  refine V_to (fun _ _ => rfl) ?_
  refine C_seq ?_
  refine C_region ?_
  obtain ⟨v25, v27, v29, h31, h26, h28, h30⟩ := El_cal_Calendar h11
  refine V_y (Y_loadA h31 Try.isAgg28 Try.sizeOf28 rfl) rfl rfl rfl ?_
  refine V_y (Y_move rfl) rfl rfl rfl ?_
  refine V_y (Y_move rfl) rfl rfl rfl ?_
  obtain ⟨x32, hx32, hm⟩ := Option.bind_eq_some_iff.1 hm
  refine V_call Try.call11 rfl rfl rfl rfl (portref2_DueFromOf_c w22 hA c v25 h26 v27 h28 v29 h30 start minutes hx32) ?_
  rintro _ w33 ⟨rfl, hk34⟩
  have ht35 := Kp.tr hk34 hA hB
  replace hH := Hp.kp hH hk34
  replace h11 := El.tr h11 ht35
  replace h26 := Sl.tr h26 ht35
  replace h28 := Sl.tr h28 ht35
  replace h30 := Sl.tr h30 ht35
  replace hK := Tr.trans hK ht35
  replace hB := Nat.le_trans hB ht35.ex.size
  replace hA := ht35.new
  refine V_y (Y_move rfl) rfl rfl rfl ?_
  refine V_y (Y_extract rfl rfl) rfl rfl rfl ?_
  refine V_y (Y_extract rfl rfl) rfl rfl rfl ?_
  refine V_y (Y_assign rfl) rfl rfl rfl ?_
  refine V_y (Y_assign rfl) rfl rfl rfl ?_
  refine V_to (fun _ _ => rfl) ?_
  refine C_seq ?_
  refine C_region ?_
  refine V_y (Y_move rfl) rfl rfl rfl ?_
  refine V_y (Y_move rfl) rfl rfl rfl ?_
  refine V_y (Y_eql rfl rfl) rfl rfl rfl ?_
  refine V_y (Y_move rfl) rfl rfl rfl ?_
  refine V_cut 4 (fun _ : Unit => [(32, .bool ((x21.1 == x32.1) && (x21.2 == x32.2)))]) (fun _ w' => w33 = w') ?_ ?_
  · simp only [List.take, List.drop]
    rcases Bool.eq_false_or_eq_true (x21.1 == x32.1) with hc36 | hc36
    · refine V_ge rfl rfl rfl hc36 ?_
      refine V_y (Y_move rfl) rfl rfl rfl ?_
      refine V_ge rfl rfl rfl hc36 ?_
      refine V_y (Y_move rfl) rfl rfl rfl ?_
      refine V_ge rfl rfl rfl hc36 ?_
      refine V_y (Y_eql rfl rfl) rfl rfl rfl ?_
      refine V_y (Y_pick_te rfl hc36 rfl) rfl rfl rfl ?_
      exact V_end fun a ha => ⟨(), ha.sub ⟨(by rw [hc36]; rfl), trivial⟩, rfl⟩
    · refine V_gn rfl rfl rfl hc36 rfl rfl rfl ?_
      refine V_gn rfl rfl rfl hc36 rfl rfl rfl ?_
      refine V_gn rfl rfl rfl hc36 rfl rfl rfl ?_
      refine V_y (Y_pick_fe rfl hc36 rfl) rfl rfl rfl ?_
      exact V_end fun a ha => ⟨(), ha.sub ⟨(by rw [hc36]; rfl), trivial⟩, rfl⟩
  simp only [List.take, List.drop]
  rintro _ _ rfl
  refine V_y (Y_assign rfl) rfl rfl rfl ?_
  refine V_to (fun _ _ => rfl) ?_
  obtain rfl := Option.some.inj hm
  refine C_ret ?_
  try simp only [↓inBlock_ret, ↓then_ret]
  exact retQ rfl (Res.one Try.results3 rfl) ⟨rfl, hK.kp⟩

end Go.Proofs.Ytpfoimbklbkcpaa.W
