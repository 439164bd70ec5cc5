/-
  Written by program (gen.py) from the IR of the dump: each function computes its model.
-/
import Derived.Test.YtigplgkbilmabaaDoorRouteNeedsW0
namespace Go.Proofs.YtigplgkbilmabaaDoor.W
open Go Go.RowKit Go.Pu Go.Gw Go.Proofs Go.Proofs.YtigplgkbilmabaaDoor.M
set_option linter.unusedVariables false
set_option linter.unusedSimpArgs false

set_option maxRecDepth 4000 in
set_option maxHeartbeats 4000000 in
theorem portref2_WorkFault_c (w : World) {A : Nat → Prop} (hA : ∀ b, w.heap.size ≤ b → A b) (l : (List route_Work)) (v_l : Value) (h_l : Sl A w v_l l) {r : Int} (hm : portref2_WorkFault l = some r) : Ret Tryd.prog 30 #[v_l] w fun v w' => v = .int .i64 r ∧ Kp w w' := by
  unfold portref2_WorkFault at hm
  refine enter Tryd.func30 rfl Tryd.ntmps30 rfl ?_
  have hA0 := hA
  have hB := Nat.le_refl w.heap.size
  have hK : Tr w.heap.size A w A w := Tr.refl hA
  have hH : Hp w.heap.size A w [] := Hp.nil
  refine C_seq ?_
  refine C_region ?_
  refine V_y (Y_assign rfl) rfl rfl rfl ?_
  refine V_to (fun _ _ => rfl) ?_
  refine C_seq ?_
  refine C_seq ?_
  refine C_region ?_
  refine V_y (Y_move rfl) rfl rfl rfl ?_
  refine V_y (Y_lenSl h_l rfl Tryd.underlying53 rfl) rfl rfl rfl ?_
  refine V_y (Y_gtr rfl rfl) rfl rfl rfl ?_
  refine V_to (fun _ _ => rfl) ?_
  refine C_cond rfl (fun hc3 => ?_) (fun hc3 => ?_)
  · rw [if_pos hc3] at hm
    refine C_seq ?_
    refine C_region ?_
    refine V_y (Y_assign rfl) rfl rfl rfl ?_
    refine V_to (fun _ _ => rfl) ?_
    obtain rfl := Option.some.inj hm
    refine C_ret ?_
    try simp only [↓inBlock_ret, ↓then_ret]
    exact retQ rfl (Res.one Tryd.results30 rfl) ⟨rfl, hK.kp⟩
  · rw [if_neg (nt hc3)] at hm
    refine C_skip_to (fun _ _ => rfl) ?_
    refine C_seq ?_
    refine C_seq ?_
    refine C_region ?_
    refine V_y (Y_move rfl) rfl rfl rfl ?_
    refine V_y (Y_lenSl h_l rfl Tryd.underlying53 rfl) rfl rfl rfl ?_
    refine V_y (Y_move rfl) rfl rfl rfl ?_
    refine V_to (fun _ _ => rfl) ?_
    have hn25 := Sl.le h_l
    obtain ⟨o4, ho4, hm⟩ := Option.bind_eq_some_iff.1 hm
    refine C_cutG (ι := (Unit × (Nat → Prop))) (fun ⟨s5, A12⟩ => []) (fun ⟨s5, A12⟩ => fun w' => o4 = .fin s5 ∧ Hp w.heap.size A12 w' ([]) ∧ Tr w.heap.size A w A12 w') ?_ ?_
    · refine C_block ?_
      refine C_range ho4 (fun k7 _ a w' => ∃ i : (Nat → Prop), Has ⟨73, [], none⟩ a ([(0, v_l), (9, v_l), (10, .int .i64 (l.length : Int)), (11, .int .i64 (k7 : Int))]) ∧ Hp w.heap.size i w' ([]) ∧ Tr w.heap.size A w i w') (fun a ha => ⟨A, ha.sub ⟨rfl, rfl, rfl, rfl, trivial⟩, ⟨hH, Tr.refl hA⟩⟩) ?_
      rintro K k7 _ a w15 ⟨A16, ha100, hH17, hr6⟩ hle21 K24 h23
      refine C_of ?_ ha100
      replace h_l := Sl.tr h_l hr6
      replace hK := Tr.trans hK hr6
      replace hB := Nat.le_trans hB hr6.ex.size
      replace hA := hr6.new
      replace hH : Hp w.heap.size A16 w15 ([]) := hH17
      refine C_seq (C_region (V_y (Y_lss rfl rfl) rfl rfl rfl (V_to (fun _ _ => rfl) ?_)))
      refine C_seq ?_
      refine C_cond rfl (fun hc26 => ?_) (fun hc26 => ?_)
      · have hlt22 := lt_of_dec hc26
        obtain ⟨x18, h19, h20⟩ := K24 hlt22
        refine C_skip_to (fun _ _ => rfl) ?_
        refine C_seq ?_
        refine C_block ?_
        refine C_seq ?_
        refine C_region ?_
        refine V_y (Y_move rfl) rfl rfl rfl ?_
        obtain ⟨x27, hx27, h19⟩ := Option.bind_eq_some_iff.1 h19
        refine V_indexAddr h_l hx27 Tryd.underlying53 Tryd.sizeOf35 rfl rfl rfl ?_
        intro b28 o29 h30
        obtain ⟨v31, h33, h32⟩ := El_route_Work h30
        refine V_y (Y_loadA h33 Tryd.isAgg35 Tryd.sizeOf35 rfl) rfl rfl rfl ?_
        refine V_alloc Tryd.zeroValue35 rfl ?_
        intro b34 w35 h36
        refine V_y (Y_assign rfl) rfl rfl rfl ?_
        have h41 : (v31).oneCell' = true := by obtain ⟨_, _, e, _⟩ := Sl.form h32; rw [e]; rfl
        refine V_storeNew h36 Tryd.sizeOf35 rfl rfl rfl rfl (by exact (List.forall_mem_cons.2 ⟨rfl, (List.forall_mem_cons.2 ⟨rfl, (List.forall_mem_cons.2 ⟨rfl, (List.forall_mem_cons.2 ⟨rfl, (List.forall_mem_cons.2 ⟨rfl, (List.forall_mem_cons.2 ⟨h41, (fun _ h => nomatch h)⟩)⟩)⟩)⟩)⟩)⟩)) ?_
        intro w37 h38
        have hk43 := h38.kp
        have h42 : El (α := route_Work) A16 w37 b34 0 x27 := h38.el hA ⟨[.int .i64 x27.ticket], _, rfl, rfl, ⟨[.int .i64 x27.weight], _, rfl, rfl, ⟨[.int .i64 x27.urgency], _, rfl, rfl, ⟨[.int .i64 x27.since], _, rfl, rfl, ⟨[.int .i64 x27.former], _, rfl, rfl, ⟨_, rfl, h32⟩⟩⟩⟩⟩⟩
        have ht44 := Kp.tr hk43 hA hB
        replace hH := Hp.kp hH hk43
        replace h_l := Sl.tr h_l ht44
        replace h30 := El.tr h30 ht44
        replace h32 := Sl.tr h32 ht44
        replace hK := Tr.trans hK ht44
        replace hr6 := Tr.trans hr6 ht44
        replace hB := Nat.le_trans hB ht44.ex.size
        replace hA := ht44.new
        refine V_to (fun _ _ => rfl) ?_
        refine C_seq ?_
        refine C_block ?_
        refine C_seq ?_
        refine C_region ?_
        have h45 := El_route_Work_0 h42
        refine V_y (Y_fieldAddr Tryd.underlying35 rfl Tryd.sizeOf3 (by decide) rfl) rfl rfl rfl ?_
        refine V_y (Y_load (El.int h45) Tryd.isAgg3 rfl) rfl rfl rfl ?_
        refine V_y (Y_lss rfl rfl) rfl rfl rfl ?_
        refine V_y (Y_move rfl) rfl rfl rfl ?_
        refine V_cut 4 (fun _ : Unit => [(0, v_l), (3, .int .i64 (k7 : Int)), (4, .pointer (some ⟨b34, 0, none⟩)), (9, v_l), (10, .int .i64 (l.length : Int)), (11, .int .i64 (k7 : Int)), (24, .bool ((decide (x27.ticket < 1)) || (decide ((400 : Int) < x27.ticket))))]) (fun _ w' => w37 = w') ?_ ?_
        · simp only [List.take, List.drop]
          rcases Bool.eq_false_or_eq_true (decide (x27.ticket < 1)) with hc46 | hc46
          · refine V_gn rfl rfl rfl hc46 rfl rfl rfl ?_
            refine V_gn rfl rfl rfl hc46 rfl rfl rfl ?_
            refine V_gn rfl rfl rfl hc46 rfl rfl rfl ?_
            refine V_y (Y_pick_te rfl hc46 rfl) rfl rfl rfl ?_
            exact V_end fun a ha => ⟨(), ha.sub ⟨rfl, rfl, rfl, rfl, rfl, rfl, (by rw [hc46]; rfl), trivial⟩, rfl⟩
          · refine V_ge rfl rfl rfl hc46 ?_
            have h48 := El_route_Work_0 h42
            refine V_y (Y_fieldAddr Tryd.underlying35 rfl Tryd.sizeOf3 (by decide) rfl) rfl rfl rfl ?_
            refine V_ge rfl rfl rfl hc46 ?_
            refine V_y (Y_load (El.int h48) Tryd.isAgg3 rfl) rfl rfl rfl ?_
            refine V_ge rfl rfl rfl hc46 ?_
            refine V_y (Y_gtr rfl rfl) rfl rfl rfl ?_
            refine V_y (Y_pick_fe rfl hc46 rfl) rfl rfl rfl ?_
            exact V_end fun a ha => ⟨(), ha.sub ⟨rfl, rfl, rfl, rfl, rfl, rfl, (by rw [hc46]; rfl), trivial⟩, rfl⟩
        simp only [List.take, List.drop]
        rintro _ _ rfl
        refine V_y (Y_assign rfl) rfl rfl rfl ?_
        refine V_to (fun _ _ => rfl) ?_
        refine C_cond rfl (fun hc49 => ?_) (fun hc49 => ?_)
        · rw [if_pos hc49] at h19
          refine C_seq ?_
          refine C_region ?_
          refine V_y (Y_assign rfl) rfl rfl rfl ?_
          refine V_to (fun _ _ => rfl) ?_
          obtain rfl := Option.some.inj h19
          obtain rfl := (h20 : Lp.rt _ = _)
          rw [Lp.andThen_rt] at hm
          obtain rfl := Option.some.inj hm
          refine C_ret ?_
          try simp only [↓inBlock_ret, ↓then_ret]
          exact retQ rfl (Res.one Tryd.results30 rfl) ⟨rfl, hK.kp⟩
        · rw [if_neg (nt hc49)] at h19
          refine C_seq ?_
          refine C_region ?_
          refine V_y (Y_move rfl) rfl rfl rfl ?_
          refine V_y (Y_move rfl) rfl rfl rfl ?_
          obtain ⟨x50, hx50, h19⟩ := Option.bind_eq_some_iff.1 h19
          obtain ⟨v51, h52, h52y⟩ := sliceL_val hx50 h_l
          refine V_y (Y_sliceLH h52y Tryd.underlying53 Tryd.sizeOf35 rfl rfl) rfl rfl rfl ?_
          refine V_y (Y_makeFunc rfl rfl) rfl rfl rfl ?_
          obtain ⟨x54, hx54, h19⟩ := Option.bind_eq_some_iff.1 h19
          refine V_call Tryd.call41 rfl rfl rfl rfl (slices_ContainsFunc_Lroute_Work_route_Work_c w37 hA x50 v51 h52 (fun y64 => portref2_WorkFault_1 y64 x27) 44 #[] #[.pointer (some ⟨b34, 0, none⟩)] Tryd.call44 (fun w60 A61 ht62 h63 y55 v56 h57 r58 h59 => (portref2_WorkFault_1_c w60 h63 y55 v56 h57 x27 b34 (El.tr h42 ht62) h59).mono (fun _ _ h => ⟨h.1, h.2⟩)) hx54) ?_
          rintro _ w65 ⟨rfl, hk66⟩
          have ht67 := Kp.tr hk66 hA hB
          replace hH := Hp.kp hH hk66
          replace h_l := Sl.tr h_l ht67
          replace h42 := El.tr h42 ht67
          replace h52 := Sl.tr h52 ht67
          replace hK := Tr.trans hK ht67
          replace hr6 := Tr.trans hr6 ht67
          replace hB := Nat.le_trans hB ht67.ex.size
          replace hA := ht67.new
          refine V_y (Y_assign rfl) rfl rfl rfl ?_
          refine V_to (fun _ _ => rfl) ?_
          refine C_cond rfl (fun hc68 => ?_) (fun hc68 => ?_)
          · rw [if_pos hc68] at h19
            refine C_seq ?_
            refine C_region ?_
            refine V_y (Y_assign rfl) rfl rfl rfl ?_
            refine V_to (fun _ _ => rfl) ?_
            obtain rfl := Option.some.inj h19
            obtain rfl := (h20 : Lp.rt _ = _)
            rw [Lp.andThen_rt] at hm
            obtain rfl := Option.some.inj hm
            refine C_ret ?_
            try simp only [↓inBlock_ret, ↓then_ret]
            exact retQ rfl (Res.one Tryd.results30 rfl) ⟨rfl, hK.kp⟩
          · rw [if_neg (nt hc68)] at h19
            refine C_seq ?_
            refine C_region ?_
            have h69 := El_route_Work_1 h42
            refine V_y (Y_fieldAddr Tryd.underlying35 rfl Tryd.sizeOf3 (by decide) rfl) rfl rfl rfl ?_
            refine V_y (Y_load (El.int h69) Tryd.isAgg3 rfl) rfl rfl rfl ?_
            refine V_y (Y_lss rfl rfl) rfl rfl rfl ?_
            refine V_y (Y_move rfl) rfl rfl rfl ?_
            refine V_cut 4 (fun _ : Unit => [(0, v_l), (4, .pointer (some ⟨b34, 0, none⟩)), (9, v_l), (10, .int .i64 (l.length : Int)), (11, .int .i64 (k7 : Int)), (39, .bool ((decide (x27.weight < 1)) || (decide ((20 : Int) < x27.weight))))]) (fun _ w' => w65 = w') ?_ ?_
            · simp only [List.take, List.drop]
              rcases Bool.eq_false_or_eq_true (decide (x27.weight < 1)) with hc70 | hc70
              · refine V_gn rfl rfl rfl hc70 rfl rfl rfl ?_
                refine V_gn rfl rfl rfl hc70 rfl rfl rfl ?_
                refine V_gn rfl rfl rfl hc70 rfl rfl rfl ?_
                refine V_y (Y_pick_te rfl hc70 rfl) rfl rfl rfl ?_
                exact V_end fun a ha => ⟨(), ha.sub ⟨rfl, rfl, rfl, rfl, rfl, (by rw [hc70]; rfl), trivial⟩, rfl⟩
              · refine V_ge rfl rfl rfl hc70 ?_
                have h72 := El_route_Work_1 h42
                refine V_y (Y_fieldAddr Tryd.underlying35 rfl Tryd.sizeOf3 (by decide) rfl) rfl rfl rfl ?_
                refine V_ge rfl rfl rfl hc70 ?_
                refine V_y (Y_load (El.int h72) Tryd.isAgg3 rfl) rfl rfl rfl ?_
                refine V_ge rfl rfl rfl hc70 ?_
                refine V_y (Y_gtr rfl rfl) rfl rfl rfl ?_
                refine V_y (Y_pick_fe rfl hc70 rfl) rfl rfl rfl ?_
                exact V_end fun a ha => ⟨(), ha.sub ⟨rfl, rfl, rfl, rfl, rfl, (by rw [hc70]; rfl), trivial⟩, rfl⟩
            simp only [List.take, List.drop]
            rintro _ _ rfl
            refine V_y (Y_move rfl) rfl rfl rfl ?_
            refine V_cut 4 (fun _ : Unit => [(0, v_l), (4, .pointer (some ⟨b34, 0, none⟩)), (9, v_l), (10, .int .i64 (l.length : Int)), (11, .int .i64 (k7 : Int)), (44, .bool (((decide (x27.weight < 1)) || (decide ((20 : Int) < x27.weight))) || (decide (x27.urgency < 0))))]) (fun _ w' => w65 = w') ?_ ?_
            · simp only [List.take, List.drop]
              rcases Bool.eq_false_or_eq_true (((decide (x27.weight < 1)) || (decide ((20 : Int) < x27.weight)))) with hc73 | hc73
              · refine V_gn rfl rfl rfl hc73 rfl rfl rfl ?_
                refine V_gn rfl rfl rfl hc73 rfl rfl rfl ?_
                refine V_gn rfl rfl rfl hc73 rfl rfl rfl ?_
                refine V_y (Y_pick_te rfl hc73 rfl) rfl rfl rfl ?_
                exact V_end fun a ha => ⟨(), ha.sub ⟨rfl, rfl, rfl, rfl, rfl, (by rw [hc73]; rfl), trivial⟩, rfl⟩
              · refine V_ge rfl rfl rfl hc73 ?_
                have h75 := El_route_Work_2 h42
                refine V_y (Y_fieldAddr Tryd.underlying35 rfl Tryd.sizeOf3 (by decide) rfl) rfl rfl rfl ?_
                refine V_ge rfl rfl rfl hc73 ?_
                refine V_y (Y_load (El.int h75) Tryd.isAgg3 rfl) rfl rfl rfl ?_
                refine V_ge rfl rfl rfl hc73 ?_
                refine V_y (Y_lss rfl rfl) rfl rfl rfl ?_
                refine V_y (Y_pick_fe rfl hc73 rfl) rfl rfl rfl ?_
                exact V_end fun a ha => ⟨(), ha.sub ⟨rfl, rfl, rfl, rfl, rfl, (by rw [hc73]; rfl), trivial⟩, rfl⟩
            simp only [List.take, List.drop]
            rintro _ _ rfl
            refine V_y (Y_move rfl) rfl rfl rfl ?_
            refine V_cut 4 (fun _ : Unit => [(0, v_l), (4, .pointer (some ⟨b34, 0, none⟩)), (9, v_l), (10, .int .i64 (l.length : Int)), (11, .int .i64 (k7 : Int)), (49, .bool ((((decide (x27.weight < 1)) || (decide ((20 : Int) < x27.weight))) || (decide (x27.urgency < 0))) || (decide ((9 : Int) < x27.urgency))))]) (fun _ w' => w65 = w') ?_ ?_
            · simp only [List.take, List.drop]
              rcases Bool.eq_false_or_eq_true ((((decide (x27.weight < 1)) || (decide ((20 : Int) < x27.weight))) || (decide (x27.urgency < 0)))) with hc76 | hc76
              · refine V_gn rfl rfl rfl hc76 rfl rfl rfl ?_
                refine V_gn rfl rfl rfl hc76 rfl rfl rfl ?_
                refine V_gn rfl rfl rfl hc76 rfl rfl rfl ?_
                refine V_y (Y_pick_te rfl hc76 rfl) rfl rfl rfl ?_
                exact V_end fun a ha => ⟨(), ha.sub ⟨rfl, rfl, rfl, rfl, rfl, (by rw [hc76]; rfl), trivial⟩, rfl⟩
              · refine V_ge rfl rfl rfl hc76 ?_
                have h78 := El_route_Work_2 h42
                refine V_y (Y_fieldAddr Tryd.underlying35 rfl Tryd.sizeOf3 (by decide) rfl) rfl rfl rfl ?_
                refine V_ge rfl rfl rfl hc76 ?_
                refine V_y (Y_load (El.int h78) Tryd.isAgg3 rfl) rfl rfl rfl ?_
                refine V_ge rfl rfl rfl hc76 ?_
                refine V_y (Y_gtr rfl rfl) rfl rfl rfl ?_
                refine V_y (Y_pick_fe rfl hc76 rfl) rfl rfl rfl ?_
                exact V_end fun a ha => ⟨(), ha.sub ⟨rfl, rfl, rfl, rfl, rfl, (by rw [hc76]; rfl), trivial⟩, rfl⟩
            simp only [List.take, List.drop]
            rintro _ _ rfl
            refine V_y (Y_move rfl) rfl rfl rfl ?_
            refine V_cut 5 (fun _ : Unit => [(0, v_l), (4, .pointer (some ⟨b34, 0, none⟩)), (9, v_l), (10, .int .i64 (l.length : Int)), (11, .int .i64 (k7 : Int)), (55, .bool (((((decide (x27.weight < 1)) || (decide ((20 : Int) < x27.weight))) || (decide (x27.urgency < 0))) || (decide ((9 : Int) < x27.urgency))) || (!(portref2_IsMoment x27.since))))]) (fun _ w' => w65 = w') ?_ ?_
            · simp only [List.take, List.drop]
              rcases Bool.eq_false_or_eq_true (((((decide (x27.weight < 1)) || (decide ((20 : Int) < x27.weight))) || (decide (x27.urgency < 0))) || (decide ((9 : Int) < x27.urgency)))) with hc79 | hc79
              · refine V_gn rfl rfl rfl hc79 rfl rfl rfl ?_
                refine V_gn rfl rfl rfl hc79 rfl rfl rfl ?_
                refine V_gn rfl rfl rfl hc79 rfl rfl rfl ?_
                refine V_gn rfl rfl rfl hc79 rfl rfl rfl ?_
                refine V_y (Y_pick_te rfl hc79 rfl) rfl rfl rfl ?_
                exact V_end fun a ha => ⟨(), ha.sub ⟨rfl, rfl, rfl, rfl, rfl, (by rw [hc79]; rfl), trivial⟩, rfl⟩
              · refine V_ge rfl rfl rfl hc79 ?_
                have h81 := El_route_Work_3 h42
                refine V_y (Y_fieldAddr Tryd.underlying35 rfl Tryd.sizeOf3 (by decide) rfl) rfl rfl rfl ?_
                refine V_ge rfl rfl rfl hc79 ?_
                refine V_y (Y_load (El.int h81) Tryd.isAgg3 rfl) rfl rfl rfl ?_
                refine V_ge rfl rfl rfl hc79 ?_
                refine V_call Tryd.call32 rfl rfl rfl rfl (portref2_IsMoment_c w65 x27.since) ?_
                rintro _ _ ⟨rfl, rfl⟩
                refine V_ge rfl rfl rfl hc79 ?_
                refine V_y (Y_not rfl) rfl rfl rfl ?_
                refine V_y (Y_pick_fe rfl hc79 rfl) rfl rfl rfl ?_
                exact V_end fun a ha => ⟨(), ha.sub ⟨rfl, rfl, rfl, rfl, rfl, (by rw [hc79]; rfl), trivial⟩, rfl⟩
            simp only [List.take, List.drop]
            rintro _ _ rfl
            refine V_y (Y_move rfl) rfl rfl rfl ?_
            refine V_cut 4 (fun _ : Unit => [(0, v_l), (4, .pointer (some ⟨b34, 0, none⟩)), (9, v_l), (10, .int .i64 (l.length : Int)), (11, .int .i64 (k7 : Int)), (60, .bool ((((((decide (x27.weight < 1)) || (decide ((20 : Int) < x27.weight))) || (decide (x27.urgency < 0))) || (decide ((9 : Int) < x27.urgency))) || (!(portref2_IsMoment x27.since))) || (decide (x27.former < 0))))]) (fun _ w' => w65 = w') ?_ ?_
            · simp only [List.take, List.drop]
              rcases Bool.eq_false_or_eq_true ((((((decide (x27.weight < 1)) || (decide ((20 : Int) < x27.weight))) || (decide (x27.urgency < 0))) || (decide ((9 : Int) < x27.urgency))) || (!(portref2_IsMoment x27.since)))) with hc82 | hc82
              · refine V_gn rfl rfl rfl hc82 rfl rfl rfl ?_
                refine V_gn rfl rfl rfl hc82 rfl rfl rfl ?_
                refine V_gn rfl rfl rfl hc82 rfl rfl rfl ?_
                refine V_y (Y_pick_te rfl hc82 rfl) rfl rfl rfl ?_
                exact V_end fun a ha => ⟨(), ha.sub ⟨rfl, rfl, rfl, rfl, rfl, (by rw [hc82]; rfl), trivial⟩, rfl⟩
              · refine V_ge rfl rfl rfl hc82 ?_
                have h84 := El_route_Work_4 h42
                refine V_y (Y_fieldAddr Tryd.underlying35 rfl Tryd.sizeOf3 (by decide) rfl) rfl rfl rfl ?_
                refine V_ge rfl rfl rfl hc82 ?_
                refine V_y (Y_load (El.int h84) Tryd.isAgg3 rfl) rfl rfl rfl ?_
                refine V_ge rfl rfl rfl hc82 ?_
                refine V_y (Y_lss rfl rfl) rfl rfl rfl ?_
                refine V_y (Y_pick_fe rfl hc82 rfl) rfl rfl rfl ?_
                exact V_end fun a ha => ⟨(), ha.sub ⟨rfl, rfl, rfl, rfl, rfl, (by rw [hc82]; rfl), trivial⟩, rfl⟩
            simp only [List.take, List.drop]
            rintro _ _ rfl
            refine V_y (Y_move rfl) rfl rfl rfl ?_
            refine V_cut 4 (fun _ : Unit => [(0, v_l), (4, .pointer (some ⟨b34, 0, none⟩)), (9, v_l), (10, .int .i64 (l.length : Int)), (11, .int .i64 (k7 : Int)), (65, .bool (((((((decide (x27.weight < 1)) || (decide ((20 : Int) < x27.weight))) || (decide (x27.urgency < 0))) || (decide ((9 : Int) < x27.urgency))) || (!(portref2_IsMoment x27.since))) || (decide (x27.former < 0))) || (decide ((40 : Int) < x27.former))))]) (fun _ w' => w65 = w') ?_ ?_
            · simp only [List.take, List.drop]
              rcases Bool.eq_false_or_eq_true (((((((decide (x27.weight < 1)) || (decide ((20 : Int) < x27.weight))) || (decide (x27.urgency < 0))) || (decide ((9 : Int) < x27.urgency))) || (!(portref2_IsMoment x27.since))) || (decide (x27.former < 0)))) with hc85 | hc85
              · refine V_gn rfl rfl rfl hc85 rfl rfl rfl ?_
                refine V_gn rfl rfl rfl hc85 rfl rfl rfl ?_
                refine V_gn rfl rfl rfl hc85 rfl rfl rfl ?_
                refine V_y (Y_pick_te rfl hc85 rfl) rfl rfl rfl ?_
                exact V_end fun a ha => ⟨(), ha.sub ⟨rfl, rfl, rfl, rfl, rfl, (by rw [hc85]; rfl), trivial⟩, rfl⟩
              · refine V_ge rfl rfl rfl hc85 ?_
                have h87 := El_route_Work_4 h42
                refine V_y (Y_fieldAddr Tryd.underlying35 rfl Tryd.sizeOf3 (by decide) rfl) rfl rfl rfl ?_
                refine V_ge rfl rfl rfl hc85 ?_
                refine V_y (Y_load (El.int h87) Tryd.isAgg3 rfl) rfl rfl rfl ?_
                refine V_ge rfl rfl rfl hc85 ?_
                refine V_y (Y_gtr rfl rfl) rfl rfl rfl ?_
                refine V_y (Y_pick_fe rfl hc85 rfl) rfl rfl rfl ?_
                exact V_end fun a ha => ⟨(), ha.sub ⟨rfl, rfl, rfl, rfl, rfl, (by rw [hc85]; rfl), trivial⟩, rfl⟩
            simp only [List.take, List.drop]
            rintro _ _ rfl
            refine V_y (Y_assign rfl) rfl rfl rfl ?_
            refine V_to (fun _ _ => rfl) ?_
            refine C_cond rfl (fun hc88 => ?_) (fun hc88 => ?_)
            · rw [if_pos hc88] at h19
              refine C_seq ?_
              refine C_region ?_
              refine V_y (Y_assign rfl) rfl rfl rfl ?_
              refine V_to (fun _ _ => rfl) ?_
              obtain rfl := Option.some.inj h19
              obtain rfl := (h20 : Lp.rt _ = _)
              rw [Lp.andThen_rt] at hm
              obtain rfl := Option.some.inj hm
              refine C_ret ?_
              try simp only [↓inBlock_ret, ↓then_ret]
              exact retQ rfl (Res.one Tryd.results30 rfl) ⟨rfl, hK.kp⟩
            · rw [if_neg (nt hc88)] at h19
              refine C_skip_to (fun _ _ => rfl) ?_
              refine C_seq ?_
              refine C_region ?_
              have h89 := El_route_Work_5 h42
              refine V_y (Y_fieldAddr Tryd.underlying35 rfl Tryd.sizeOf33 (by decide) rfl) rfl rfl rfl ?_
              obtain ⟨v90, h91, h92⟩ := El.list h89
              refine V_y (Y_load h91 Tryd.isAgg33 rfl) rfl rfl rfl ?_
              obtain ⟨x93, hx93, h19⟩ := Option.bind_eq_some_iff.1 h19
              refine V_call Tryd.call36 rfl rfl rfl rfl (portref2_skillsFault_c w65 hA x27.needs v90 h92 hx93) ?_
              rintro _ w94 ⟨rfl, hk95⟩
              have ht96 := Kp.tr hk95 hA hB
              replace hH := Hp.kp hH hk95
              replace h_l := Sl.tr h_l ht96
              replace h42 := El.tr h42 ht96
              replace h89 := El.tr h89 ht96
              replace h92 := Sl.tr h92 ht96
              replace hK := Tr.trans hK ht96
              replace hr6 := Tr.trans hr6 ht96
              replace hB := Nat.le_trans hB ht96.ex.size
              replace hA := ht96.new
              refine V_y (Y_assign rfl) rfl rfl rfl ?_
              refine V_to (fun _ _ => rfl) ?_
              refine C_seq ?_
              refine C_region ?_
              refine V_y (Y_move rfl) rfl rfl rfl ?_
              refine V_y (Y_neq rfl rfl) rfl rfl rfl ?_
              refine V_to (fun _ _ => rfl) ?_
              refine C_cond rfl (fun hc97 => ?_) (fun hc97 => ?_)
              · rw [if_pos hc97] at h19
                refine C_seq ?_
                refine C_region ?_
                refine V_y (Y_move rfl) rfl rfl rfl ?_
                refine V_y (Y_assign rfl) rfl rfl rfl ?_
                refine V_to (fun _ _ => rfl) ?_
                obtain rfl := Option.some.inj h19
                obtain rfl := (h20 : Lp.rt _ = _)
                rw [Lp.andThen_rt] at hm
                obtain rfl := Option.some.inj hm
                refine C_ret ?_
                try simp only [↓inBlock_ret, ↓then_ret]
                exact retQ rfl (Res.one Tryd.results30 rfl) ⟨rfl, hK.kp⟩
              · rw [if_neg (nt hc97)] at h19
                refine C_skip_to (fun _ _ => rfl) ?_
                refine C_region ?_
                refine V_y (Y_addI rfl rfl) rfl rfl rfl ?_
                refine V_y (Y_move rfl) rfl rfl rfl ?_
                obtain rfl := Option.some.inj h19
                refine V_end (fun a ha98 => ?_)
                exact ⟨(), hlt22, h20, ⟨A16, ha98.sub ⟨rfl, rfl, rfl, (congrArg (fun z => some (Value.int .i64 z)) (w64_succ hlt22 hn25)), trivial⟩, ⟨hH, hr6⟩⟩⟩
      · refine C_exit (fun a ha99 => ?_)
        exact ⟨((), A16), ha99.sub trivial, ⟨(h23 (eq_of_dec hle21 hc26)).symm, hH, hr6⟩⟩
    rintro ⟨s5, A12⟩ w9 ⟨rfl, hH13, hk10⟩ a ha11
    rw [Lp.andThen_fin] at hm
    replace hK := Tr.trans hK hk10
    replace hB := Nat.le_trans hB hk10.ex.size
    replace hA := hk10.new
    replace hH : Hp w.heap.size A12 w9 ([]) := hH13
    refine C_at (n := ⟨73, [], none⟩) (fun _ _ => rfl) ?_ ha11
    refine C_seq ?_
    refine C_region ?_
    refine V_y (Y_assign rfl) rfl rfl rfl ?_
    refine V_to (fun _ _ => rfl) ?_
    obtain rfl := Option.some.inj hm
    refine C_ret ?_
    try simp only [↓inBlock_ret, ↓then_ret]
    exact retQ rfl (Res.one Tryd.results30 rfl) ⟨rfl, hK.kp⟩

set_option maxRecDepth 4000 in
set_option maxHeartbeats 4000000 in
theorem portref2_StepsFault_c (w : World) {A : Nat → Prop} (hA : ∀ b, w.heap.size ≤ b → A b) (l : (List route_Step)) (v_l : Value) (h_l : Sl A w v_l l) {r : Int} (hm : portref2_StepsFault l = some r) : Ret Tryd.prog 31 #[v_l] w fun v w' => v = .int .i64 r ∧ Kp w w' := by
  unfold portref2_StepsFault at hm
  refine enter Tryd.func31 rfl Tryd.ntmps31 rfl ?_
  have hA0 := hA
  have hB := Nat.le_refl w.heap.size
  have hK : Tr w.heap.size A w A w := Tr.refl hA
  have hH : Hp w.heap.size A w [] := Hp.nil
  refine C_seq ?_
  refine C_region ?_
  refine V_y (Y_assign rfl) rfl rfl rfl ?_
  refine V_to (fun _ _ => rfl) ?_
  refine C_seq ?_
  refine C_seq ?_
  refine C_region ?_
  refine V_y (Y_move rfl) rfl rfl rfl ?_
  refine V_y (Y_lenSl h_l rfl Tryd.underlying36 rfl) rfl rfl rfl ?_
  refine V_y (Y_gtr rfl rfl) rfl rfl rfl ?_
  refine V_to (fun _ _ => rfl) ?_
  refine C_cond rfl (fun hc3 => ?_) (fun hc3 => ?_)
  · rw [if_pos hc3] at hm
    refine C_seq ?_
    refine C_region ?_
    refine V_y (Y_assign rfl) rfl rfl rfl ?_
    refine V_to (fun _ _ => rfl) ?_
    obtain rfl := Option.some.inj hm
    refine C_ret ?_
    try simp only [↓inBlock_ret, ↓then_ret]
    exact retQ rfl (Res.one Tryd.results31 rfl) ⟨rfl, hK.kp⟩
  · rw [if_neg (nt hc3)] at hm
    refine C_skip_to (fun _ _ => rfl) ?_
    refine C_seq ?_
    refine C_seq ?_
    refine C_region ?_
    refine V_y (Y_move rfl) rfl rfl rfl ?_
    refine V_y (Y_lenSl h_l rfl Tryd.underlying36 rfl) rfl rfl rfl ?_
    refine V_y (Y_move rfl) rfl rfl rfl ?_
    refine V_to (fun _ _ => rfl) ?_
    have hn25 := Sl.le h_l
    obtain ⟨o4, ho4, hm⟩ := Option.bind_eq_some_iff.1 hm
    refine C_cutG (ι := (Unit × (Nat → Prop))) (fun ⟨s5, A12⟩ => []) (fun ⟨s5, A12⟩ => fun w' => o4 = .fin s5 ∧ Hp w.heap.size A12 w' ([]) ∧ Tr w.heap.size A w A12 w') ?_ ?_
    · refine C_block ?_
      refine C_range ho4 (fun k7 _ a w' => ∃ i : (Nat → Prop), Has ⟨49, [], none⟩ a ([(0, v_l), (8, v_l), (9, .int .i64 (l.length : Int)), (10, .int .i64 (k7 : Int))]) ∧ Hp w.heap.size i w' ([]) ∧ Tr w.heap.size A w i w') (fun a ha => ⟨A, ha.sub ⟨rfl, rfl, rfl, rfl, trivial⟩, ⟨hH, Tr.refl hA⟩⟩) ?_
      rintro K k7 _ a w15 ⟨A16, ha65, hH17, hr6⟩ hle21 K24 h23
      refine C_of ?_ ha65
      replace h_l := Sl.tr h_l hr6
      replace hK := Tr.trans hK hr6
      replace hB := Nat.le_trans hB hr6.ex.size
      replace hA := hr6.new
      replace hH : Hp w.heap.size A16 w15 ([]) := hH17
      refine C_seq (C_region (V_y (Y_lss rfl rfl) rfl rfl rfl (V_to (fun _ _ => rfl) ?_)))
      refine C_seq ?_
      refine C_cond rfl (fun hc26 => ?_) (fun hc26 => ?_)
      · have hlt22 := lt_of_dec hc26
        obtain ⟨x18, h19, h20⟩ := K24 hlt22
        refine C_skip_to (fun _ _ => rfl) ?_
        refine C_seq ?_
        refine C_block ?_
        refine C_seq ?_
        refine C_region ?_
        refine V_y (Y_move rfl) rfl rfl rfl ?_
        obtain ⟨x27, hx27, h19⟩ := Option.bind_eq_some_iff.1 h19
        refine V_indexAddr h_l hx27 Tryd.underlying36 Tryd.sizeOf69 rfl rfl rfl ?_
        intro b28 o29 h30
        obtain ⟨h31, _⟩ := El_route_Step h30
        refine V_y (Y_loadA h31 Tryd.isAgg69 Tryd.sizeOf69 rfl) rfl rfl rfl ?_
        refine V_alloc Tryd.zeroValue69 rfl ?_
        intro b32 w33 h34
        refine V_y (Y_assign rfl) rfl rfl rfl ?_
        refine V_storeNew h34 Tryd.sizeOf69 rfl rfl rfl rfl (by exact (List.forall_mem_cons.2 ⟨rfl, (List.forall_mem_cons.2 ⟨rfl, (List.forall_mem_cons.2 ⟨rfl, (fun _ h => nomatch h)⟩)⟩)⟩)) ?_
        intro w35 h36
        have hk38 := h36.kp
        have h37 : El (α := route_Step) A16 w35 b32 0 x27 := h36.el hA ⟨[.int .i64 x27.after], _, rfl, rfl, ⟨[.int .i64 x27.lower], _, rfl, rfl, rfl⟩⟩
        have ht39 := Kp.tr hk38 hA hB
        replace hH := Hp.kp hH hk38
        replace h_l := Sl.tr h_l ht39
        replace h30 := El.tr h30 ht39
        replace hK := Tr.trans hK ht39
        replace hr6 := Tr.trans hr6 ht39
        replace hB := Nat.le_trans hB ht39.ex.size
        replace hA := ht39.new
        refine V_to (fun _ _ => rfl) ?_
        refine C_block ?_
        refine C_seq ?_
        refine C_region ?_
        have h40 := El_route_Step_0 h37
        refine V_y (Y_fieldAddr Tryd.underlying69 rfl Tryd.sizeOf3 (by decide) rfl) rfl rfl rfl ?_
        refine V_y (Y_load (El.int h40) Tryd.isAgg3 rfl) rfl rfl rfl ?_
        refine V_y (Y_lss rfl rfl) rfl rfl rfl ?_
        refine V_y (Y_move rfl) rfl rfl rfl ?_
        refine V_cut 4 (fun _ : Unit => [(0, v_l), (3, .int .i64 (k7 : Int)), (4, .pointer (some ⟨b32, 0, none⟩)), (8, v_l), (9, .int .i64 (l.length : Int)), (10, .int .i64 (k7 : Int)), (23, .bool ((decide (x27.after < 1)) || (decide ((3000000 : Int) < x27.after))))]) (fun _ w' => w35 = w') ?_ ?_
        · simp only [List.take, List.drop]
          rcases Bool.eq_false_or_eq_true (decide (x27.after < 1)) with hc41 | hc41
          · refine V_gn rfl rfl rfl hc41 rfl rfl rfl ?_
            refine V_gn rfl rfl rfl hc41 rfl rfl rfl ?_
            refine V_gn rfl rfl rfl hc41 rfl rfl rfl ?_
            refine V_y (Y_pick_te rfl hc41 rfl) rfl rfl rfl ?_
            exact V_end fun a ha => ⟨(), ha.sub ⟨rfl, rfl, rfl, rfl, rfl, rfl, (by rw [hc41]; rfl), trivial⟩, rfl⟩
          · refine V_ge rfl rfl rfl hc41 ?_
            have h43 := El_route_Step_0 h37
            refine V_y (Y_fieldAddr Tryd.underlying69 rfl Tryd.sizeOf3 (by decide) rfl) rfl rfl rfl ?_
            refine V_ge rfl rfl rfl hc41 ?_
            refine V_y (Y_load (El.int h43) Tryd.isAgg3 rfl) rfl rfl rfl ?_
            refine V_ge rfl rfl rfl hc41 ?_
            refine V_y (Y_gtr rfl rfl) rfl rfl rfl ?_
            refine V_y (Y_pick_fe rfl hc41 rfl) rfl rfl rfl ?_
            exact V_end fun a ha => ⟨(), ha.sub ⟨rfl, rfl, rfl, rfl, rfl, rfl, (by rw [hc41]; rfl), trivial⟩, rfl⟩
        simp only [List.take, List.drop]
        rintro _ _ rfl
        refine V_y (Y_move rfl) rfl rfl rfl ?_
        refine V_cut 4 (fun _ : Unit => [(0, v_l), (3, .int .i64 (k7 : Int)), (4, .pointer (some ⟨b32, 0, none⟩)), (8, v_l), (9, .int .i64 (l.length : Int)), (10, .int .i64 (k7 : Int)), (28, .bool (((decide (x27.after < 1)) || (decide ((3000000 : Int) < x27.after))) || (decide (x27.lower < 0))))]) (fun _ w' => w35 = w') ?_ ?_
        · simp only [List.take, List.drop]
          rcases Bool.eq_false_or_eq_true (((decide (x27.after < 1)) || (decide ((3000000 : Int) < x27.after)))) with hc44 | hc44
          · refine V_gn rfl rfl rfl hc44 rfl rfl rfl ?_
            refine V_gn rfl rfl rfl hc44 rfl rfl rfl ?_
            refine V_gn rfl rfl rfl hc44 rfl rfl rfl ?_
            refine V_y (Y_pick_te rfl hc44 rfl) rfl rfl rfl ?_
            exact V_end fun a ha => ⟨(), ha.sub ⟨rfl, rfl, rfl, rfl, rfl, rfl, (by rw [hc44]; rfl), trivial⟩, rfl⟩
          · refine V_ge rfl rfl rfl hc44 ?_
            have h46 := El_route_Step_1 h37
            refine V_y (Y_fieldAddr Tryd.underlying69 rfl Tryd.sizeOf3 (by decide) rfl) rfl rfl rfl ?_
            refine V_ge rfl rfl rfl hc44 ?_
            refine V_y (Y_load (El.int h46) Tryd.isAgg3 rfl) rfl rfl rfl ?_
            refine V_ge rfl rfl rfl hc44 ?_
            refine V_y (Y_lss rfl rfl) rfl rfl rfl ?_
            refine V_y (Y_pick_fe rfl hc44 rfl) rfl rfl rfl ?_
            exact V_end fun a ha => ⟨(), ha.sub ⟨rfl, rfl, rfl, rfl, rfl, rfl, (by rw [hc44]; rfl), trivial⟩, rfl⟩
        simp only [List.take, List.drop]
        rintro _ _ rfl
        refine V_y (Y_move rfl) rfl rfl rfl ?_
        refine V_cut 4 (fun _ : Unit => [(0, v_l), (3, .int .i64 (k7 : Int)), (4, .pointer (some ⟨b32, 0, none⟩)), (8, v_l), (9, .int .i64 (l.length : Int)), (10, .int .i64 (k7 : Int)), (33, .bool ((((decide (x27.after < 1)) || (decide ((3000000 : Int) < x27.after))) || (decide (x27.lower < 0))) || (decide ((9 : Int) < x27.lower))))]) (fun _ w' => w35 = w') ?_ ?_
        · simp only [List.take, List.drop]
          rcases Bool.eq_false_or_eq_true ((((decide (x27.after < 1)) || (decide ((3000000 : Int) < x27.after))) || (decide (x27.lower < 0)))) with hc47 | hc47
          · refine V_gn rfl rfl rfl hc47 rfl rfl rfl ?_
            refine V_gn rfl rfl rfl hc47 rfl rfl rfl ?_
            refine V_gn rfl rfl rfl hc47 rfl rfl rfl ?_
            refine V_y (Y_pick_te rfl hc47 rfl) rfl rfl rfl ?_
            exact V_end fun a ha => ⟨(), ha.sub ⟨rfl, rfl, rfl, rfl, rfl, rfl, (by rw [hc47]; rfl), trivial⟩, rfl⟩
          · refine V_ge rfl rfl rfl hc47 ?_
            have h49 := El_route_Step_1 h37
            refine V_y (Y_fieldAddr Tryd.underlying69 rfl Tryd.sizeOf3 (by decide) rfl) rfl rfl rfl ?_
            refine V_ge rfl rfl rfl hc47 ?_
            refine V_y (Y_load (El.int h49) Tryd.isAgg3 rfl) rfl rfl rfl ?_
            refine V_ge rfl rfl rfl hc47 ?_
            refine V_y (Y_gtr rfl rfl) rfl rfl rfl ?_
            refine V_y (Y_pick_fe rfl hc47 rfl) rfl rfl rfl ?_
            exact V_end fun a ha => ⟨(), ha.sub ⟨rfl, rfl, rfl, rfl, rfl, rfl, (by rw [hc47]; rfl), trivial⟩, rfl⟩
        simp only [List.take, List.drop]
        rintro _ _ rfl
        refine V_y (Y_assign rfl) rfl rfl rfl ?_
        refine V_to (fun _ _ => rfl) ?_
        refine C_cond rfl (fun hc50 => ?_) (fun hc50 => ?_)
        · rw [if_pos hc50] at h19
          refine C_seq ?_
          refine C_region ?_
          refine V_y (Y_assign rfl) rfl rfl rfl ?_
          refine V_to (fun _ _ => rfl) ?_
          obtain rfl := Option.some.inj h19
          obtain rfl := (h20 : Lp.rt _ = _)
          rw [Lp.andThen_rt] at hm
          obtain rfl := Option.some.inj hm
          refine C_ret ?_
          try simp only [↓inBlock_ret, ↓then_ret]
          exact retQ rfl (Res.one Tryd.results31 rfl) ⟨rfl, hK.kp⟩
        · rw [if_neg (nt hc50)] at h19
          refine C_seq ?_
          refine C_region_q Tryd_mixed (by kernel_rfl) ?_
          refine VQ_y (fun w' hw' => Y_move rfl) rfl rfl rfl ?_
          refine VQ_y (fun w' hw' => Y_gtr rfl rfl) rfl rfl rfl ?_
          refine VQ_y (fun w' hw' => Y_move rfl) rfl rfl rfl ?_
          obtain ⟨s52, hs52, h19⟩ := Option.bind_eq_some_iff.1 h19
          refine VQ_cut 10 (fun _ : Unit => [(0, v_l), (8, v_l), (9, .int .i64 (l.length : Int)), (10, .int .i64 (k7 : Int)), (47, .bool s52)]) (fun _ => True) ?_ ?_
          · simp only [List.take, List.drop]
            rcases Bool.eq_false_or_eq_true (decide ((0 : Int) < (k7 : Int))) with hc51 | hc51
            · rw [if_pos hc51] at hs52
              refine VQ_ge rfl rfl rfl hc51 ?_
              have h53 := El_route_Step_0 h37
              refine VQ_y (fun w' hw' => Y_fieldAddr Tryd.underlying69 rfl Tryd.sizeOf3 (by decide) rfl) rfl rfl rfl ?_
              refine VQ_ge rfl rfl rfl hc51 ?_
              refine VQ_y (fun w' hw' => Y_load (El.int (El.kp h53 hw')) Tryd.isAgg3 rfl) rfl rfl rfl ?_
              refine VQ_ge rfl rfl rfl hc51 ?_
              refine VQ_y (fun w' hw' => Y_move rfl) rfl rfl rfl ?_
              refine VQ_ge rfl rfl rfl hc51 ?_
              refine VQ_y (fun w' hw' => Y_move rfl) rfl rfl rfl ?_
              refine VQ_ge rfl rfl rfl hc51 ?_
              refine VQ_y (fun w' hw' => Y_subI rfl rfl) rfl rfl rfl ?_
              refine VQ_ge rfl rfl rfl hc51 ?_
              obtain ⟨x54, hx54, hs52⟩ := Option.bind_eq_some_iff.1 hs52
              refine VQ_indexAddr h_l hx54 Tryd.underlying36 Tryd.sizeOf69 rfl rfl rfl ?_
              intro b55 o56 h57
              refine VQ_ge rfl rfl rfl hc51 ?_
              have h58 := El_route_Step_0 h57
              refine VQ_y (fun w' hw' => Y_fieldAddr Tryd.underlying69 rfl Tryd.sizeOf3 (by decide) rfl) rfl rfl rfl ?_
              refine VQ_ge rfl rfl rfl hc51 ?_
              refine VQ_y (fun w' hw' => Y_load (El.int (El.kp h58 hw')) Tryd.isAgg3 rfl) rfl rfl rfl ?_
              refine VQ_ge rfl rfl rfl hc51 ?_
              refine VQ_y (fun w' hw' => Y_leq rfl rfl) rfl rfl rfl ?_
              refine VQ_y (fun _ _ => Y_pick_te rfl hc51 rfl) rfl rfl rfl ?_
              obtain rfl := Option.some.inj hs52
              exact VQ_end fun a ha => ⟨(), ha.sub ⟨rfl, rfl, rfl, rfl, rfl, trivial⟩, trivial⟩
            · rw [if_neg (nt hc51)] at hs52
              refine VQ_gn rfl rfl rfl hc51 rfl rfl rfl ?_
              refine VQ_gn rfl rfl rfl hc51 rfl rfl rfl ?_
              refine VQ_gn rfl rfl rfl hc51 rfl rfl rfl ?_
              refine VQ_gn rfl rfl rfl hc51 rfl rfl rfl ?_
              refine VQ_gn rfl rfl rfl hc51 rfl rfl rfl ?_
              refine VQ_gn rfl rfl rfl hc51 rfl rfl rfl ?_
              refine VQ_gn rfl rfl rfl hc51 rfl rfl rfl ?_
              refine VQ_gn rfl rfl rfl hc51 rfl rfl rfl ?_
              refine VQ_gn rfl rfl rfl hc51 rfl rfl rfl ?_
              refine VQ_y (fun _ _ => Y_pick_fe rfl hc51 rfl) rfl rfl rfl ?_
              obtain rfl := Option.some.inj hs52
              exact VQ_end fun a ha => ⟨(), ha.sub ⟨rfl, rfl, rfl, rfl, rfl, trivial⟩, trivial⟩
          simp only [List.take, List.drop]
          rintro _ _
          refine VQ_y (fun w' hw' => Y_assign rfl) rfl rfl rfl ?_
          refine VQ_to (fun _ _ => rfl) (fun w59 hk60 => ?_)
          have ht61 := Kp.tr hk60 hA hB
          replace hH := Hp.kp hH hk60
          replace h_l := Sl.tr h_l ht61
          replace hK := Tr.trans hK ht61
          replace hr6 := Tr.trans hr6 ht61
          replace hB := Nat.le_trans hB ht61.ex.size
          replace hA := ht61.new
          refine C_cond rfl (fun hc62 => ?_) (fun hc62 => ?_)
          · rw [if_pos hc62] at h19
            refine C_seq ?_
            refine C_region ?_
            refine V_y (Y_assign rfl) rfl rfl rfl ?_
            refine V_to (fun _ _ => rfl) ?_
            obtain rfl := Option.some.inj h19
            obtain rfl := (h20 : Lp.rt _ = _)
            rw [Lp.andThen_rt] at hm
            obtain rfl := Option.some.inj hm
            refine C_ret ?_
            try simp only [↓inBlock_ret, ↓then_ret]
            exact retQ rfl (Res.one Tryd.results31 rfl) ⟨rfl, hK.kp⟩
          · rw [if_neg (nt hc62)] at h19
            refine C_skip_to (fun _ _ => rfl) ?_
            refine C_region ?_
            refine V_y (Y_addI rfl rfl) rfl rfl rfl ?_
            refine V_y (Y_move rfl) rfl rfl rfl ?_
            obtain rfl := Option.some.inj h19
            refine V_end (fun a ha63 => ?_)
            exact ⟨(), hlt22, h20, ⟨A16, ha63.sub ⟨rfl, rfl, rfl, (congrArg (fun z => some (Value.int .i64 z)) (w64_succ hlt22 hn25)), trivial⟩, ⟨hH, hr6⟩⟩⟩
      · refine C_exit (fun a ha64 => ?_)
        exact ⟨((), A16), ha64.sub trivial, ⟨(h23 (eq_of_dec hle21 hc26)).symm, hH, hr6⟩⟩
    rintro ⟨s5, A12⟩ w9 ⟨rfl, hH13, hk10⟩ a ha11
    rw [Lp.andThen_fin] at hm
    replace hK := Tr.trans hK hk10
    replace hB := Nat.le_trans hB hk10.ex.size
    replace hA := hk10.new
    replace hH : Hp w.heap.size A12 w9 ([]) := hH13
    refine C_at (n := ⟨49, [], none⟩) (fun _ _ => rfl) ?_ ha11
    refine C_seq ?_
    refine C_region ?_
    refine V_y (Y_assign rfl) rfl rfl rfl ?_
    refine V_to (fun _ _ => rfl) ?_
    obtain rfl := Option.some.inj hm
    refine C_ret ?_
    try simp only [↓inBlock_ret, ↓then_ret]
    exact retQ rfl (Res.one Tryd.results31 rfl) ⟨rfl, hK.kp⟩

set_option maxRecDepth 4000 in
set_option maxHeartbeats 4000000 in
theorem portref2_needsAt_c (w : World) {A : Nat → Prop} (hA : ∀ b, w.heap.size ≤ b → A b) (w_ : route_Work) (v_w_ : Value) (h_w_ : Sl A w v_w_ w_.needs) (steps : (List route_Step)) (v_steps : Value) (h_steps : Sl A w v_steps steps) (m : Int) {r : (List route_Skill)} (hm : portref2_needsAt w_ steps m = some r) : Ret Tryd.prog 33 #[.agg #[.int .i64 w_.ticket, .int .i64 w_.weight, .int .i64 w_.urgency, .int .i64 w_.since, .int .i64 w_.former, v_w_], v_steps, .int .i64 m] w fun v w' => ∃ s0, v = s0 ∧ Sl A w' s0 r ∧ Kp w w' := by
  unfold portref2_needsAt at hm
  refine enter Tryd.func33 rfl Tryd.ntmps33 rfl ?_
  have hA0 := hA
  have hB := Nat.le_refl w.heap.size
  have hK : Tr w.heap.size A w A w := Tr.refl hA
  have hH : Hp w.heap.size A w [] := Hp.nil
  refine C_seq ?_
  refine C_region ?_
  refine V_box rfl rfl ?_
  intro b5 w6 h7
  have hk9 := h7.kp
  have h8 : El (α := route_Work) A w6 b5 0 w_ := h7.el hA ⟨[.int .i64 w_.ticket], _, rfl, rfl, ⟨[.int .i64 w_.weight], _, rfl, rfl, ⟨[.int .i64 w_.urgency], _, rfl, rfl, ⟨[.int .i64 w_.since], _, rfl, rfl, ⟨[.int .i64 w_.former], _, rfl, rfl, ⟨_, rfl, h_w_⟩⟩⟩⟩⟩⟩
  have ht10 := Kp.tr hk9 hA hB
  replace hH := Hp.kp hH hk9
  replace h_w_ := Sl.tr h_w_ ht10
  replace h_steps := Sl.tr h_steps ht10
  replace hK := Tr.trans hK ht10
  replace hB := Nat.le_trans hB ht10.ex.size
  replace hA := ht10.new
  refine V_y (Y_assign rfl) rfl rfl rfl ?_
  refine V_to (fun _ _ => rfl) ?_
  refine C_seq ?_
  refine C_region ?_
  refine V_y (Y_assign rfl) rfl rfl rfl ?_
  refine V_to (fun _ _ => rfl) ?_
  refine C_seq ?_
  refine C_seq ?_
  refine C_region ?_
  refine V_y (Y_move rfl) rfl rfl rfl ?_
  refine V_y (Y_lenSl h_steps rfl Tryd.underlying36 rfl) rfl rfl rfl ?_
  refine V_y (Y_move rfl) rfl rfl rfl ?_
  refine V_to (fun _ _ => rfl) ?_
  have hn31 := Sl.le h_steps
  obtain ⟨o11, ho11, hm⟩ := Option.bind_eq_some_iff.1 hm
  refine C_cutG (ι := (Int × (Nat → Prop))) (fun ⟨s12, A18⟩ => [(1, v_steps), (3, .pointer (some ⟨b5, 0, none⟩)), (7, .int .i64 s12)]) (fun ⟨s12, A18⟩ => fun w' => o11 = .fin s12 ∧ Hp w.heap.size A18 w' ([]) ∧ Tr w.heap.size A w6 A18 w') ?_ ?_
  · refine C_block ?_
    refine C_range ho11 (fun k14 s20 a w' => ∃ i : (Nat → Prop), Has ⟨63, [], none⟩ a ([(1, v_steps), (2, .int .i64 m), (3, .pointer (some ⟨b5, 0, none⟩)), (7, .int .i64 s20), (13, v_steps), (14, .int .i64 (steps.length : Int)), (15, .int .i64 (k14 : Int))]) ∧ Hp w.heap.size i w' ([]) ∧ Tr w.heap.size A w6 i w') (fun a ha => ⟨A, ha.sub ⟨rfl, rfl, rfl, rfl, rfl, rfl, rfl, trivial⟩, ⟨hH, Tr.refl hA⟩⟩) ?_
    rintro K k14 s20 a w21 ⟨A22, ha68, hH23, hr13⟩ hle27 K30 h29
    refine C_of ?_ ha68
    replace h_steps := Sl.tr h_steps hr13
    replace h8 := El.tr h8 hr13
    replace hK := Tr.trans hK hr13
    replace hB := Nat.le_trans hB hr13.ex.size
    replace hA := hr13.new
    replace hH : Hp w.heap.size A22 w21 ([]) := hH23
    refine C_seq (C_region (V_y (Y_lss rfl rfl) rfl rfl rfl (V_to (fun _ _ => rfl) ?_)))
    refine C_seq ?_
    refine C_cond rfl (fun hc32 => ?_) (fun hc32 => ?_)
    · have hlt28 := lt_of_dec hc32
      obtain ⟨x24, h25, h26⟩ := K30 hlt28
      refine C_skip_to (fun _ _ => rfl) ?_
      refine C_seq ?_
      obtain ⟨s34, ho33, h25⟩ := Option.bind_eq_some_iff.1 h25
      refine C_cutG (ι := (Nat → Prop)) (fun (A39 : (Nat → Prop)) => [(1, v_steps), (2, .int .i64 m), (3, .pointer (some ⟨b5, 0, none⟩)), (7, .int .i64 s34), (13, v_steps), (14, .int .i64 (steps.length : Int)), (15, .int .i64 (k14 : Int))]) (fun (A39 : (Nat → Prop)) => fun w' => Hp w.heap.size A39 w' ([]) ∧ Tr w.heap.size A22 w21 A39 w') ?_ ?_
      · have hr35 : Tr w.heap.size A22 w21 A22 w21 := Tr.refl hA
        refine C_block ?_
        refine C_seq ?_
        refine C_region ?_
        refine V_y (Y_move rfl) rfl rfl rfl ?_
        obtain ⟨x41, hx41, ho33⟩ := Option.bind_eq_some_iff.1 ho33
        refine V_indexAddr h_steps hx41 Tryd.underlying36 Tryd.sizeOf69 rfl rfl rfl ?_
        intro b42 o43 h44
        obtain ⟨h45, _⟩ := El_route_Step h44
        refine V_y (Y_loadA h45 Tryd.isAgg69 Tryd.sizeOf69 rfl) rfl rfl rfl ?_
        refine V_alloc Tryd.zeroValue69 rfl ?_
        intro b46 w47 h48
        refine V_y (Y_assign rfl) rfl rfl rfl ?_
        refine V_storeNew h48 Tryd.sizeOf69 rfl rfl rfl rfl (by exact (List.forall_mem_cons.2 ⟨rfl, (List.forall_mem_cons.2 ⟨rfl, (List.forall_mem_cons.2 ⟨rfl, (fun _ h => nomatch h)⟩)⟩)⟩)) ?_
        intro w49 h50
        have hk52 := h50.kp
        have h51 : El (α := route_Step) A22 w49 b46 0 x41 := h50.el hA ⟨[.int .i64 x41.after], _, rfl, rfl, ⟨[.int .i64 x41.lower], _, rfl, rfl, rfl⟩⟩
        have ht53 := Kp.tr hk52 hA hB
        replace hH := Hp.kp hH hk52
        replace h_steps := Sl.tr h_steps ht53
        replace h8 := El.tr h8 ht53
        replace h44 := El.tr h44 ht53
        replace hK := Tr.trans hK ht53
        replace hr13 := Tr.trans hr13 ht53
        replace hr35 := Tr.trans hr35 ht53
        replace hB := Nat.le_trans hB ht53.ex.size
        replace hA := ht53.new
        refine V_to (fun _ _ => rfl) ?_
        refine C_seq ?_
        refine C_region ?_
        have h54 := El_route_Step_0 h51
        refine V_y (Y_fieldAddr Tryd.underlying69 rfl Tryd.sizeOf3 (by decide) rfl) rfl rfl rfl ?_
        refine V_y (Y_load (El.int h54) Tryd.isAgg3 rfl) rfl rfl rfl ?_
        refine V_y (Y_move rfl) rfl rfl rfl ?_
        have h55 := El_route_Work_3 h8
        refine V_y (Y_fieldAddr Tryd.underlying35 rfl Tryd.sizeOf3 (by decide) rfl) rfl rfl rfl ?_
        refine V_y (Y_load (El.int h55) Tryd.isAgg3 rfl) rfl rfl rfl ?_
        refine V_y (Y_subI rfl rfl) rfl rfl rfl ?_
        refine V_y (Y_leq rfl rfl) rfl rfl rfl ?_
        refine V_to (fun _ _ => rfl) ?_
        obtain ⟨s57, ho56, ho33⟩ := Option.bind_eq_some_iff.1 ho33
        refine C_cutG (ι := Unit) (fun (_ : Unit) => [(1, v_steps), (2, .int .i64 m), (3, .pointer (some ⟨b5, 0, none⟩)), (7, .int .i64 s57), (13, v_steps), (14, .int .i64 (steps.length : Int)), (15, .int .i64 (k14 : Int))]) (fun (_ : Unit) => fun w' => w49 = w') ?_ ?_
        · refine C_cond rfl (fun hc62 => ?_) (fun hc62 => ?_)
          · rw [if_pos hc62] at ho56
            refine C_region ?_
            refine V_y (Y_move rfl) rfl rfl rfl ?_
            refine V_y (Y_assign rfl) rfl rfl rfl ?_
            obtain rfl := Option.some.inj ho56
            refine V_end (fun a ha63 => ?_)
            exact ⟨(), ha63.sub ⟨rfl, rfl, rfl, rfl, rfl, rfl, rfl, trivial⟩, rfl⟩
          · rw [if_neg (nt hc62)] at ho56
            obtain rfl := Option.some.inj ho56
            refine C_skip (fun a ha64 => ?_)
            exact ⟨(), ha64.sub ⟨rfl, rfl, rfl, rfl, rfl, rfl, rfl, trivial⟩, rfl⟩
        rintro _ _ rfl a ha61
        obtain rfl := Option.some.inj ho33
        exact ⟨A22, ha61.sub ⟨rfl, rfl, rfl, rfl, rfl, rfl, rfl, trivial⟩, ⟨hH, hr35⟩⟩
      rintro A39 w36 ⟨hH40, hk37⟩ a ha38
      replace h_steps := Sl.tr h_steps hk37
      replace h8 := El.tr h8 hk37
      replace hK := Tr.trans hK hk37
      replace hr13 := Tr.trans hr13 hk37
      replace hB := Nat.le_trans hB hk37.ex.size
      replace hA := hk37.new
      replace hH : Hp w.heap.size A39 w36 ([]) := hH40
      refine C_at (n := ⟨63, [], none⟩) (fun _ _ => rfl) ?_ ha38
      refine C_region ?_
      refine V_y (Y_addI rfl rfl) rfl rfl rfl ?_
      refine V_y (Y_move rfl) rfl rfl rfl ?_
      obtain rfl := Option.some.inj h25
      refine V_end (fun a ha66 => ?_)
      exact ⟨s34, hlt28, h26, ⟨A39, ha66.sub ⟨rfl, rfl, rfl, rfl, rfl, rfl, (congrArg (fun z => some (Value.int .i64 z)) (w64_succ hlt28 hn31)), trivial⟩, ⟨hH, hr13⟩⟩⟩
    · refine C_exit (fun a ha67 => ?_)
      exact ⟨(s20, A22), ha67.sub ⟨rfl, rfl, rfl, trivial⟩, ⟨(h29 (eq_of_dec hle27 hc32)).symm, hH, hr13⟩⟩
  rintro ⟨s12, A18⟩ w15 ⟨rfl, hH19, hk16⟩ a ha17
  rw [Lp.andThen_fin] at hm
  replace h_steps := Sl.tr h_steps hk16
  replace h8 := El.tr h8 hk16
  replace hK := Tr.trans hK hk16
  replace hB := Nat.le_trans hB hk16.ex.size
  replace hA := hk16.new
  replace hH : Hp w.heap.size A18 w15 ([]) := hH19
  refine C_at (n := ⟨63, [], none⟩) (fun _ _ => rfl) ?_ ha17
  refine C_seq ?_
  refine C_seq ?_
  refine C_region ?_
  refine V_y (Y_move rfl) rfl rfl rfl ?_
  refine V_y (Y_lss rfl rfl) rfl rfl rfl ?_
  refine V_to (fun _ _ => rfl) ?_
  refine C_cond rfl (fun hc69 => ?_) (fun hc69 => ?_)
  · rw [if_pos hc69] at hm
    refine C_seq ?_
    refine C_region ?_
    have h70 := El_route_Work_5 h8
    refine V_y (Y_fieldAddr Tryd.underlying35 rfl Tryd.sizeOf33 (by decide) rfl) rfl rfl rfl ?_
    obtain ⟨v71, h72, h73⟩ := El.list h70
    refine V_y (Y_load h72 Tryd.isAgg33 rfl) rfl rfl rfl ?_
    refine V_y (Y_assign rfl) rfl rfl rfl ?_
    refine V_to (fun _ _ => rfl) ?_
    obtain rfl := Option.some.inj hm
    refine C_ret ?_
    try simp only [↓inBlock_ret, ↓then_ret]
    exact retQ rfl (Res.one Tryd.results33 rfl) ⟨v71, rfl, (Sl.out h73 hA0 hK), hK.kp⟩
  · rw [if_neg (nt hc69)] at hm
    refine C_skip_to (fun _ _ => rfl) ?_
    refine C_seq ?_
    refine C_seq ?_
    refine C_region ?_
    refine V_y (Y_move rfl) rfl rfl rfl ?_
    refine V_y (Y_move rfl) rfl rfl rfl ?_
    obtain ⟨x74, hx74, hm⟩ := Option.bind_eq_some_iff.1 hm
    refine V_indexAddr h_steps hx74 Tryd.underlying36 Tryd.sizeOf69 rfl rfl rfl ?_
    intro b75 o76 h77
    have h78 := El_route_Step_2 h77
    refine V_y (Y_fieldAddr Tryd.underlying69 rfl Tryd.sizeOf4 (by decide) rfl) rfl rfl rfl ?_
    refine V_y (Y_load (El.bool h78) Tryd.isAgg4 rfl) rfl rfl rfl ?_
    refine V_to (fun _ _ => rfl) ?_
    refine C_cond rfl (fun hc79 => ?_) (fun hc79 => ?_)
    · rw [if_pos hc79] at hm
      refine C_seq ?_
      refine C_region ?_
      refine V_y (Y_assign rfl) rfl rfl rfl ?_
      refine V_to (fun _ _ => rfl) ?_
      obtain rfl := Option.some.inj hm
      refine C_ret ?_
      try simp only [↓inBlock_ret, ↓then_ret]
      exact retQ rfl (Res.one Tryd.results33 rfl) ⟨.slice none 0 0, rfl, Sl.nil, hK.kp⟩
    · rw [if_neg (nt hc79)] at hm
      refine C_skip_to (fun _ _ => rfl) ?_
      refine C_seq ?_
      refine C_region ?_
      refine V_y (Y_assign rfl) rfl rfl rfl ?_
      refine V_to (fun _ _ => rfl) ?_
      refine C_seq ?_
      refine C_seq ?_
      refine C_region ?_
      have h80 := El_route_Work_5 h8
      refine V_y (Y_fieldAddr Tryd.underlying35 rfl Tryd.sizeOf33 (by decide) rfl) rfl rfl rfl ?_
      obtain ⟨v81, h82, h83⟩ := El.list h80
      refine V_y (Y_load h82 Tryd.isAgg33 rfl) rfl rfl rfl ?_
      refine V_y (Y_lenSl h83 rfl Tryd.underlying33 rfl) rfl rfl rfl ?_
      refine V_y (Y_move rfl) rfl rfl rfl ?_
      refine V_to (fun _ _ => rfl) ?_
      replace hH : Hp w.heap.size A18 w15 (obS (α := route_Skill) 42 (.slice none 0 0) ([] : (List route_Skill)) :: []) := Hp.addNil (α := route_Skill) (e := 42) hH
      have hn108 := Sl.le h83
      obtain ⟨o84, ho84, hm⟩ := Option.bind_eq_some_iff.1 hm
      refine C_cutG (ι := ((List route_Skill) × Value × (Nat → Prop))) (fun ⟨s85, v91, A93⟩ => [(10, v91)]) (fun ⟨s85, v91, A93⟩ => fun w' => o84 = .fin s85 ∧ Hp w.heap.size A93 w' (obS (α := route_Skill) 42 v91 s85 :: []) ∧ Tr w.heap.size A18 w15 A93 w') ?_ ?_
      · refine C_block ?_
        refine C_range ho84 (fun k87 s95 a w' => ∃ i : (Value × (Nat → Prop)), Has ⟨63, [], none⟩ a ([(1, v_steps), (7, .int .i64 s12), (10, i.1), (39, v81), (40, .int .i64 (w_.needs.length : Int)), (41, .int .i64 (k87 : Int))]) ∧ Hp w.heap.size i.2 w' (obS (α := route_Skill) 42 i.1 s95 :: []) ∧ Tr w.heap.size A18 w15 i.2 w') (fun a ha => ⟨(.slice none 0 0, A18), ha.sub ⟨rfl, rfl, rfl, rfl, rfl, rfl, trivial⟩, ⟨hH, Tr.refl hA⟩⟩) ?_
        rintro K k87 s95 a w96 ⟨⟨v97, A99⟩, ha170, hH100, hr86⟩ hle104 K107 h106
        refine C_of ?_ ha170
        replace h_steps := Sl.tr h_steps hr86
        replace h83 := Sl.tr h83 hr86
        replace hK := Tr.trans hK hr86
        replace hB := Nat.le_trans hB hr86.ex.size
        replace hA := hr86.new
        replace hH : Hp w.heap.size A99 w96 (obS (α := route_Skill) 42 v97 s95 :: []) := hH100
        refine C_seq (C_region (V_y (Y_lss rfl rfl) rfl rfl rfl (V_to (fun _ _ => rfl) ?_)))
        refine C_seq ?_
        refine C_cond rfl (fun hc109 => ?_) (fun hc109 => ?_)
        · have hlt105 := lt_of_dec hc109
          obtain ⟨x101, h102, h103⟩ := K107 hlt105
          refine C_skip_to (fun _ _ => rfl) ?_
          refine C_seq ?_
          obtain ⟨s111, ho110, h102⟩ := Option.bind_eq_some_iff.1 h102
          refine C_cutG (ι := (Value × (Nat → Prop))) (fun ⟨v113, A118⟩ => [(1, v_steps), (7, .int .i64 s12), (10, v113), (39, v81), (40, .int .i64 (w_.needs.length : Int)), (41, .int .i64 (k87 : Int))]) (fun ⟨v113, A118⟩ => fun w' => Hp w.heap.size A118 w' (obS (α := route_Skill) 42 v113 s111 :: []) ∧ Tr w.heap.size A99 w96 A118 w') ?_ ?_
          · have hr112 : Tr w.heap.size A99 w96 A99 w96 := Tr.refl hA
            refine C_block ?_
            refine C_seq ?_
            refine C_region ?_
            obtain ⟨x120, hx120, ho110⟩ := Option.bind_eq_some_iff.1 ho110
            refine V_indexAddr h83 hx120 Tryd.underlying33 Tryd.sizeOf42 rfl rfl rfl ?_
            intro b121 o122 h123
            obtain ⟨h124, _⟩ := El_route_Skill h123
            refine V_y (Y_loadA h124 Tryd.isAgg42 Tryd.sizeOf42 rfl) rfl rfl rfl ?_
            refine V_allocH (B := w.heap.size) hH Tryd.zeroValue42 hB hA rfl ?_
            intro b125 w126 A127 hH128 ht129
            replace h_steps := Sl.tr h_steps ht129
            replace h83 := Sl.tr h83 ht129
            replace h123 := El.tr h123 ht129
            replace hK := Tr.trans hK ht129
            replace hr86 := Tr.trans hr86 ht129
            replace hr112 := Tr.trans hr112 ht129
            replace hB := Nat.le_trans hB ht129.ex.size
            replace hA := ht129.new
            replace hH : Hp w.heap.size A127 w126 (obC b125 [.string ByteArray.empty, .int .i64 0] 42 :: obS (α := route_Skill) 42 v97 s95 :: []) := hH128
            refine V_storeC (off := 0) (ds := [.string x120.name, .int .i64 x120.rank]) hH (i := 0) rfl Tryd.sizeOf42 rfl (Nat.le_of_ble_eq_true rfl) (by simp [Value.cells, Value.oneCell']) rfl hB hA rfl rfl ?_
            intro w130 hH131 ht132
            replace h_steps := Sl.tr h_steps ht132
            replace h83 := Sl.tr h83 ht132
            replace h123 := El.tr h123 ht132
            replace hK := Tr.trans hK ht132
            replace hr86 := Tr.trans hr86 ht132
            replace hr112 := Tr.trans hr112 ht132
            replace hB := Nat.le_trans hB ht132.ex.size
            replace hA := ht132.new
            replace hH : Hp w.heap.size A127 w130 (obC b125 [.string x120.name, .int .i64 x120.rank] 42 :: obS (α := route_Skill) 42 v97 s95 :: []) := hH131
            refine V_to (fun _ _ => rfl) ?_
            refine C_seq ?_
            refine C_region_qt 9 Tryd_mixed (by kernel_rfl) ?_
            simp only [List.take, List.drop]
            refine VQ_y (fun w' hw' => Y_fieldAddrC (off2 := 1) Tryd.underlying42 rfl Tryd.sizeOf3 (by decide) rfl rfl) rfl rfl rfl ?_
            refine VQ_y (fun w' hw' => Y_load ((World.cell?_of_block (hw'.block _ (World.block_lt_of_cell? _ _ (Hp.cell (j := 1) hH (i := 0) rfl rfl)))).trans (Hp.cell (j := 1) hH (i := 0) rfl rfl)) Tryd.isAgg3 rfl) rfl rfl rfl ?_
            refine VQ_y (fun w' hw' => Y_move rfl) rfl rfl rfl ?_
            refine VQ_y (fun w' hw' => Y_move rfl) rfl rfl rfl ?_
            refine VQ_indexAddr h_steps hx74 Tryd.underlying36 Tryd.sizeOf69 rfl rfl rfl ?_
            intro b133 o134 h135
            have h136 := El_route_Step_1 h135
            refine VQ_y (fun w' hw' => Y_fieldAddr Tryd.underlying69 rfl Tryd.sizeOf3 (by decide) rfl) rfl rfl rfl ?_
            refine VQ_y (fun w' hw' => Y_load (El.int (El.kp h136 hw')) Tryd.isAgg3 rfl) rfl rfl rfl ?_
            refine VQ_y (fun w' hw' => Y_subI rfl rfl) rfl rfl rfl ?_
            refine VQ_y (fun w' hw' => Y_fieldAddrC (off2 := 1) Tryd.underlying42 rfl Tryd.sizeOf3 (by decide) rfl rfl) rfl rfl rfl ?_
            refine VQ_tail (fun w137 hk138 => ?_)
            try simp only [List.take, List.drop]
            have ht139 := Kp.tr hk138 hA hB
            replace hH := Hp.kp hH hk138
            replace h_steps := Sl.tr h_steps ht139
            replace h83 := Sl.tr h83 ht139
            replace h135 := El.tr h135 ht139
            replace h136 := El.tr h136 ht139
            replace hK := Tr.trans hK ht139
            replace hr86 := Tr.trans hr86 ht139
            replace hr112 := Tr.trans hr112 ht139
            replace hB := Nat.le_trans hB ht139.ex.size
            replace hA := ht139.new
            refine V_storeC (off := 1) (ds := [.string x120.name, .int .i64 (w64 (x120.rank - x74.lower))]) hH (i := 0) rfl Tryd.sizeOf3 rfl (Nat.le_of_ble_eq_true rfl) (by simp [Value.cells, Value.oneCell']) rfl hB hA rfl rfl ?_
            intro w140 hH141 ht142
            replace h_steps := Sl.tr h_steps ht142
            replace h83 := Sl.tr h83 ht142
            replace h135 := El.tr h135 ht142
            replace h136 := El.tr h136 ht142
            replace hK := Tr.trans hK ht142
            replace hr86 := Tr.trans hr86 ht142
            replace hr112 := Tr.trans hr112 ht142
            replace hB := Nat.le_trans hB ht142.ex.size
            replace hA := ht142.new
            replace hH : Hp w.heap.size A127 w140 (obC b125 [.string x120.name, .int .i64 (w64 (x120.rank - x74.lower))] 42 :: obS (α := route_Skill) 42 v97 s95 :: []) := hH141
            refine V_to (fun _ _ => rfl) ?_
            refine C_seq ?_
            refine C_region ?_
            refine V_y (Y_fieldAddrC (off2 := 1) Tryd.underlying42 rfl Tryd.sizeOf3 (by decide) rfl rfl) rfl rfl rfl ?_
            refine V_y (Y_load (Hp.cell (j := 1) hH (i := 0) rfl rfl) Tryd.isAgg3 rfl) rfl rfl rfl ?_
            refine V_y (Y_geq rfl rfl) rfl rfl rfl ?_
            refine V_to (fun _ _ => rfl) ?_
            obtain ⟨s144, ho143, ho110⟩ := Option.bind_eq_some_iff.1 ho110
            refine C_cutG (ι := (Value × (Nat → Prop))) (fun ⟨v146, A151⟩ => [(1, v_steps), (7, .int .i64 s12), (10, v146), (39, v81), (40, .int .i64 (w_.needs.length : Int)), (41, .int .i64 (k87 : Int))]) (fun ⟨v146, A151⟩ => fun w' => Hp w.heap.size A151 w' (obC b125 [.string x120.name, .int .i64 (w64 (x120.rank - x74.lower))] 42 :: obS (α := route_Skill) 42 v146 s144 :: []) ∧ Tr w.heap.size A127 w140 A151 w') ?_ ?_
            · have hr145 : Tr w.heap.size A127 w140 A127 w140 := Tr.refl hA
              refine C_cond rfl (fun hc153 => ?_) (fun hc153 => ?_)
              · rw [if_pos hc153] at ho143
                refine C_region ?_
                refine V_y (Y_move rfl) rfl rfl rfl ?_
                refine V_y (Y_loadA (Hp.part (off := 0) (n := 2) (ds := [.string x120.name, .int .i64 (w64 (x120.rank - x74.lower))]) hH (i := 0) rfl rfl) Tryd.isAgg42 Tryd.sizeOf42 rfl) rfl rfl rfl ?_
                refine V_buildSlice (l := ([(⟨x120.name, w64 (x120.rank - x74.lower)⟩ : route_Skill)] : List route_Skill)) (len := 1) Tryd.underlying33 Tryd.sizeOf42 Tryd.zeroValue42 rfl (by with_unfolding_all rfl) (by decide) (by decide) hA ⟨[.string x120.name, .int .i64 (w64 (x120.rank - x74.lower))], _, rfl, ⟨[.string x120.name], _, rfl, rfl, rfl⟩, rfl⟩ rfl rfl ?_
                intro v154 w155 hk157 h156
                have ht158 := Kp.tr hk157 hA hB
                replace hH := Hp.kp hH hk157
                replace h_steps := Sl.tr h_steps ht158
                replace h83 := Sl.tr h83 ht158
                replace hK := Tr.trans hK ht158
                replace hr86 := Tr.trans hr86 ht158
                replace hr112 := Tr.trans hr112 ht158
                replace hr145 := Tr.trans hr145 ht158
                replace hB := Nat.le_trans hB ht158.ex.size
                replace hA := ht158.new
                obtain ⟨x159, hx159, ho143⟩ := Option.bind_eq_some_iff.1 ho143
                refine V_appendH (e := 42) (v := v97) (l := s95) (ti := Tryd.t42) (bytes := 24) (lim := 5864062014805) hH (i := 1) rfl h156 hx159 Tryd.underlying33 Tryd_info42 rfl rfl rfl rfl (by decide) (by decide) (by decide) hB hA rfl rfl rfl ?_
                intro v160 w161 A162 hH163 ht164
                replace h_steps := Sl.tr h_steps ht164
                replace h83 := Sl.tr h83 ht164
                replace h156 := Sl.tr h156 ht164
                replace hK := Tr.trans hK ht164
                replace hr86 := Tr.trans hr86 ht164
                replace hr112 := Tr.trans hr112 ht164
                replace hr145 := Tr.trans hr145 ht164
                replace hB := Nat.le_trans hB ht164.ex.size
                replace hA := ht164.new
                replace hH : Hp w.heap.size A162 w161 (obC b125 [.string x120.name, .int .i64 (w64 (x120.rank - x74.lower))] 42 :: obS (α := route_Skill) 42 v160 x159 :: []) := hH163
                refine V_y (Y_assign rfl) rfl rfl rfl ?_
                obtain rfl := Option.some.inj ho143
                refine V_end (fun a ha165 => ?_)
                exact ⟨(v160, A162), ha165.sub ⟨rfl, rfl, rfl, rfl, rfl, rfl, trivial⟩, ⟨hH, hr145⟩⟩
              · rw [if_neg (nt hc153)] at ho143
                obtain rfl := Option.some.inj ho143
                refine C_skip (fun a ha166 => ?_)
                exact ⟨(v97, A127), ha166.sub ⟨rfl, rfl, rfl, rfl, rfl, rfl, trivial⟩, ⟨hH, hr145⟩⟩
            rintro ⟨v146, A151⟩ w148 ⟨hH152, hk149⟩ a ha150
            replace h_steps := Sl.tr h_steps hk149
            replace h83 := Sl.tr h83 hk149
            replace hK := Tr.trans hK hk149
            replace hr86 := Tr.trans hr86 hk149
            replace hr112 := Tr.trans hr112 hk149
            replace hB := Nat.le_trans hB hk149.ex.size
            replace hA := hk149.new
            replace hH : Hp w.heap.size A151 w148 (obC b125 [.string x120.name, .int .i64 (w64 (x120.rank - x74.lower))] 42 :: obS (α := route_Skill) 42 v146 s144 :: []) := hH152
            obtain rfl := Option.some.inj ho110
            replace hH : Hp w.heap.size A151 w148 (obS (α := route_Skill) 42 v146 s144 :: obC b125 [.string x120.name, .int .i64 (w64 (x120.rank - x74.lower))] 42 :: []) := Hp.front hH (i := 1) rfl
            replace hH : Hp w.heap.size A151 w148 (obS (α := route_Skill) 42 v146 s144 :: []) := Hp.drop hH (i := 1) rfl
            exact ⟨(v146, A151), ha150.sub ⟨rfl, rfl, rfl, rfl, rfl, rfl, trivial⟩, ⟨hH, hr112⟩⟩
          rintro ⟨v113, A118⟩ w115 ⟨hH119, hk116⟩ a ha117
          replace h_steps := Sl.tr h_steps hk116
          replace h83 := Sl.tr h83 hk116
          replace hK := Tr.trans hK hk116
          replace hr86 := Tr.trans hr86 hk116
          replace hB := Nat.le_trans hB hk116.ex.size
          replace hA := hk116.new
          replace hH : Hp w.heap.size A118 w115 (obS (α := route_Skill) 42 v113 s111 :: []) := hH119
          refine C_at (n := ⟨63, [], none⟩) (fun _ _ => rfl) ?_ ha117
          refine C_region ?_
          refine V_y (Y_addI rfl rfl) rfl rfl rfl ?_
          refine V_y (Y_move rfl) rfl rfl rfl ?_
          obtain rfl := Option.some.inj h102
          refine V_end (fun a ha168 => ?_)
          exact ⟨s111, hlt105, h103, ⟨(v113, A118), ha168.sub ⟨rfl, rfl, rfl, rfl, rfl, (congrArg (fun z => some (Value.int .i64 z)) (w64_succ hlt105 hn108)), trivial⟩, ⟨hH, hr86⟩⟩⟩
        · refine C_exit (fun a ha169 => ?_)
          exact ⟨(s95, v97, A99), ha169.sub ⟨rfl, trivial⟩, ⟨(h106 (eq_of_dec hle104 hc109)).symm, hH, hr86⟩⟩
      rintro ⟨s85, v91, A93⟩ w88 ⟨rfl, hH94, hk89⟩ a ha90
      rw [Lp.andThen_fin] at hm
      replace hK := Tr.trans hK hk89
      replace hB := Nat.le_trans hB hk89.ex.size
      replace hA := hk89.new
      replace hH : Hp w.heap.size A93 w88 (obS (α := route_Skill) 42 v91 s85 :: []) := hH94
      refine C_at (n := ⟨63, [], none⟩) (fun _ _ => rfl) ?_ ha90
      refine C_seq ?_
      refine C_region ?_
      refine V_y (Y_move rfl) rfl rfl rfl ?_
      refine V_y (Y_assign rfl) rfl rfl rfl ?_
      refine V_to (fun _ _ => rfl) ?_
      obtain rfl := Option.some.inj hm
      obtain ⟨A171, ht172, h173, hH174⟩ := Hp.freeze (α := route_Skill) (v := v91) (l := s85) hH (i := 0) rfl hA
      replace hK := Tr.trans hK ht172
      replace hB := Nat.le_trans hB ht172.ex.size
      replace hA := ht172.new
      replace hH : Hp w.heap.size A171 w88 ([]) := hH174
      refine C_ret ?_
      try simp only [↓inBlock_ret, ↓then_ret]
      exact retQ rfl (Res.one Tryd.results33 rfl) ⟨v91, rfl, (Sl.out h173 hA0 hK), hK.kp⟩

set_option maxRecDepth 4000 in
set_option maxHeartbeats 4000000 in
theorem portref2_NeedsOf_c (w : World) {A : Nat → Prop} (hA : ∀ b, w.heap.size ≤ b → A b) (w_ : route_Work) (v_w_ : Value) (h_w_ : Sl A w v_w_ w_.needs) (steps : (List route_Step)) (v_steps : Value) (h_steps : Sl A w v_steps steps) (m : Int) {r : ((List route_Skill) × Int)} (hm : portref2_NeedsOf w_ steps m = some r) : Ret Tryd.prog 13 #[.agg #[.int .i64 w_.ticket, .int .i64 w_.weight, .int .i64 w_.urgency, .int .i64 w_.since, .int .i64 w_.former, v_w_], v_steps, .int .i64 m] w fun v w' => ∃ s0, v = .tuple #[s0, .int .i64 r.2] ∧ Sl A w' s0 r.1 ∧ Kp w w' := by
  unfold portref2_NeedsOf at hm
  refine enter Tryd.func13 rfl Tryd.ntmps13 rfl ?_
  have hA0 := hA
  have hB := Nat.le_refl w.heap.size
  have hK : Tr w.heap.size A w A w := Tr.refl hA
  have hH : Hp w.heap.size A w [] := Hp.nil
  refine C_seq ?_
  refine C_region ?_
  refine V_box rfl rfl ?_
  intro b5 w6 h7
  have hk9 := h7.kp
  have h8 : El (α := route_Work) A w6 b5 0 w_ := h7.el hA ⟨[.int .i64 w_.ticket], _, rfl, rfl, ⟨[.int .i64 w_.weight], _, rfl, rfl, ⟨[.int .i64 w_.urgency], _, rfl, rfl, ⟨[.int .i64 w_.since], _, rfl, rfl, ⟨[.int .i64 w_.former], _, rfl, rfl, ⟨_, rfl, h_w_⟩⟩⟩⟩⟩⟩
  have ht10 := Kp.tr hk9 hA hB
  replace hH := Hp.kp hH hk9
  replace h_w_ := Sl.tr h_w_ ht10
  replace h_steps := Sl.tr h_steps ht10
  replace hK := Tr.trans hK ht10
  replace hB := Nat.le_trans hB ht10.ex.size
  replace hA := ht10.new
  refine V_y (Y_assign rfl) rfl rfl rfl ?_
  refine V_y (Y_assign rfl) rfl rfl rfl ?_
  refine V_to (fun _ _ => rfl) ?_
  refine C_seq ?_
  refine C_seq ?_
  refine C_region ?_
  obtain ⟨v11, h13, h12⟩ := El_route_Work h8
  refine V_y (Y_loadA h13 Tryd.isAgg35 Tryd.sizeOf35 rfl) rfl rfl rfl ?_
  refine V_buildSlice (l := ([w_] : List route_Work)) (len := 1) Tryd.underlying53 Tryd.sizeOf35 Tryd.zeroValue35 rfl (by with_unfolding_all rfl) (by decide) (by decide) hA ⟨[.int .i64 w_.ticket, .int .i64 w_.weight, .int .i64 w_.urgency, .int .i64 w_.since, .int .i64 w_.former, v11], _, rfl, ⟨[.int .i64 w_.ticket], _, rfl, rfl, ⟨[.int .i64 w_.weight], _, rfl, rfl, ⟨[.int .i64 w_.urgency], _, rfl, rfl, ⟨[.int .i64 w_.since], _, rfl, rfl, ⟨[.int .i64 w_.former], _, rfl, rfl, ⟨_, rfl, h12⟩⟩⟩⟩⟩⟩, rfl⟩ rfl rfl ?_
  intro v14 w15 hk17 h16
  have ht18 := Kp.tr hk17 hA hB
  replace hH := Hp.kp hH hk17
  replace h_steps := Sl.tr h_steps ht18
  replace h8 := El.tr h8 ht18
  replace h12 := Sl.tr h12 ht18
  replace hK := Tr.trans hK ht18
  replace hB := Nat.le_trans hB ht18.ex.size
  replace hA := ht18.new
  obtain ⟨x19, hx19, hm⟩ := Option.bind_eq_some_iff.1 hm
  refine V_call Tryd.call30 rfl rfl rfl rfl (portref2_WorkFault_c w15 hA ([w_] : List route_Work) v14 h16 hx19) ?_
  rintro _ w20 ⟨rfl, hk21⟩
  have ht22 := Kp.tr hk21 hA hB
  replace hH := Hp.kp hH hk21
  replace h_steps := Sl.tr h_steps ht22
  replace h8 := El.tr h8 ht22
  replace h12 := Sl.tr h12 ht22
  replace h16 := Sl.tr h16 ht22
  replace hK := Tr.trans hK ht22
  replace hB := Nat.le_trans hB ht22.ex.size
  replace hA := ht22.new
  refine V_y (Y_assign rfl) rfl rfl rfl ?_
  refine V_to (fun _ _ => rfl) ?_
  refine C_seq ?_
  refine C_region ?_
  refine V_y (Y_move rfl) rfl rfl rfl ?_
  refine V_y (Y_neq rfl rfl) rfl rfl rfl ?_
  refine V_to (fun _ _ => rfl) ?_
  refine C_cond rfl (fun hc23 => ?_) (fun hc23 => ?_)
  · rw [if_pos hc23] at hm
    refine C_seq ?_
    refine C_region ?_
    refine V_y (Y_move rfl) rfl rfl rfl ?_
    refine V_y (Y_assign rfl) rfl rfl rfl ?_
    refine V_y (Y_assign rfl) rfl rfl rfl ?_
    refine V_to (fun _ _ => rfl) ?_
    obtain rfl := Option.some.inj hm
    refine C_ret ?_
    try simp only [↓inBlock_ret, ↓then_ret]
    exact retQ rfl (Res.two Tryd.results13 rfl rfl) ⟨.slice none 0 0, rfl, Sl.nil, hK.kp⟩
  · rw [if_neg (nt hc23)] at hm
    refine C_skip_to (fun _ _ => rfl) ?_
    refine C_seq ?_
    refine C_seq ?_
    refine C_region ?_
    refine V_y (Y_move rfl) rfl rfl rfl ?_
    obtain ⟨x24, hx24, hm⟩ := Option.bind_eq_some_iff.1 hm
    refine V_call Tryd.call31 rfl rfl rfl rfl (portref2_StepsFault_c w20 hA steps v_steps h_steps hx24) ?_
    rintro _ w25 ⟨rfl, hk26⟩
    have ht27 := Kp.tr hk26 hA hB
    replace hH := Hp.kp hH hk26
    replace h_steps := Sl.tr h_steps ht27
    replace h8 := El.tr h8 ht27
    replace hK := Tr.trans hK ht27
    replace hB := Nat.le_trans hB ht27.ex.size
    replace hA := ht27.new
    refine V_y (Y_assign rfl) rfl rfl rfl ?_
    refine V_to (fun _ _ => rfl) ?_
    refine C_seq ?_
    refine C_region ?_
    refine V_y (Y_move rfl) rfl rfl rfl ?_
    refine V_y (Y_neq rfl rfl) rfl rfl rfl ?_
    refine V_to (fun _ _ => rfl) ?_
    refine C_cond rfl (fun hc28 => ?_) (fun hc28 => ?_)
    · rw [if_pos hc28] at hm
      refine C_seq ?_
      refine C_region ?_
      refine V_y (Y_move rfl) rfl rfl rfl ?_
      refine V_y (Y_assign rfl) rfl rfl rfl ?_
      refine V_y (Y_assign rfl) rfl rfl rfl ?_
      refine V_to (fun _ _ => rfl) ?_
      obtain rfl := Option.some.inj hm
      refine C_ret ?_
      try simp only [↓inBlock_ret, ↓then_ret]
      exact retQ rfl (Res.two Tryd.results13 rfl rfl) ⟨.slice none 0 0, rfl, Sl.nil, hK.kp⟩
    · rw [if_neg (nt hc28)] at hm
      refine C_skip_to (fun _ _ => rfl) ?_
      refine C_seq ?_
      refine C_seq ?_
      refine C_region ?_
      refine V_y (Y_move rfl) rfl rfl rfl ?_
      refine V_call Tryd.call32 rfl rfl rfl rfl (portref2_IsMoment_c w25 m) ?_
      rintro _ _ ⟨rfl, rfl⟩
      refine V_y (Y_not rfl) rfl rfl rfl ?_
      refine V_to (fun _ _ => rfl) ?_
      refine C_cond rfl (fun hc29 => ?_) (fun hc29 => ?_)
      · rw [if_pos hc29] at hm
        refine C_seq ?_
        refine C_region ?_
        refine V_y (Y_assign rfl) rfl rfl rfl ?_
        refine V_y (Y_assign rfl) rfl rfl rfl ?_
        refine V_to (fun _ _ => rfl) ?_
        obtain rfl := Option.some.inj hm
        refine C_ret ?_
        try simp only [↓inBlock_ret, ↓then_ret]
        exact retQ rfl (Res.two Tryd.results13 rfl rfl) ⟨.slice none 0 0, rfl, Sl.nil, hK.kp⟩
      · rw [if_neg (nt hc29)] at hm
        refine C_skip_to (fun _ _ => rfl) ?_
        refine C_seq ?_
        refine C_region ?_
        obtain ⟨v30, h32, h31⟩ := El_route_Work h8
        refine V_y (Y_loadA h32 Tryd.isAgg35 Tryd.sizeOf35 rfl) rfl rfl rfl ?_
        refine V_y (Y_move rfl) rfl rfl rfl ?_
        refine V_y (Y_move rfl) rfl rfl rfl ?_
        obtain ⟨x33, hx33, hm⟩ := Option.bind_eq_some_iff.1 hm
        refine V_call Tryd.call33 rfl rfl rfl rfl (portref2_needsAt_c w25 hA w_ v30 h31 steps v_steps h_steps m hx33) ?_
        rintro v34 w36 ⟨_, rfl, h35, hk37⟩
        have ht38 := Kp.tr hk37 hA hB
        replace hH := Hp.kp hH hk37
        replace h_steps := Sl.tr h_steps ht38
        replace h8 := El.tr h8 ht38
        replace h31 := Sl.tr h31 ht38
        replace hK := Tr.trans hK ht38
        replace hB := Nat.le_trans hB ht38.ex.size
        replace hA := ht38.new
        refine V_y (Y_assign rfl) rfl rfl rfl ?_
        refine V_y (Y_assign rfl) rfl rfl rfl ?_
        refine V_to (fun _ _ => rfl) ?_
        obtain rfl := Option.some.inj hm
        refine C_ret ?_
        try simp only [↓inBlock_ret, ↓then_ret]
        exact retQ rfl (Res.two Tryd.results13 rfl rfl) ⟨v34, rfl, (Sl.out h35 hA0 hK), hK.kp⟩

set_option maxRecDepth 4000 in
set_option maxHeartbeats 4000000 in
theorem route_CheckPeople_c (w : World) {A : Nat → Prop} (hA : ∀ b, w.heap.size ≤ b → A b) (l : (List route_Person)) (v_l : Value) (h_l : Sl A w v_l l) {r : Int} (hm : route_CheckPeople l = some r) : Ret Tryd.prog 21 #[v_l] w fun v w' => v = .int .i64 r ∧ Kp w w' := by
  unfold route_CheckPeople at hm
  refine enter Tryd.func21 rfl Tryd.ntmps21 rfl ?_
  have hA0 := hA
  have hB := Nat.le_refl w.heap.size
  have hK : Tr w.heap.size A w A w := Tr.refl hA
  have hH : Hp w.heap.size A w [] := Hp.nil
  refine C_seq ?_
  refine C_region ?_
  refine V_y (Y_assign rfl) rfl rfl rfl ?_
  refine V_to (fun _ _ => rfl) ?_
  refine C_seq ?_
  refine C_seq ?_
  refine C_region ?_
  refine V_y (Y_move rfl) rfl rfl rfl ?_
  refine V_y (Y_lenSl h_l rfl Tryd.underlying22 rfl) rfl rfl rfl ?_
  refine V_y (Y_gtr rfl rfl) rfl rfl rfl ?_
  refine V_to (fun _ _ => rfl) ?_
  refine C_cond rfl (fun hc3 => ?_) (fun hc3 => ?_)
  · rw [if_pos hc3] at hm
    refine C_seq ?_
    refine C_region ?_
    refine V_y (Y_assign rfl) rfl rfl rfl ?_
    refine V_to (fun _ _ => rfl) ?_
    obtain rfl := Option.some.inj hm
    refine C_ret ?_
    try simp only [↓inBlock_ret, ↓then_ret]
    exact retQ rfl (Res.one Tryd.results21 rfl) ⟨rfl, hK.kp⟩
  · rw [if_neg (nt hc3)] at hm
    refine C_skip_to (fun _ _ => rfl) ?_
    refine C_seq ?_
    refine C_seq ?_
    refine C_region ?_
    refine V_y (Y_move rfl) rfl rfl rfl ?_
    refine V_y (Y_lenSl h_l rfl Tryd.underlying22 rfl) rfl rfl rfl ?_
    refine V_y (Y_move rfl) rfl rfl rfl ?_
    refine V_to (fun _ _ => rfl) ?_
    have hn25 := Sl.le h_l
    obtain ⟨o4, ho4, hm⟩ := Option.bind_eq_some_iff.1 hm
    refine C_cutG (ι := (Unit × (Nat → Prop))) (fun ⟨s5, A12⟩ => []) (fun ⟨s5, A12⟩ => fun w' => o4 = .fin s5 ∧ Hp w.heap.size A12 w' ([]) ∧ Tr w.heap.size A w A12 w') ?_ ?_
    · refine C_block ?_
      refine C_range ho4 (fun k7 _ a w' => ∃ i : (Nat → Prop), Has ⟨53, [], none⟩ a ([(0, v_l), (9, v_l), (10, .int .i64 (l.length : Int)), (11, .int .i64 (k7 : Int))]) ∧ Hp w.heap.size i w' ([]) ∧ Tr w.heap.size A w i w') (fun a ha => ⟨A, ha.sub ⟨rfl, rfl, rfl, rfl, trivial⟩, ⟨hH, Tr.refl hA⟩⟩) ?_
      rintro K k7 _ a w15 ⟨A16, ha75, hH17, hr6⟩ hle21 K24 h23
      refine C_of ?_ ha75
      replace h_l := Sl.tr h_l hr6
      replace hK := Tr.trans hK hr6
      replace hB := Nat.le_trans hB hr6.ex.size
      replace hA := hr6.new
      replace hH : Hp w.heap.size A16 w15 ([]) := hH17
      refine C_seq (C_region (V_y (Y_lss rfl rfl) rfl rfl rfl (V_to (fun _ _ => rfl) ?_)))
      refine C_seq ?_
      refine C_cond rfl (fun hc26 => ?_) (fun hc26 => ?_)
      · have hlt22 := lt_of_dec hc26
        obtain ⟨x18, h19, h20⟩ := K24 hlt22
        refine C_skip_to (fun _ _ => rfl) ?_
        refine C_seq ?_
        refine C_block ?_
        refine C_seq ?_
        refine C_region ?_
        refine V_y (Y_move rfl) rfl rfl rfl ?_
        obtain ⟨x27, hx27, h19⟩ := Option.bind_eq_some_iff.1 h19
        refine V_indexAddr h_l hx27 Tryd.underlying22 Tryd.sizeOf46 rfl rfl rfl ?_
        intro b28 o29 h30
        obtain ⟨v31, h33, h32⟩ := El_route_Person h30
        refine V_y (Y_loadA h33 Tryd.isAgg46 Tryd.sizeOf46 rfl) rfl rfl rfl ?_
        refine V_alloc Tryd.zeroValue46 rfl ?_
        intro b34 w35 h36
        refine V_y (Y_assign rfl) rfl rfl rfl ?_
        have h41 : (v31).oneCell' = true := by obtain ⟨_, _, e, _⟩ := Sl.form h32; rw [e]; rfl
        refine V_storeNew h36 Tryd.sizeOf46 rfl rfl rfl rfl (by exact (List.forall_mem_cons.2 ⟨rfl, (List.forall_mem_cons.2 ⟨rfl, (List.forall_mem_cons.2 ⟨rfl, (List.forall_mem_cons.2 ⟨h41, (fun _ h => nomatch h)⟩)⟩)⟩)⟩)) ?_
        intro w37 h38
        have hk43 := h38.kp
        have h42 : El (α := route_Person) A16 w37 b34 0 x27 := h38.el hA ⟨[.int .i64 x27.no], _, rfl, rfl, ⟨[.int .i64 x27.capacity], _, rfl, rfl, ⟨[.int .i64 x27.calendar], _, rfl, rfl, ⟨_, rfl, h32⟩⟩⟩⟩
        have ht44 := Kp.tr hk43 hA hB
        replace hH := Hp.kp hH hk43
        replace h_l := Sl.tr h_l ht44
        replace h30 := El.tr h30 ht44
        replace h32 := Sl.tr h32 ht44
        replace hK := Tr.trans hK ht44
        replace hr6 := Tr.trans hr6 ht44
        replace hB := Nat.le_trans hB ht44.ex.size
        replace hA := ht44.new
        refine V_to (fun _ _ => rfl) ?_
        refine C_seq ?_
        refine C_block ?_
        refine C_seq ?_
        refine C_region ?_
        have h45 := El_route_Person_0 h42
        refine V_y (Y_fieldAddr Tryd.underlying46 rfl Tryd.sizeOf3 (by decide) rfl) rfl rfl rfl ?_
        refine V_y (Y_load (El.int h45) Tryd.isAgg3 rfl) rfl rfl rfl ?_
        refine V_call Tryd.call39 rfl rfl rfl rfl (route_within_c w37 x27.no 1 40) ?_
        rintro _ _ ⟨rfl, rfl⟩
        refine V_y (Y_not rfl) rfl rfl rfl ?_
        refine V_y (Y_assign rfl) rfl rfl rfl ?_
        refine V_to (fun _ _ => rfl) ?_
        refine C_cond rfl (fun hc46 => ?_) (fun hc46 => ?_)
        · rw [if_pos hc46] at h19
          refine C_seq ?_
          refine C_region ?_
          refine V_y (Y_assign rfl) rfl rfl rfl ?_
          refine V_to (fun _ _ => rfl) ?_
          obtain rfl := Option.some.inj h19
          obtain rfl := (h20 : Lp.rt _ = _)
          rw [Lp.andThen_rt] at hm
          obtain rfl := Option.some.inj hm
          refine C_ret ?_
          try simp only [↓inBlock_ret, ↓then_ret]
          exact retQ rfl (Res.one Tryd.results21 rfl) ⟨rfl, hK.kp⟩
        · rw [if_neg (nt hc46)] at h19
          refine C_seq ?_
          refine C_region_q Tryd_mixed (by kernel_rfl) ?_
          refine VQ_y (fun w' hw' => Y_move rfl) rfl rfl rfl ?_
          refine VQ_y (fun w' hw' => Y_gtr rfl rfl) rfl rfl rfl ?_
          refine VQ_y (fun w' hw' => Y_move rfl) rfl rfl rfl ?_
          obtain ⟨s48, hs48, h19⟩ := Option.bind_eq_some_iff.1 h19
          refine VQ_cut 10 (fun _ : Unit => [(0, v_l), (4, .pointer (some ⟨b34, 0, none⟩)), (9, v_l), (10, .int .i64 (l.length : Int)), (11, .int .i64 (k7 : Int)), (34, .bool s48)]) (fun _ => True) ?_ ?_
          · simp only [List.take, List.drop]
            rcases Bool.eq_false_or_eq_true (decide ((0 : Int) < (k7 : Int))) with hc47 | hc47
            · rw [if_pos hc47] at hs48
              refine VQ_ge rfl rfl rfl hc47 ?_
              have h49 := El_route_Person_0 h42
              refine VQ_y (fun w' hw' => Y_fieldAddr Tryd.underlying46 rfl Tryd.sizeOf3 (by decide) rfl) rfl rfl rfl ?_
              refine VQ_ge rfl rfl rfl hc47 ?_
              refine VQ_y (fun w' hw' => Y_load (El.int (El.kp h49 hw')) Tryd.isAgg3 rfl) rfl rfl rfl ?_
              refine VQ_ge rfl rfl rfl hc47 ?_
              refine VQ_y (fun w' hw' => Y_move rfl) rfl rfl rfl ?_
              refine VQ_ge rfl rfl rfl hc47 ?_
              refine VQ_y (fun w' hw' => Y_move rfl) rfl rfl rfl ?_
              refine VQ_ge rfl rfl rfl hc47 ?_
              refine VQ_y (fun w' hw' => Y_subI rfl rfl) rfl rfl rfl ?_
              refine VQ_ge rfl rfl rfl hc47 ?_
              obtain ⟨x50, hx50, hs48⟩ := Option.bind_eq_some_iff.1 hs48
              refine VQ_indexAddr h_l hx50 Tryd.underlying22 Tryd.sizeOf46 rfl rfl rfl ?_
              intro b51 o52 h53
              refine VQ_ge rfl rfl rfl hc47 ?_
              have h54 := El_route_Person_0 h53
              refine VQ_y (fun w' hw' => Y_fieldAddr Tryd.underlying46 rfl Tryd.sizeOf3 (by decide) rfl) rfl rfl rfl ?_
              refine VQ_ge rfl rfl rfl hc47 ?_
              refine VQ_y (fun w' hw' => Y_load (El.int (El.kp h54 hw')) Tryd.isAgg3 rfl) rfl rfl rfl ?_
              refine VQ_ge rfl rfl rfl hc47 ?_
              refine VQ_y (fun w' hw' => Y_leq rfl rfl) rfl rfl rfl ?_
              refine VQ_y (fun _ _ => Y_pick_te rfl hc47 rfl) rfl rfl rfl ?_
              obtain rfl := Option.some.inj hs48
              exact VQ_end fun a ha => ⟨(), ha.sub ⟨rfl, rfl, rfl, rfl, rfl, rfl, trivial⟩, trivial⟩
            · rw [if_neg (nt hc47)] at hs48
              refine VQ_gn rfl rfl rfl hc47 rfl rfl rfl ?_
              refine VQ_gn rfl rfl rfl hc47 rfl rfl rfl ?_
              refine VQ_gn rfl rfl rfl hc47 rfl rfl rfl ?_
              refine VQ_gn rfl rfl rfl hc47 rfl rfl rfl ?_
              refine VQ_gn rfl rfl rfl hc47 rfl rfl rfl ?_
              refine VQ_gn rfl rfl rfl hc47 rfl rfl rfl ?_
              refine VQ_gn rfl rfl rfl hc47 rfl rfl rfl ?_
              refine VQ_gn rfl rfl rfl hc47 rfl rfl rfl ?_
              refine VQ_gn rfl rfl rfl hc47 rfl rfl rfl ?_
              refine VQ_y (fun _ _ => Y_pick_fe rfl hc47 rfl) rfl rfl rfl ?_
              obtain rfl := Option.some.inj hs48
              exact VQ_end fun a ha => ⟨(), ha.sub ⟨rfl, rfl, rfl, rfl, rfl, rfl, trivial⟩, trivial⟩
          simp only [List.take, List.drop]
          rintro _ _
          refine VQ_y (fun w' hw' => Y_assign rfl) rfl rfl rfl ?_
          refine VQ_to (fun _ _ => rfl) (fun w55 hk56 => ?_)
          have ht57 := Kp.tr hk56 hA hB
          replace hH := Hp.kp hH hk56
          replace h_l := Sl.tr h_l ht57
          replace h42 := El.tr h42 ht57
          replace hK := Tr.trans hK ht57
          replace hr6 := Tr.trans hr6 ht57
          replace hB := Nat.le_trans hB ht57.ex.size
          replace hA := ht57.new
          refine C_cond rfl (fun hc58 => ?_) (fun hc58 => ?_)
          · rw [if_pos hc58] at h19
            refine C_seq ?_
            refine C_region ?_
            refine V_y (Y_assign rfl) rfl rfl rfl ?_
            refine V_to (fun _ _ => rfl) ?_
            obtain rfl := Option.some.inj h19
            obtain rfl := (h20 : Lp.rt _ = _)
            rw [Lp.andThen_rt] at hm
            obtain rfl := Option.some.inj hm
            refine C_ret ?_
            try simp only [↓inBlock_ret, ↓then_ret]
            exact retQ rfl (Res.one Tryd.results21 rfl) ⟨rfl, hK.kp⟩
          · rw [if_neg (nt hc58)] at h19
            refine C_seq ?_
            refine C_region ?_
            have h59 := El_route_Person_1 h42
            refine V_y (Y_fieldAddr Tryd.underlying46 rfl Tryd.sizeOf3 (by decide) rfl) rfl rfl rfl ?_
            refine V_y (Y_load (El.int h59) Tryd.isAgg3 rfl) rfl rfl rfl ?_
            refine V_call Tryd.call39 rfl rfl rfl rfl (route_within_c w55 x27.capacity 0 100) ?_
            rintro _ _ ⟨rfl, rfl⟩
            refine V_y (Y_not rfl) rfl rfl rfl ?_
            refine V_y (Y_move rfl) rfl rfl rfl ?_
            refine V_cut 5 (fun _ : Unit => [(0, v_l), (4, .pointer (some ⟨b34, 0, none⟩)), (9, v_l), (10, .int .i64 (l.length : Int)), (11, .int .i64 (k7 : Int)), (45, .bool ((!(route_within x27.capacity 0 100)) || (!(route_within x27.calendar 0 19))))]) (fun _ w' => w55 = w') ?_ ?_
            · simp only [List.take, List.drop]
              rcases Bool.eq_false_or_eq_true (!(route_within x27.capacity 0 100)) with hc60 | hc60
              · refine V_gn rfl rfl rfl hc60 rfl rfl rfl ?_
                refine V_gn rfl rfl rfl hc60 rfl rfl rfl ?_
                refine V_gn rfl rfl rfl hc60 rfl rfl rfl ?_
                refine V_gn rfl rfl rfl hc60 rfl rfl rfl ?_
                refine V_y (Y_pick_te rfl hc60 rfl) rfl rfl rfl ?_
                exact V_end fun a ha => ⟨(), ha.sub ⟨rfl, rfl, rfl, rfl, rfl, (by rw [hc60]; rfl), trivial⟩, rfl⟩
              · refine V_ge rfl rfl rfl hc60 ?_
                have h62 := El_route_Person_2 h42
                refine V_y (Y_fieldAddr Tryd.underlying46 rfl Tryd.sizeOf3 (by decide) rfl) rfl rfl rfl ?_
                refine V_ge rfl rfl rfl hc60 ?_
                refine V_y (Y_load (El.int h62) Tryd.isAgg3 rfl) rfl rfl rfl ?_
                refine V_ge rfl rfl rfl hc60 ?_
                refine V_call Tryd.call39 rfl rfl rfl rfl (route_within_c w55 x27.calendar 0 19) ?_
                rintro _ _ ⟨rfl, rfl⟩
                refine V_ge rfl rfl rfl hc60 ?_
                refine V_y (Y_not rfl) rfl rfl rfl ?_
                refine V_y (Y_pick_fe rfl hc60 rfl) rfl rfl rfl ?_
                exact V_end fun a ha => ⟨(), ha.sub ⟨rfl, rfl, rfl, rfl, rfl, (by rw [hc60]; rfl), trivial⟩, rfl⟩
            simp only [List.take, List.drop]
            rintro _ _ rfl
            refine V_y (Y_assign rfl) rfl rfl rfl ?_
            refine V_to (fun _ _ => rfl) ?_
            refine C_cond rfl (fun hc63 => ?_) (fun hc63 => ?_)
            · rw [if_pos hc63] at h19
              refine C_seq ?_
              refine C_region ?_
              refine V_y (Y_assign rfl) rfl rfl rfl ?_
              refine V_to (fun _ _ => rfl) ?_
              obtain rfl := Option.some.inj h19
              obtain rfl := (h20 : Lp.rt _ = _)
              rw [Lp.andThen_rt] at hm
              obtain rfl := Option.some.inj hm
              refine C_ret ?_
              try simp only [↓inBlock_ret, ↓then_ret]
              exact retQ rfl (Res.one Tryd.results21 rfl) ⟨rfl, hK.kp⟩
            · rw [if_neg (nt hc63)] at h19
              refine C_skip_to (fun _ _ => rfl) ?_
              refine C_seq ?_
              refine C_region ?_
              have h64 := El_route_Person_3 h42
              refine V_y (Y_fieldAddr Tryd.underlying46 rfl Tryd.sizeOf33 (by decide) rfl) rfl rfl rfl ?_
              obtain ⟨v65, h66, h67⟩ := El.list h64
              refine V_y (Y_load h66 Tryd.isAgg33 rfl) rfl rfl rfl ?_
              obtain ⟨x68, hx68, h19⟩ := Option.bind_eq_some_iff.1 h19
              refine V_call Tryd.call34 rfl rfl rfl rfl (route_checkSkills_c w55 hA x27.skills v65 h67 hx68) ?_
              rintro _ w69 ⟨rfl, hk70⟩
              have ht71 := Kp.tr hk70 hA hB
              replace hH := Hp.kp hH hk70
              replace h_l := Sl.tr h_l ht71
              replace h42 := El.tr h42 ht71
              replace h64 := El.tr h64 ht71
              replace h67 := Sl.tr h67 ht71
              replace hK := Tr.trans hK ht71
              replace hr6 := Tr.trans hr6 ht71
              replace hB := Nat.le_trans hB ht71.ex.size
              replace hA := ht71.new
              refine V_y (Y_assign rfl) rfl rfl rfl ?_
              refine V_to (fun _ _ => rfl) ?_
              refine C_seq ?_
              refine C_region ?_
              refine V_y (Y_move rfl) rfl rfl rfl ?_
              refine V_y (Y_neq rfl rfl) rfl rfl rfl ?_
              refine V_to (fun _ _ => rfl) ?_
              refine C_cond rfl (fun hc72 => ?_) (fun hc72 => ?_)
              · rw [if_pos hc72] at h19
                refine C_seq ?_
                refine C_region ?_
                refine V_y (Y_move rfl) rfl rfl rfl ?_
                refine V_y (Y_assign rfl) rfl rfl rfl ?_
                refine V_to (fun _ _ => rfl) ?_
                obtain rfl := Option.some.inj h19
                obtain rfl := (h20 : Lp.rt _ = _)
                rw [Lp.andThen_rt] at hm
                obtain rfl := Option.some.inj hm
                refine C_ret ?_
                try simp only [↓inBlock_ret, ↓then_ret]
                exact retQ rfl (Res.one Tryd.results21 rfl) ⟨rfl, hK.kp⟩
              · rw [if_neg (nt hc72)] at h19
                refine C_skip_to (fun _ _ => rfl) ?_
                refine C_region ?_
                refine V_y (Y_addI rfl rfl) rfl rfl rfl ?_
                refine V_y (Y_move rfl) rfl rfl rfl ?_
                obtain rfl := Option.some.inj h19
                refine V_end (fun a ha73 => ?_)
                exact ⟨(), hlt22, h20, ⟨A16, ha73.sub ⟨rfl, rfl, rfl, (congrArg (fun z => some (Value.int .i64 z)) (w64_succ hlt22 hn25)), trivial⟩, ⟨hH, hr6⟩⟩⟩
      · refine C_exit (fun a ha74 => ?_)
        exact ⟨((), A16), ha74.sub trivial, ⟨(h23 (eq_of_dec hle21 hc26)).symm, hH, hr6⟩⟩
    rintro ⟨s5, A12⟩ w9 ⟨rfl, hH13, hk10⟩ a ha11
    rw [Lp.andThen_fin] at hm
    replace hK := Tr.trans hK hk10
    replace hB := Nat.le_trans hB hk10.ex.size
    replace hA := hk10.new
    replace hH : Hp w.heap.size A12 w9 ([]) := hH13
    refine C_at (n := ⟨53, [], none⟩) (fun _ _ => rfl) ?_ ha11
    refine C_seq ?_
    refine C_region ?_
    refine V_y (Y_assign rfl) rfl rfl rfl ?_
    refine V_to (fun _ _ => rfl) ?_
    obtain rfl := Option.some.inj hm
    refine C_ret ?_
    try simp only [↓inBlock_ret, ↓then_ret]
    exact retQ rfl (Res.one Tryd.results21 rfl) ⟨rfl, hK.kp⟩

set_option maxRecDepth 4000 in
set_option maxHeartbeats 4000000 in
theorem slices_IndexFunc_Lroute_Skill_route_Skill_c (w : World) {A : Nat → Prop} (hA : ∀ b, w.heap.size ≤ b → A b) (s : (List route_Skill)) (v_s : Value) (h_s : Sl A w v_s s) (f : route_Skill → Option Bool) (f_f : FuncId) (f_a f_c : Array Value) (f_call : ∀ (args : Array Value) (w : World), (callFunc f_f args).run Tryd.prog w = .ok (.enter f_f args) w) (f_spec : ∀ (w1 : World) (A1 : Nat → Prop), Tr w.heap.size A w A1 w1 → (∀ b, w1.heap.size ≤ b → A1 b) → ∀ (y0 : route_Skill) (r : Bool), f y0 = some r → Ret Tryd.prog f_f (f_a ++ #[.agg #[.string y0.name, .int .i64 y0.rank]] ++ f_c) w1 fun v w' => v = .bool r ∧ Kp w1 w') {r : Int} (hm : slices_IndexFunc_Lroute_Skill_route_Skill s f = some r) : Ret Tryd.prog 54 #[v_s, .func (.func f_f) f_a f_c] w fun v w' => v = .int .i64 r ∧ Kp w w' := by
  unfold slices_IndexFunc_Lroute_Skill_route_Skill at hm
  refine enter Tryd.func54 rfl Tryd.ntmps54 rfl ?_
  have hA0 := hA
  have hB := Nat.le_refl w.heap.size
  have hK : Tr w.heap.size A w A w := Tr.refl hA
  have hH : Hp w.heap.size A w [] := Hp.nil
  refine C_seq ?_
  refine C_region ?_
  refine V_y (Y_assign rfl) rfl rfl rfl ?_
  refine V_to (fun _ _ => rfl) ?_
  refine C_seq ?_
  refine C_seq ?_
  refine C_region ?_
  refine V_y (Y_move rfl) rfl rfl rfl ?_
  refine V_y (Y_lenSl h_s rfl Tryd.underlying33 rfl) rfl rfl rfl ?_
  refine V_y (Y_move rfl) rfl rfl rfl ?_
  refine V_to (fun _ _ => rfl) ?_
  have hn23 := Sl.le h_s
  obtain ⟨o3, ho3, hm⟩ := Option.bind_eq_some_iff.1 hm
  refine C_cutG (ι := (Unit × (Nat → Prop))) (fun ⟨s4, A10⟩ => []) (fun ⟨s4, A10⟩ => fun w' => o3 = .fin s4 ∧ Hp w.heap.size A10 w' ([]) ∧ Tr w.heap.size A w A10 w') ?_ ?_
  · refine C_block ?_
    refine C_range ho3 (fun k6 _ a w' => ∃ i : (Nat → Prop), Has ⟨19, [], none⟩ a ([(0, v_s), (1, .func (.func f_f) f_a f_c), (7, .int .i64 (s.length : Int)), (8, .int .i64 (k6 : Int))]) ∧ Hp w.heap.size i w' ([]) ∧ Tr w.heap.size A w i w') (fun a ha => ⟨A, ha.sub ⟨rfl, rfl, rfl, rfl, trivial⟩, ⟨hH, Tr.refl hA⟩⟩) ?_
    rintro K k6 _ a w13 ⟨A14, ha37, hH15, hr5⟩ hle19 K22 h21
    refine C_of ?_ ha37
    replace h_s := Sl.tr h_s hr5
    replace hK := Tr.trans hK hr5
    replace hB := Nat.le_trans hB hr5.ex.size
    replace hA := hr5.new
    replace hH : Hp w.heap.size A14 w13 ([]) := hH15
    refine C_seq (C_region (V_y (Y_lss rfl rfl) rfl rfl rfl (V_to (fun _ _ => rfl) ?_)))
    refine C_seq ?_
    refine C_cond rfl (fun hc24 => ?_) (fun hc24 => ?_)
    · have hlt20 := lt_of_dec hc24
      obtain ⟨x16, h17, h18⟩ := K22 hlt20
      refine C_skip_to (fun _ _ => rfl) ?_
      refine C_seq ?_
      refine C_block ?_
      refine C_seq ?_
      refine C_region ?_
      refine V_y (Y_move rfl) rfl rfl rfl ?_
      refine V_y (Y_assign rfl) rfl rfl rfl ?_
      refine V_to (fun _ _ => rfl) ?_
      refine C_seq ?_
      refine C_region ?_
      refine V_y (Y_move rfl) rfl rfl rfl ?_
      refine V_y (Y_move rfl) rfl rfl rfl ?_
      refine V_y (Y_move rfl) rfl rfl rfl ?_
      obtain ⟨x25, hx25, h17⟩ := Option.bind_eq_some_iff.1 h17
      refine V_indexAddr h_s hx25 Tryd.underlying33 Tryd.sizeOf42 rfl rfl rfl ?_
      intro b26 o27 h28
      obtain ⟨h29, _⟩ := El_route_Skill h28
      refine V_y (Y_loadA h29 Tryd.isAgg42 Tryd.sizeOf42 rfl) rfl rfl rfl ?_
      obtain ⟨x30, hx30, h17⟩ := Option.bind_eq_some_iff.1 h17
      refine V_call f_call rfl rfl rfl rfl (f_spec w13 _ hK hA x25 _ hx30) ?_
      rintro _ w31 ⟨rfl, hk32⟩
      have ht33 := Kp.tr hk32 hA hB
      replace hH := Hp.kp hH hk32
      replace h_s := Sl.tr h_s ht33
      replace h28 := El.tr h28 ht33
      replace hK := Tr.trans hK ht33
      replace hr5 := Tr.trans hr5 ht33
      replace hB := Nat.le_trans hB ht33.ex.size
      replace hA := ht33.new
      refine V_to (fun _ _ => rfl) ?_
      refine C_cond rfl (fun hc34 => ?_) (fun hc34 => ?_)
      · rw [if_pos hc34] at h17
        refine C_seq ?_
        refine C_region ?_
        refine V_y (Y_move rfl) rfl rfl rfl ?_
        refine V_y (Y_assign rfl) rfl rfl rfl ?_
        refine V_to (fun _ _ => rfl) ?_
        obtain rfl := Option.some.inj h17
        obtain rfl := (h18 : Lp.rt _ = _)
        rw [Lp.andThen_rt] at hm
        obtain rfl := Option.some.inj hm
        refine C_ret ?_
        try simp only [↓inBlock_ret, ↓then_ret]
        exact retQ rfl (Res.one Tryd.results54 rfl) ⟨rfl, hK.kp⟩
      · rw [if_neg (nt hc34)] at h17
        refine C_skip_to (fun _ _ => rfl) ?_
        refine C_region ?_
        refine V_y (Y_addI rfl rfl) rfl rfl rfl ?_
        refine V_y (Y_move rfl) rfl rfl rfl ?_
        obtain rfl := Option.some.inj h17
        refine V_end (fun a ha35 => ?_)
        exact ⟨(), hlt20, h18, ⟨A14, ha35.sub ⟨rfl, rfl, rfl, (congrArg (fun z => some (Value.int .i64 z)) (w64_succ hlt20 hn23)), trivial⟩, ⟨hH, hr5⟩⟩⟩
    · refine C_exit (fun a ha36 => ?_)
      exact ⟨((), A14), ha36.sub trivial, ⟨(h21 (eq_of_dec hle19 hc24)).symm, hH, hr5⟩⟩
  rintro ⟨s4, A10⟩ w7 ⟨rfl, hH11, hk8⟩ a ha9
  rw [Lp.andThen_fin] at hm
  replace hK := Tr.trans hK hk8
  replace hB := Nat.le_trans hB hk8.ex.size
  replace hA := hk8.new
  replace hH : Hp w.heap.size A10 w7 ([]) := hH11
  refine C_at (n := ⟨19, [], none⟩) (fun _ _ => rfl) ?_ ha9
  refine C_seq ?_
  refine C_region ?_
  refine V_y (Y_assign rfl) rfl rfl rfl ?_
  refine V_to (fun _ _ => rfl) ?_
  obtain rfl := Option.some.inj hm
  refine C_ret ?_
  try simp only [↓inBlock_ret, ↓then_ret]
  exact retQ rfl (Res.one Tryd.results54 rfl) ⟨rfl, hK.kp⟩

set_option maxRecDepth 4000 in
set_option maxHeartbeats 4000000 in
theorem slices_ContainsFunc_Lroute_Skill_route_Skill_c (w : World) {A : Nat → Prop} (hA : ∀ b, w.heap.size ≤ b → A b) (s : (List route_Skill)) (v_s : Value) (h_s : Sl A w v_s s) (f : route_Skill → Option Bool) (f_f : FuncId) (f_a f_c : Array Value) (f_call : ∀ (args : Array Value) (w : World), (callFunc f_f args).run Tryd.prog w = .ok (.enter f_f args) w) (f_spec : ∀ (w1 : World) (A1 : Nat → Prop), Tr w.heap.size A w A1 w1 → (∀ b, w1.heap.size ≤ b → A1 b) → ∀ (y0 : route_Skill) (r : Bool), f y0 = some r → Ret Tryd.prog f_f (f_a ++ #[.agg #[.string y0.name, .int .i64 y0.rank]] ++ f_c) w1 fun v w' => v = .bool r ∧ Kp w1 w') {r : Bool} (hm : slices_ContainsFunc_Lroute_Skill_route_Skill s f = some r) : Ret Tryd.prog 46 #[v_s, .func (.func f_f) f_a f_c] w fun v w' => v = .bool r ∧ Kp w w' := by
  unfold slices_ContainsFunc_Lroute_Skill_route_Skill at hm
  refine enter Tryd.func46 rfl Tryd.ntmps46 rfl ?_
  have hA0 := hA
  have hB := Nat.le_refl w.heap.size
  have hK : Tr w.heap.size A w A w := Tr.refl hA
  have hH : Hp w.heap.size A w [] := Hp.nil
  refine C_seq ?_
  refine C_region ?_
  refine V_y (Y_assign rfl) rfl rfl rfl ?_
  refine V_to (fun _ _ => rfl) ?_
  refine C_seq ?_
  refine C_region ?_
  refine V_y (Y_move rfl) rfl rfl rfl ?_
  refine V_y (Y_move rfl) rfl rfl rfl ?_
  obtain ⟨x3, hx3, hm⟩ := Option.bind_eq_some_iff.1 hm
  refine V_call Tryd.call54 rfl rfl rfl rfl (slices_IndexFunc_Lroute_Skill_route_Skill_c w hA s v_s h_s f f_f f_a f_c f_call (fun w1 A1 ht => f_spec w1 A1 (Tr.trans hK ht)) hx3) ?_
  rintro _ w4 ⟨rfl, hk5⟩
  have ht6 := Kp.tr hk5 hA hB
  replace hH := Hp.kp hH hk5
  replace h_s := Sl.tr h_s ht6
  replace hK := Tr.trans hK ht6
  replace hB := Nat.le_trans hB ht6.ex.size
  replace hA := ht6.new
  refine V_y (Y_geq rfl rfl) rfl rfl rfl ?_
  refine V_y (Y_assign rfl) rfl rfl rfl ?_
  refine V_to (fun _ _ => rfl) ?_
  obtain rfl := Option.some.inj hm
  refine C_ret ?_
  try simp only [↓inBlock_ret, ↓then_ret]
  exact retQ rfl (Res.one Tryd.results46 rfl) ⟨rfl, hK.kp⟩

set_option maxRecDepth 4000 in
set_option maxHeartbeats 4000000 in
theorem route_Person_able_1_c (w : World) {A : Nat → Prop} (hA : ∀ b, w.heap.size ≤ b → A b) (s : route_Skill) (p1 : route_Skill) (b_p1 : Nat) (h_p1 : El A w b_p1 0 p1) {r : Bool} (hm : route_Person_able_1 s p1 = some r) : Ret Tryd.prog 47 #[.agg #[.string s.name, .int .i64 s.rank], .pointer (some ⟨b_p1, 0, none⟩)] w fun v w' => v = .bool r ∧ Kp w w' := by
  unfold route_Person_able_1 at hm
  refine enter Tryd.func47 rfl Tryd.ntmps47 rfl ?_
  have hA0 := hA
  have hB := Nat.le_refl w.heap.size
  have hK : Tr w.heap.size A w A w := Tr.refl hA
  have hH : Hp w.heap.size A w [] := Hp.nil
  refine C_seq ?_
  refine C_region ?_
  refine V_box rfl rfl ?_
  intro b1 w2 h3
  have hk5 := h3.kp
  have h4 : El (α := route_Skill) A w2 b1 0 s := h3.el hA ⟨[.string s.name], _, rfl, rfl, rfl⟩
  have ht6 := Kp.tr hk5 hA hB
  replace hH := Hp.kp hH hk5
  replace h_p1 := El.tr h_p1 ht6
  replace hK := Tr.trans hK ht6
  replace hB := Nat.le_trans hB ht6.ex.size
  replace hA := ht6.new
  refine V_y (Y_assign rfl) rfl rfl rfl ?_
  refine V_to (fun _ _ => rfl) ?_
  refine C_seq ?_
  refine C_region ?_
  have h7 := El_route_Skill_0 h4
  refine V_y (Y_fieldAddr Tryd.underlying42 rfl Tryd.sizeOf9 (by decide) rfl) rfl rfl rfl ?_
  refine V_y (Y_load (El.str h7) Tryd.isAgg9 rfl) rfl rfl rfl ?_
  have h8 := El_route_Skill_0 h_p1
  refine V_y (Y_fieldAddr Tryd.underlying42 rfl Tryd.sizeOf9 (by decide) rfl) rfl rfl rfl ?_
  refine V_y (Y_load (El.str h8) Tryd.isAgg9 rfl) rfl rfl rfl ?_
  refine V_y (Y_seql rfl rfl) rfl rfl rfl ?_
  refine V_y (Y_move rfl) rfl rfl rfl ?_
  refine V_cut 6 (fun _ : Unit => [(15, .bool ((strEq s.name p1.name) && (decide (p1.rank ≤ s.rank))))]) (fun _ w' => w2 = w') ?_ ?_
  · simp only [List.take, List.drop]
    rcases Bool.eq_false_or_eq_true (strEq s.name p1.name) with hc9 | hc9
    · refine V_ge rfl rfl rfl hc9 ?_
      have h11 := El_route_Skill_1 h4
      refine V_y (Y_fieldAddr Tryd.underlying42 rfl Tryd.sizeOf3 (by decide) rfl) rfl rfl rfl ?_
      refine V_ge rfl rfl rfl hc9 ?_
      refine V_y (Y_load (El.int h11) Tryd.isAgg3 rfl) rfl rfl rfl ?_
      refine V_ge rfl rfl rfl hc9 ?_
      have h12 := El_route_Skill_1 h_p1
      refine V_y (Y_fieldAddr Tryd.underlying42 rfl Tryd.sizeOf3 (by decide) rfl) rfl rfl rfl ?_
      refine V_ge rfl rfl rfl hc9 ?_
      refine V_y (Y_load (El.int h12) Tryd.isAgg3 rfl) rfl rfl rfl ?_
      refine V_ge rfl rfl rfl hc9 ?_
      refine V_y (Y_geq rfl rfl) rfl rfl rfl ?_
      refine V_y (Y_pick_te rfl hc9 rfl) rfl rfl rfl ?_
      exact V_end fun a ha => ⟨(), ha.sub ⟨(by rw [hc9]; rfl), trivial⟩, rfl⟩
    · refine V_gn rfl rfl rfl hc9 rfl rfl rfl ?_
      refine V_gn rfl rfl rfl hc9 rfl rfl rfl ?_
      refine V_gn rfl rfl rfl hc9 rfl rfl rfl ?_
      refine V_gn rfl rfl rfl hc9 rfl rfl rfl ?_
      refine V_gn rfl rfl rfl hc9 rfl rfl rfl ?_
      refine V_y (Y_pick_fe rfl hc9 rfl) rfl rfl rfl ?_
      exact V_end fun a ha => ⟨(), ha.sub ⟨(by rw [hc9]; rfl), trivial⟩, rfl⟩
  simp only [List.take, List.drop]
  rintro _ _ rfl
  refine V_y (Y_assign rfl) rfl rfl rfl ?_
  refine V_to (fun _ _ => rfl) ?_
  obtain rfl := Option.some.inj hm
  refine C_ret ?_
  try simp only [↓inBlock_ret, ↓then_ret]
  exact retQ rfl (Res.one Tryd.results47 rfl) ⟨rfl, hK.kp⟩

set_option maxRecDepth 4000 in
set_option maxHeartbeats 4000000 in
theorem route_Person_able_c (w : World) {A : Nat → Prop} (hA : ∀ b, w.heap.size ≤ b → A b) (p : route_Person) (v_p : Value) (h_p : Sl A w v_p p.skills) (needs : (List route_Skill)) (v_needs : Value) (h_needs : Sl A w v_needs needs) {r : Bool} (hm : route_Person_able p needs = some r) : Ret Tryd.prog 35 #[.agg #[.int .i64 p.no, .int .i64 p.capacity, .int .i64 p.calendar, v_p], v_needs] w fun v w' => v = .bool r ∧ Kp w w' := by
  unfold route_Person_able at hm
  refine enter Tryd.func35 rfl Tryd.ntmps35 rfl ?_
  have hA0 := hA
  have hB := Nat.le_refl w.heap.size
  have hK : Tr w.heap.size A w A w := Tr.refl hA
  have hH : Hp w.heap.size A w [] := Hp.nil
  refine C_seq ?_
  refine C_region ?_
  refine V_box rfl rfl ?_
  intro b5 w6 h7
  have hk9 := h7.kp
  have h8 : El (α := route_Person) A w6 b5 0 p := h7.el hA ⟨[.int .i64 p.no], _, rfl, rfl, ⟨[.int .i64 p.capacity], _, rfl, rfl, ⟨[.int .i64 p.calendar], _, rfl, rfl, ⟨_, rfl, h_p⟩⟩⟩⟩
  have ht10 := Kp.tr hk9 hA hB
  replace hH := Hp.kp hH hk9
  replace h_p := Sl.tr h_p ht10
  replace h_needs := Sl.tr h_needs ht10
  replace hK := Tr.trans hK ht10
  replace hB := Nat.le_trans hB ht10.ex.size
  replace hA := ht10.new
  refine V_y (Y_assign rfl) rfl rfl rfl ?_
  refine V_to (fun _ _ => rfl) ?_
  refine C_seq ?_
  refine C_seq ?_
  refine C_region ?_
  refine V_y (Y_move rfl) rfl rfl rfl ?_
  refine V_y (Y_lenSl h_needs rfl Tryd.underlying33 rfl) rfl rfl rfl ?_
  refine V_y (Y_move rfl) rfl rfl rfl ?_
  refine V_to (fun _ _ => rfl) ?_
  have hn31 := Sl.le h_needs
  obtain ⟨o11, ho11, hm⟩ := Option.bind_eq_some_iff.1 hm
  refine C_cutG (ι := (Unit × (Nat → Prop))) (fun ⟨s12, A18⟩ => []) (fun ⟨s12, A18⟩ => fun w' => o11 = .fin s12 ∧ Hp w.heap.size A18 w' ([]) ∧ Tr w.heap.size A w6 A18 w') ?_ ?_
  · refine C_block ?_
    refine C_range ho11 (fun k14 _ a w' => ∃ i : (Nat → Prop), Has ⟨19, [], none⟩ a ([(2, .pointer (some ⟨b5, 0, none⟩)), (7, v_needs), (8, .int .i64 (needs.length : Int)), (9, .int .i64 (k14 : Int))]) ∧ Hp w.heap.size i w' ([]) ∧ Tr w.heap.size A w6 i w') (fun a ha => ⟨A, ha.sub ⟨rfl, rfl, rfl, rfl, trivial⟩, ⟨hH, Tr.refl hA⟩⟩) ?_
    rintro K k14 _ a w21 ⟨A22, ha66, hH23, hr13⟩ hle27 K30 h29
    refine C_of ?_ ha66
    replace h8 := El.tr h8 hr13
    replace h_needs := Sl.tr h_needs hr13
    replace hK := Tr.trans hK hr13
    replace hB := Nat.le_trans hB hr13.ex.size
    replace hA := hr13.new
    replace hH : Hp w.heap.size A22 w21 ([]) := hH23
    refine C_seq (C_region (V_y (Y_lss rfl rfl) rfl rfl rfl (V_to (fun _ _ => rfl) ?_)))
    refine C_seq ?_
    refine C_cond rfl (fun hc32 => ?_) (fun hc32 => ?_)
    · have hlt28 := lt_of_dec hc32
      obtain ⟨x24, h25, h26⟩ := K30 hlt28
      refine C_skip_to (fun _ _ => rfl) ?_
      refine C_seq ?_
      refine C_block ?_
      refine C_seq ?_
      refine C_region ?_
      obtain ⟨x33, hx33, h25⟩ := Option.bind_eq_some_iff.1 h25
      refine V_indexAddr h_needs hx33 Tryd.underlying33 Tryd.sizeOf42 rfl rfl rfl ?_
      intro b34 o35 h36
      obtain ⟨h37, _⟩ := El_route_Skill h36
      refine V_y (Y_loadA h37 Tryd.isAgg42 Tryd.sizeOf42 rfl) rfl rfl rfl ?_
      refine V_alloc Tryd.zeroValue42 rfl ?_
      intro b38 w39 h40
      refine V_storeNew h40 Tryd.sizeOf42 rfl rfl rfl rfl (by exact (List.forall_mem_cons.2 ⟨rfl, (List.forall_mem_cons.2 ⟨rfl, (fun _ h => nomatch h)⟩)⟩)) ?_
      intro w41 h42
      have hk44 := h42.kp
      have h43 : El (α := route_Skill) A22 w41 b38 0 x33 := h42.el hA ⟨[.string x33.name], _, rfl, rfl, rfl⟩
      have ht45 := Kp.tr hk44 hA hB
      replace hH := Hp.kp hH hk44
      replace h8 := El.tr h8 ht45
      replace h_needs := Sl.tr h_needs ht45
      replace h36 := El.tr h36 ht45
      replace hK := Tr.trans hK ht45
      replace hr13 := Tr.trans hr13 ht45
      replace hB := Nat.le_trans hB ht45.ex.size
      replace hA := ht45.new
      refine V_to (fun _ _ => rfl) ?_
      refine C_seq ?_
      refine C_region ?_
      have h46 := El_route_Person_3 h8
      refine V_y (Y_fieldAddr Tryd.underlying46 rfl Tryd.sizeOf33 (by decide) rfl) rfl rfl rfl ?_
      obtain ⟨v47, h48, h49⟩ := El.list h46
      refine V_y (Y_load h48 Tryd.isAgg33 rfl) rfl rfl rfl ?_
      refine V_y (Y_makeFunc rfl rfl) rfl rfl rfl ?_
      obtain ⟨x51, hx51, h25⟩ := Option.bind_eq_some_iff.1 h25
      refine V_call Tryd.call46 rfl rfl rfl rfl (slices_ContainsFunc_Lroute_Skill_route_Skill_c w41 hA p.skills v47 h49 (fun y59 => route_Person_able_1 y59 x33) 47 #[] #[.pointer (some ⟨b38, 0, none⟩)] Tryd.call47 (fun w55 A56 ht57 h58 y52 r53 h54 => (route_Person_able_1_c w55 h58 y52 x33 b38 (El.tr h43 ht57) h54).mono (fun _ _ h => ⟨h.1, h.2⟩)) hx51) ?_
      rintro _ w60 ⟨rfl, hk61⟩
      have ht62 := Kp.tr hk61 hA hB
      replace hH := Hp.kp hH hk61
      replace h8 := El.tr h8 ht62
      replace h_needs := Sl.tr h_needs ht62
      replace h43 := El.tr h43 ht62
      replace h46 := El.tr h46 ht62
      replace h49 := Sl.tr h49 ht62
      replace hK := Tr.trans hK ht62
      replace hr13 := Tr.trans hr13 ht62
      replace hB := Nat.le_trans hB ht62.ex.size
      replace hA := ht62.new
      refine V_y (Y_not rfl) rfl rfl rfl ?_
      refine V_to (fun _ _ => rfl) ?_
      refine C_cond rfl (fun hc63 => ?_) (fun hc63 => ?_)
      · rw [if_pos hc63] at h25
        refine C_seq ?_
        refine C_region ?_
        refine V_y (Y_assign rfl) rfl rfl rfl ?_
        refine V_to (fun _ _ => rfl) ?_
        obtain rfl := Option.some.inj h25
        obtain rfl := (h26 : Lp.rt _ = _)
        rw [Lp.andThen_rt] at hm
        obtain rfl := Option.some.inj hm
        refine C_ret ?_
        try simp only [↓inBlock_ret, ↓then_ret]
        exact retQ rfl (Res.one Tryd.results35 rfl) ⟨rfl, hK.kp⟩
      · rw [if_neg (nt hc63)] at h25
        refine C_skip_to (fun _ _ => rfl) ?_
        refine C_region ?_
        refine V_y (Y_addI rfl rfl) rfl rfl rfl ?_
        refine V_y (Y_move rfl) rfl rfl rfl ?_
        obtain rfl := Option.some.inj h25
        refine V_end (fun a ha64 => ?_)
        exact ⟨(), hlt28, h26, ⟨A22, ha64.sub ⟨rfl, rfl, rfl, (congrArg (fun z => some (Value.int .i64 z)) (w64_succ hlt28 hn31)), trivial⟩, ⟨hH, hr13⟩⟩⟩
    · refine C_exit (fun a ha65 => ?_)
      exact ⟨((), A22), ha65.sub trivial, ⟨(h29 (eq_of_dec hle27 hc32)).symm, hH, hr13⟩⟩
  rintro ⟨s12, A18⟩ w15 ⟨rfl, hH19, hk16⟩ a ha17
  rw [Lp.andThen_fin] at hm
  replace hK := Tr.trans hK hk16
  replace hB := Nat.le_trans hB hk16.ex.size
  replace hA := hk16.new
  replace hH : Hp w.heap.size A18 w15 ([]) := hH19
  refine C_at (n := ⟨19, [], none⟩) (fun _ _ => rfl) ?_ ha17
  refine C_seq ?_
  refine C_region ?_
  refine V_y (Y_assign rfl) rfl rfl rfl ?_
  refine V_to (fun _ _ => rfl) ?_
  obtain rfl := Option.some.inj hm
  refine C_ret ?_
  try simp only [↓inBlock_ret, ↓then_ret]
  exact retQ rfl (Res.one Tryd.results35 rfl) ⟨rfl, hK.kp⟩

set_option maxRecDepth 4000 in
set_option maxHeartbeats 4000000 in
theorem route_Able_c (w : World) {A : Nat → Prop} (hA : ∀ b, w.heap.size ≤ b → A b) (people : (List route_Person)) (v_people : Value) (h_people : Sl A w v_people people) (needs : (List route_Skill)) (v_needs : Value) (h_needs : Sl A w v_needs needs) {r : ((List Int) × Int)} (hm : route_Able people needs = some r) : Ret Tryd.prog 14 #[v_people, v_needs] w fun v w' => ∃ s0, v = .tuple #[s0, .int .i64 r.2] ∧ Ownd 3 w w' s0 r.1 ∧ Kp w w' := by
  unfold route_Able at hm
  refine enter Tryd.func14 rfl Tryd.ntmps14 rfl ?_
  have hA0 := hA
  have hB := Nat.le_refl w.heap.size
  have hK : Tr w.heap.size A w A w := Tr.refl hA
  have hH : Hp w.heap.size A w [] := Hp.nil
  refine C_seq ?_
  refine C_region ?_
  refine V_y (Y_assign rfl) rfl rfl rfl ?_
  refine V_y (Y_assign rfl) rfl rfl rfl ?_
  refine V_to (fun _ _ => rfl) ?_
  refine C_seq ?_
  refine C_seq ?_
  refine C_region ?_
  refine V_y (Y_move rfl) rfl rfl rfl ?_
  obtain ⟨x5, hx5, hm⟩ := Option.bind_eq_some_iff.1 hm
  refine V_call Tryd.call21 rfl rfl rfl rfl (route_CheckPeople_c w hA people v_people h_people hx5) ?_
  rintro _ w6 ⟨rfl, hk7⟩
  have ht8 := Kp.tr hk7 hA hB
  replace hH := Hp.kp hH hk7
  replace h_people := Sl.tr h_people ht8
  replace h_needs := Sl.tr h_needs ht8
  replace hK := Tr.trans hK ht8
  replace hB := Nat.le_trans hB ht8.ex.size
  replace hA := ht8.new
  refine V_y (Y_move rfl) rfl rfl rfl ?_
  obtain ⟨x9, hx9, hm⟩ := Option.bind_eq_some_iff.1 hm
  refine V_call Tryd.call34 rfl rfl rfl rfl (route_checkSkills_c w6 hA needs v_needs h_needs hx9) ?_
  rintro _ w10 ⟨rfl, hk11⟩
  have ht12 := Kp.tr hk11 hA hB
  replace hH := Hp.kp hH hk11
  replace h_people := Sl.tr h_people ht12
  replace h_needs := Sl.tr h_needs ht12
  replace hK := Tr.trans hK ht12
  replace hB := Nat.le_trans hB ht12.ex.size
  replace hA := ht12.new
  refine V_buildSlice (l := ([x5, x9] : List Int)) (len := 2) Tryd.underlying65 Tryd.sizeOf25 Tryd.zeroValue25 rfl (by with_unfolding_all rfl) (by decide) (by decide) hA ⟨[.int .i64 x5], _, rfl, rfl, ⟨[.int .i64 x9], _, rfl, rfl, rfl⟩⟩ rfl rfl ?_
  intro v13 w14 hk16 h15
  have ht17 := Kp.tr hk16 hA hB
  replace hH := Hp.kp hH hk16
  replace h_people := Sl.tr h_people ht17
  replace h_needs := Sl.tr h_needs ht17
  replace hK := Tr.trans hK ht17
  replace hB := Nat.le_trans hB ht17.ex.size
  replace hA := ht17.new
  obtain ⟨x18, hx18, hm⟩ := Option.bind_eq_some_iff.1 hm
  refine V_call Tryd.call25 rfl rfl rfl rfl (cmp_Or_api_Errno_c w14 ([x5, x9] : List Int) v13 h15 hx18) ?_
  rintro _ _ ⟨rfl, rfl⟩
  refine V_y (Y_assign rfl) rfl rfl rfl ?_
  refine V_to (fun _ _ => rfl) ?_
  refine C_seq ?_
  refine C_region ?_
  refine V_y (Y_move rfl) rfl rfl rfl ?_
  refine V_y (Y_neq rfl rfl) rfl rfl rfl ?_
  refine V_to (fun _ _ => rfl) ?_
  refine C_cond rfl (fun hc19 => ?_) (fun hc19 => ?_)
  · rw [if_pos hc19] at hm
    refine C_seq ?_
    refine C_region ?_
    refine V_y (Y_move rfl) rfl rfl rfl ?_
    refine V_y (Y_assign rfl) rfl rfl rfl ?_
    refine V_y (Y_assign rfl) rfl rfl rfl ?_
    refine V_to (fun _ _ => rfl) ?_
    obtain rfl := Option.some.inj hm
    replace hH : Hp w.heap.size A w14 (obS (α := Int) 3 (.slice none 0 0) ([] : (List Int)) :: []) := Hp.addNil (α := Int) (e := 3) hH
    refine C_ret ?_
    try simp only [↓inBlock_ret, ↓then_ret]
    exact retQ rfl (Res.two Tryd.results14 rfl rfl) ⟨.slice none 0 0, rfl, (Hp.ownd hH (i := 0) rfl), hK.kp⟩
  · rw [if_neg (nt hc19)] at hm
    refine C_skip_to (fun _ _ => rfl) ?_
    refine C_seq ?_
    refine C_region ?_
    refine V_y (Y_assign rfl) rfl rfl rfl ?_
    refine V_to (fun _ _ => rfl) ?_
    refine C_seq ?_
    refine C_seq ?_
    refine C_region ?_
    refine V_y (Y_move rfl) rfl rfl rfl ?_
    refine V_y (Y_lenSl h_people rfl Tryd.underlying22 rfl) rfl rfl rfl ?_
    refine V_y (Y_move rfl) rfl rfl rfl ?_
    refine V_to (fun _ _ => rfl) ?_
    replace hH : Hp w.heap.size A w14 (obS (α := Int) 3 (.slice none 0 0) ([] : (List Int)) :: []) := Hp.addNil (α := Int) (e := 3) hH
    have hn45 := Sl.le h_people
    obtain ⟨o20, ho20, hm⟩ := Option.bind_eq_some_iff.1 hm
    refine C_cutG (ι := ((List Int) × Value × (Nat → Prop))) (fun ⟨s21, v27, A29⟩ => [(7, v27)]) (fun ⟨s21, v27, A29⟩ => fun w' => o20 = .fin s21 ∧ Hp w.heap.size A29 w' (obS (α := Int) 3 v27 s21 :: []) ∧ Tr w.heap.size A w14 A29 w') ?_ ?_
    · refine C_block ?_
      refine C_range ho20 (fun k23 s31 a w' => ∃ i : (Value × (Nat → Prop)), Has ⟨35, [], none⟩ a ([(1, v_needs), (7, i.1), (19, v_people), (20, .int .i64 (people.length : Int)), (21, .int .i64 (k23 : Int))]) ∧ Hp w.heap.size i.2 w' (obS (α := Int) 3 i.1 s31 :: []) ∧ Tr w.heap.size A w14 i.2 w') (fun a ha => ⟨(.slice none 0 0, A), ha.sub ⟨rfl, rfl, rfl, rfl, rfl, trivial⟩, ⟨hH, Tr.refl hA⟩⟩) ?_
      rintro K k23 s31 a w33 ⟨⟨v34, A36⟩, ha109, hH37, hr22⟩ hle41 K44 h43
      refine C_of ?_ ha109
      replace h_needs := Sl.tr h_needs hr22
      replace h_people := Sl.tr h_people hr22
      replace hK := Tr.trans hK hr22
      replace hB := Nat.le_trans hB hr22.ex.size
      replace hA := hr22.new
      replace hH : Hp w.heap.size A36 w33 (obS (α := Int) 3 v34 s31 :: []) := hH37
      refine C_seq (C_region (V_y (Y_lss rfl rfl) rfl rfl rfl (V_to (fun _ _ => rfl) ?_)))
      refine C_seq ?_
      refine C_cond rfl (fun hc46 => ?_) (fun hc46 => ?_)
      · have hlt42 := lt_of_dec hc46
        obtain ⟨x38, h39, h40⟩ := K44 hlt42
        refine C_skip_to (fun _ _ => rfl) ?_
        refine C_seq ?_
        obtain ⟨s48, ho47, h39⟩ := Option.bind_eq_some_iff.1 h39
        refine C_cutG (ι := (Value × (Nat → Prop))) (fun ⟨v50, A55⟩ => [(1, v_needs), (7, v50), (19, v_people), (20, .int .i64 (people.length : Int)), (21, .int .i64 (k23 : Int))]) (fun ⟨v50, A55⟩ => fun w' => Hp w.heap.size A55 w' (obS (α := Int) 3 v50 s48 :: []) ∧ Tr w.heap.size A36 w33 A55 w') ?_ ?_
        · have hr49 : Tr w.heap.size A36 w33 A36 w33 := Tr.refl hA
          refine C_block ?_
          refine C_seq ?_
          refine C_region ?_
          refine V_y (Y_move rfl) rfl rfl rfl ?_
          obtain ⟨x57, hx57, ho47⟩ := Option.bind_eq_some_iff.1 ho47
          refine V_indexAddr h_people hx57 Tryd.underlying22 Tryd.sizeOf46 rfl rfl rfl ?_
          intro b58 o59 h60
          obtain ⟨v61, h63, h62⟩ := El_route_Person h60
          refine V_y (Y_loadA h63 Tryd.isAgg46 Tryd.sizeOf46 rfl) rfl rfl rfl ?_
          refine V_alloc Tryd.zeroValue46 rfl ?_
          intro b64 w65 h66
          refine V_y (Y_assign rfl) rfl rfl rfl ?_
          have h71 : (v61).oneCell' = true := by obtain ⟨_, _, e, _⟩ := Sl.form h62; rw [e]; rfl
          refine V_storeNew h66 Tryd.sizeOf46 rfl rfl rfl rfl (by exact (List.forall_mem_cons.2 ⟨rfl, (List.forall_mem_cons.2 ⟨rfl, (List.forall_mem_cons.2 ⟨rfl, (List.forall_mem_cons.2 ⟨h71, (fun _ h => nomatch h)⟩)⟩)⟩)⟩)) ?_
          intro w67 h68
          have hk73 := h68.kp
          have h72 : El (α := route_Person) A36 w67 b64 0 x57 := h68.el hA ⟨[.int .i64 x57.no], _, rfl, rfl, ⟨[.int .i64 x57.capacity], _, rfl, rfl, ⟨[.int .i64 x57.calendar], _, rfl, rfl, ⟨_, rfl, h62⟩⟩⟩⟩
          have ht74 := Kp.tr hk73 hA hB
          replace hH := Hp.kp hH hk73
          replace h_needs := Sl.tr h_needs ht74
          replace h_people := Sl.tr h_people ht74
          replace h60 := El.tr h60 ht74
          replace h62 := Sl.tr h62 ht74
          replace hK := Tr.trans hK ht74
          replace hr22 := Tr.trans hr22 ht74
          replace hr49 := Tr.trans hr49 ht74
          replace hB := Nat.le_trans hB ht74.ex.size
          replace hA := ht74.new
          refine V_to (fun _ _ => rfl) ?_
          refine C_seq ?_
          refine C_region ?_
          obtain ⟨v75, h77, h76⟩ := El_route_Person h72
          refine V_y (Y_loadA h77 Tryd.isAgg46 Tryd.sizeOf46 rfl) rfl rfl rfl ?_
          refine V_y (Y_move rfl) rfl rfl rfl ?_
          obtain ⟨x78, hx78, ho47⟩ := Option.bind_eq_some_iff.1 ho47
          refine V_call Tryd.call35 rfl rfl rfl rfl (route_Person_able_c w67 hA x57 v75 h76 needs v_needs h_needs hx78) ?_
          rintro _ w79 ⟨rfl, hk80⟩
          have ht81 := Kp.tr hk80 hA hB
          replace hH := Hp.kp hH hk80
          replace h_needs := Sl.tr h_needs ht81
          replace h_people := Sl.tr h_people ht81
          replace h72 := El.tr h72 ht81
          replace h76 := Sl.tr h76 ht81
          replace hK := Tr.trans hK ht81
          replace hr22 := Tr.trans hr22 ht81
          replace hr49 := Tr.trans hr49 ht81
          replace hB := Nat.le_trans hB ht81.ex.size
          replace hA := ht81.new
          refine V_to (fun _ _ => rfl) ?_
          obtain ⟨s83, ho82, ho47⟩ := Option.bind_eq_some_iff.1 ho47
          refine C_cutG (ι := (Value × (Nat → Prop))) (fun ⟨v85, A90⟩ => [(1, v_needs), (7, v85), (19, v_people), (20, .int .i64 (people.length : Int)), (21, .int .i64 (k23 : Int))]) (fun ⟨v85, A90⟩ => fun w' => Hp w.heap.size A90 w' (obS (α := Int) 3 v85 s83 :: []) ∧ Tr w.heap.size A36 w79 A90 w') ?_ ?_
          · have hr84 : Tr w.heap.size A36 w79 A36 w79 := Tr.refl hA
            refine C_cond rfl (fun hc92 => ?_) (fun hc92 => ?_)
            · rw [if_pos hc92] at ho82
              refine C_region ?_
              refine V_y (Y_move rfl) rfl rfl rfl ?_
              refine V_y (Y_move rfl) rfl rfl rfl ?_
              refine V_buildSlice (l := ([(k23 : Int)] : List Int)) (len := 1) Tryd.underlying24 Tryd.sizeOf3 Tryd.zeroValue3 rfl (by with_unfolding_all rfl) (by decide) (by decide) hA ⟨[.int .i64 (k23 : Int)], _, rfl, rfl, rfl⟩ rfl rfl ?_
              intro v93 w94 hk96 h95
              have ht97 := Kp.tr hk96 hA hB
              replace hH := Hp.kp hH hk96
              replace h_needs := Sl.tr h_needs ht97
              replace h_people := Sl.tr h_people ht97
              replace hK := Tr.trans hK ht97
              replace hr22 := Tr.trans hr22 ht97
              replace hr49 := Tr.trans hr49 ht97
              replace hr84 := Tr.trans hr84 ht97
              replace hB := Nat.le_trans hB ht97.ex.size
              replace hA := ht97.new
              obtain ⟨x98, hx98, ho82⟩ := Option.bind_eq_some_iff.1 ho82
              refine V_appendH (e := 3) (v := v34) (l := s31) (ti := Tryd.t3) (bytes := 8) (lim := 17592186044416) hH (i := 0) rfl h95 hx98 Tryd.underlying24 Tryd_info3 rfl rfl rfl rfl (by decide) (by decide) (by decide) hB hA rfl rfl rfl ?_
              intro v99 w100 A101 hH102 ht103
              replace h_needs := Sl.tr h_needs ht103
              replace h_people := Sl.tr h_people ht103
              replace h95 := Sl.tr h95 ht103
              replace hK := Tr.trans hK ht103
              replace hr22 := Tr.trans hr22 ht103
              replace hr49 := Tr.trans hr49 ht103
              replace hr84 := Tr.trans hr84 ht103
              replace hB := Nat.le_trans hB ht103.ex.size
              replace hA := ht103.new
              replace hH : Hp w.heap.size A101 w100 (obS (α := Int) 3 v99 x98 :: []) := hH102
              refine V_y (Y_assign rfl) rfl rfl rfl ?_
              obtain rfl := Option.some.inj ho82
              refine V_end (fun a ha104 => ?_)
              exact ⟨(v99, A101), ha104.sub ⟨rfl, rfl, rfl, rfl, rfl, trivial⟩, ⟨hH, hr84⟩⟩
            · rw [if_neg (nt hc92)] at ho82
              obtain rfl := Option.some.inj ho82
              refine C_skip (fun a ha105 => ?_)
              exact ⟨(v34, A36), ha105.sub ⟨rfl, rfl, rfl, rfl, rfl, trivial⟩, ⟨hH, hr84⟩⟩
          rintro ⟨v85, A90⟩ w87 ⟨hH91, hk88⟩ a ha89
          replace h_needs := Sl.tr h_needs hk88
          replace h_people := Sl.tr h_people hk88
          replace hK := Tr.trans hK hk88
          replace hr22 := Tr.trans hr22 hk88
          replace hr49 := Tr.trans hr49 hk88
          replace hB := Nat.le_trans hB hk88.ex.size
          replace hA := hk88.new
          replace hH : Hp w.heap.size A90 w87 (obS (α := Int) 3 v85 s83 :: []) := hH91
          obtain rfl := Option.some.inj ho47
          exact ⟨(v85, A90), ha89.sub ⟨rfl, rfl, rfl, rfl, rfl, trivial⟩, ⟨hH, hr49⟩⟩
        rintro ⟨v50, A55⟩ w52 ⟨hH56, hk53⟩ a ha54
        replace h_needs := Sl.tr h_needs hk53
        replace h_people := Sl.tr h_people hk53
        replace hK := Tr.trans hK hk53
        replace hr22 := Tr.trans hr22 hk53
        replace hB := Nat.le_trans hB hk53.ex.size
        replace hA := hk53.new
        replace hH : Hp w.heap.size A55 w52 (obS (α := Int) 3 v50 s48 :: []) := hH56
        refine C_at (n := ⟨35, [], none⟩) (fun _ _ => rfl) ?_ ha54
        refine C_region ?_
        refine V_y (Y_addI rfl rfl) rfl rfl rfl ?_
        refine V_y (Y_move rfl) rfl rfl rfl ?_
        obtain rfl := Option.some.inj h39
        refine V_end (fun a ha107 => ?_)
        exact ⟨s48, hlt42, h40, ⟨(v50, A55), ha107.sub ⟨rfl, rfl, rfl, rfl, (congrArg (fun z => some (Value.int .i64 z)) (w64_succ hlt42 hn45)), trivial⟩, ⟨hH, hr22⟩⟩⟩
      · refine C_exit (fun a ha108 => ?_)
        exact ⟨(s31, v34, A36), ha108.sub ⟨rfl, trivial⟩, ⟨(h43 (eq_of_dec hle41 hc46)).symm, hH, hr22⟩⟩
    rintro ⟨s21, v27, A29⟩ w24 ⟨rfl, hH30, hk25⟩ a ha26
    rw [Lp.andThen_fin] at hm
    replace hK := Tr.trans hK hk25
    replace hB := Nat.le_trans hB hk25.ex.size
    replace hA := hk25.new
    replace hH : Hp w.heap.size A29 w24 (obS (α := Int) 3 v27 s21 :: []) := hH30
    refine C_at (n := ⟨35, [], none⟩) (fun _ _ => rfl) ?_ ha26
    refine C_seq ?_
    refine C_region ?_
    refine V_y (Y_move rfl) rfl rfl rfl ?_
    refine V_y (Y_assign rfl) rfl rfl rfl ?_
    refine V_y (Y_assign rfl) rfl rfl rfl ?_
    refine V_to (fun _ _ => rfl) ?_
    obtain rfl := Option.some.inj hm
    refine C_ret ?_
    try simp only [↓inBlock_ret, ↓then_ret]
    exact retQ rfl (Res.two Tryd.results14 rfl rfl) ⟨v27, rfl, (Hp.ownd hH (i := 0) rfl), hK.kp⟩

set_option maxRecDepth 4000 in
set_option maxHeartbeats 4000000 in
theorem portref2_PeopleFault_c (w : World) {A : Nat → Prop} (hA : ∀ b, w.heap.size ≤ b → A b) (l : (List route_Person)) (v_l : Value) (h_l : Sl A w v_l l) {r : Int} (hm : portref2_PeopleFault l = some r) : Ret Tryd.prog 23 #[v_l] w fun v w' => v = .int .i64 r ∧ Kp w w' := by
  unfold portref2_PeopleFault at hm
  refine enter Tryd.func23 rfl Tryd.ntmps23 rfl ?_
  have hA0 := hA
  have hB := Nat.le_refl w.heap.size
  have hK : Tr w.heap.size A w A w := Tr.refl hA
  have hH : Hp w.heap.size A w [] := Hp.nil
  refine C_seq ?_
  refine C_region ?_
  refine V_y (Y_assign rfl) rfl rfl rfl ?_
  refine V_to (fun _ _ => rfl) ?_
  refine C_seq ?_
  refine C_seq ?_
  refine C_region ?_
  refine V_y (Y_move rfl) rfl rfl rfl ?_
  refine V_y (Y_lenSl h_l rfl Tryd.underlying22 rfl) rfl rfl rfl ?_
  refine V_y (Y_gtr rfl rfl) rfl rfl rfl ?_
  refine V_to (fun _ _ => rfl) ?_
  refine C_cond rfl (fun hc3 => ?_) (fun hc3 => ?_)
  · rw [if_pos hc3] at hm
    refine C_seq ?_
    refine C_region ?_
    refine V_y (Y_assign rfl) rfl rfl rfl ?_
    refine V_to (fun _ _ => rfl) ?_
    obtain rfl := Option.some.inj hm
    refine C_ret ?_
    try simp only [↓inBlock_ret, ↓then_ret]
    exact retQ rfl (Res.one Tryd.results23 rfl) ⟨rfl, hK.kp⟩
  · rw [if_neg (nt hc3)] at hm
    refine C_skip_to (fun _ _ => rfl) ?_
    refine C_seq ?_
    refine C_seq ?_
    refine C_region ?_
    refine V_y (Y_move rfl) rfl rfl rfl ?_
    refine V_y (Y_lenSl h_l rfl Tryd.underlying22 rfl) rfl rfl rfl ?_
    refine V_y (Y_move rfl) rfl rfl rfl ?_
    refine V_to (fun _ _ => rfl) ?_
    have hn25 := Sl.le h_l
    obtain ⟨o4, ho4, hm⟩ := Option.bind_eq_some_iff.1 hm
    refine C_cutG (ι := (Unit × (Nat → Prop))) (fun ⟨s5, A12⟩ => []) (fun ⟨s5, A12⟩ => fun w' => o4 = .fin s5 ∧ Hp w.heap.size A12 w' ([]) ∧ Tr w.heap.size A w A12 w') ?_ ?_
    · refine C_block ?_
      refine C_range ho4 (fun k7 _ a w' => ∃ i : (Nat → Prop), Has ⟨65, [], none⟩ a ([(0, v_l), (9, v_l), (10, .int .i64 (l.length : Int)), (11, .int .i64 (k7 : Int))]) ∧ Hp w.heap.size i w' ([]) ∧ Tr w.heap.size A w i w') (fun a ha => ⟨A, ha.sub ⟨rfl, rfl, rfl, rfl, trivial⟩, ⟨hH, Tr.refl hA⟩⟩) ?_
      rintro K k7 _ a w15 ⟨A16, ha84, hH17, hr6⟩ hle21 K24 h23
      refine C_of ?_ ha84
      replace h_l := Sl.tr h_l hr6
      replace hK := Tr.trans hK hr6
      replace hB := Nat.le_trans hB hr6.ex.size
      replace hA := hr6.new
      replace hH : Hp w.heap.size A16 w15 ([]) := hH17
      refine C_seq (C_region (V_y (Y_lss rfl rfl) rfl rfl rfl (V_to (fun _ _ => rfl) ?_)))
      refine C_seq ?_
      refine C_cond rfl (fun hc26 => ?_) (fun hc26 => ?_)
      · have hlt22 := lt_of_dec hc26
        obtain ⟨x18, h19, h20⟩ := K24 hlt22
        refine C_skip_to (fun _ _ => rfl) ?_
        refine C_seq ?_
        refine C_block ?_
        refine C_seq ?_
        refine C_region ?_
        refine V_y (Y_move rfl) rfl rfl rfl ?_
        obtain ⟨x27, hx27, h19⟩ := Option.bind_eq_some_iff.1 h19
        refine V_indexAddr h_l hx27 Tryd.underlying22 Tryd.sizeOf46 rfl rfl rfl ?_
        intro b28 o29 h30
        obtain ⟨v31, h33, h32⟩ := El_route_Person h30
        refine V_y (Y_loadA h33 Tryd.isAgg46 Tryd.sizeOf46 rfl) rfl rfl rfl ?_
        refine V_alloc Tryd.zeroValue46 rfl ?_
        intro b34 w35 h36
        refine V_y (Y_assign rfl) rfl rfl rfl ?_
        have h41 : (v31).oneCell' = true := by obtain ⟨_, _, e, _⟩ := Sl.form h32; rw [e]; rfl
        refine V_storeNew h36 Tryd.sizeOf46 rfl rfl rfl rfl (by exact (List.forall_mem_cons.2 ⟨rfl, (List.forall_mem_cons.2 ⟨rfl, (List.forall_mem_cons.2 ⟨rfl, (List.forall_mem_cons.2 ⟨h41, (fun _ h => nomatch h)⟩)⟩)⟩)⟩)) ?_
        intro w37 h38
        have hk43 := h38.kp
        have h42 : El (α := route_Person) A16 w37 b34 0 x27 := h38.el hA ⟨[.int .i64 x27.no], _, rfl, rfl, ⟨[.int .i64 x27.capacity], _, rfl, rfl, ⟨[.int .i64 x27.calendar], _, rfl, rfl, ⟨_, rfl, h32⟩⟩⟩⟩
        have ht44 := Kp.tr hk43 hA hB
        replace hH := Hp.kp hH hk43
        replace h_l := Sl.tr h_l ht44
        replace h30 := El.tr h30 ht44
        replace h32 := Sl.tr h32 ht44
        replace hK := Tr.trans hK ht44
        replace hr6 := Tr.trans hr6 ht44
        replace hB := Nat.le_trans hB ht44.ex.size
        replace hA := ht44.new
        refine V_to (fun _ _ => rfl) ?_
        refine C_seq ?_
        refine C_block ?_
        refine C_seq ?_
        refine C_region ?_
        have h45 := El_route_Person_0 h42
        refine V_y (Y_fieldAddr Tryd.underlying46 rfl Tryd.sizeOf3 (by decide) rfl) rfl rfl rfl ?_
        refine V_y (Y_load (El.int h45) Tryd.isAgg3 rfl) rfl rfl rfl ?_
        refine V_y (Y_lss rfl rfl) rfl rfl rfl ?_
        refine V_y (Y_move rfl) rfl rfl rfl ?_
        refine V_cut 4 (fun _ : Unit => [(0, v_l), (3, .int .i64 (k7 : Int)), (4, .pointer (some ⟨b34, 0, none⟩)), (9, v_l), (10, .int .i64 (l.length : Int)), (11, .int .i64 (k7 : Int)), (24, .bool ((decide (x27.no < 1)) || (decide ((40 : Int) < x27.no))))]) (fun _ w' => w37 = w') ?_ ?_
        · simp only [List.take, List.drop]
          rcases Bool.eq_false_or_eq_true (decide (x27.no < 1)) with hc46 | hc46
          · refine V_gn rfl rfl rfl hc46 rfl rfl rfl ?_
            refine V_gn rfl rfl rfl hc46 rfl rfl rfl ?_
            refine V_gn rfl rfl rfl hc46 rfl rfl rfl ?_
            refine V_y (Y_pick_te rfl hc46 rfl) rfl rfl rfl ?_
            exact V_end fun a ha => ⟨(), ha.sub ⟨rfl, rfl, rfl, rfl, rfl, rfl, (by rw [hc46]; rfl), trivial⟩, rfl⟩
          · refine V_ge rfl rfl rfl hc46 ?_
            have h48 := El_route_Person_0 h42
            refine V_y (Y_fieldAddr Tryd.underlying46 rfl Tryd.sizeOf3 (by decide) rfl) rfl rfl rfl ?_
            refine V_ge rfl rfl rfl hc46 ?_
            refine V_y (Y_load (El.int h48) Tryd.isAgg3 rfl) rfl rfl rfl ?_
            refine V_ge rfl rfl rfl hc46 ?_
            refine V_y (Y_gtr rfl rfl) rfl rfl rfl ?_
            refine V_y (Y_pick_fe rfl hc46 rfl) rfl rfl rfl ?_
            exact V_end fun a ha => ⟨(), ha.sub ⟨rfl, rfl, rfl, rfl, rfl, rfl, (by rw [hc46]; rfl), trivial⟩, rfl⟩
        simp only [List.take, List.drop]
        rintro _ _ rfl
        refine V_y (Y_assign rfl) rfl rfl rfl ?_
        refine V_to (fun _ _ => rfl) ?_
        refine C_cond rfl (fun hc49 => ?_) (fun hc49 => ?_)
        · rw [if_pos hc49] at h19
          refine C_seq ?_
          refine C_region ?_
          refine V_y (Y_assign rfl) rfl rfl rfl ?_
          refine V_to (fun _ _ => rfl) ?_
          obtain rfl := Option.some.inj h19
          obtain rfl := (h20 : Lp.rt _ = _)
          rw [Lp.andThen_rt] at hm
          obtain rfl := Option.some.inj hm
          refine C_ret ?_
          try simp only [↓inBlock_ret, ↓then_ret]
          exact retQ rfl (Res.one Tryd.results23 rfl) ⟨rfl, hK.kp⟩
        · rw [if_neg (nt hc49)] at h19
          refine C_seq ?_
          refine C_region_q Tryd_mixed (by kernel_rfl) ?_
          refine VQ_y (fun w' hw' => Y_move rfl) rfl rfl rfl ?_
          refine VQ_y (fun w' hw' => Y_gtr rfl rfl) rfl rfl rfl ?_
          refine VQ_y (fun w' hw' => Y_move rfl) rfl rfl rfl ?_
          obtain ⟨s51, hs51, h19⟩ := Option.bind_eq_some_iff.1 h19
          refine VQ_cut 10 (fun _ : Unit => [(0, v_l), (4, .pointer (some ⟨b34, 0, none⟩)), (9, v_l), (10, .int .i64 (l.length : Int)), (11, .int .i64 (k7 : Int)), (38, .bool s51)]) (fun _ => True) ?_ ?_
          · simp only [List.take, List.drop]
            rcases Bool.eq_false_or_eq_true (decide ((0 : Int) < (k7 : Int))) with hc50 | hc50
            · rw [if_pos hc50] at hs51
              refine VQ_ge rfl rfl rfl hc50 ?_
              have h52 := El_route_Person_0 h42
              refine VQ_y (fun w' hw' => Y_fieldAddr Tryd.underlying46 rfl Tryd.sizeOf3 (by decide) rfl) rfl rfl rfl ?_
              refine VQ_ge rfl rfl rfl hc50 ?_
              refine VQ_y (fun w' hw' => Y_load (El.int (El.kp h52 hw')) Tryd.isAgg3 rfl) rfl rfl rfl ?_
              refine VQ_ge rfl rfl rfl hc50 ?_
              refine VQ_y (fun w' hw' => Y_move rfl) rfl rfl rfl ?_
              refine VQ_ge rfl rfl rfl hc50 ?_
              refine VQ_y (fun w' hw' => Y_move rfl) rfl rfl rfl ?_
              refine VQ_ge rfl rfl rfl hc50 ?_
              refine VQ_y (fun w' hw' => Y_subI rfl rfl) rfl rfl rfl ?_
              refine VQ_ge rfl rfl rfl hc50 ?_
              obtain ⟨x53, hx53, hs51⟩ := Option.bind_eq_some_iff.1 hs51
              refine VQ_indexAddr h_l hx53 Tryd.underlying22 Tryd.sizeOf46 rfl rfl rfl ?_
              intro b54 o55 h56
              refine VQ_ge rfl rfl rfl hc50 ?_
              have h57 := El_route_Person_0 h56
              refine VQ_y (fun w' hw' => Y_fieldAddr Tryd.underlying46 rfl Tryd.sizeOf3 (by decide) rfl) rfl rfl rfl ?_
              refine VQ_ge rfl rfl rfl hc50 ?_
              refine VQ_y (fun w' hw' => Y_load (El.int (El.kp h57 hw')) Tryd.isAgg3 rfl) rfl rfl rfl ?_
              refine VQ_ge rfl rfl rfl hc50 ?_
              refine VQ_y (fun w' hw' => Y_leq rfl rfl) rfl rfl rfl ?_
              refine VQ_y (fun _ _ => Y_pick_te rfl hc50 rfl) rfl rfl rfl ?_
              obtain rfl := Option.some.inj hs51
              exact VQ_end fun a ha => ⟨(), ha.sub ⟨rfl, rfl, rfl, rfl, rfl, rfl, trivial⟩, trivial⟩
            · rw [if_neg (nt hc50)] at hs51
              refine VQ_gn rfl rfl rfl hc50 rfl rfl rfl ?_
              refine VQ_gn rfl rfl rfl hc50 rfl rfl rfl ?_
              refine VQ_gn rfl rfl rfl hc50 rfl rfl rfl ?_
              refine VQ_gn rfl rfl rfl hc50 rfl rfl rfl ?_
              refine VQ_gn rfl rfl rfl hc50 rfl rfl rfl ?_
              refine VQ_gn rfl rfl rfl hc50 rfl rfl rfl ?_
              refine VQ_gn rfl rfl rfl hc50 rfl rfl rfl ?_
              refine VQ_gn rfl rfl rfl hc50 rfl rfl rfl ?_
              refine VQ_gn rfl rfl rfl hc50 rfl rfl rfl ?_
              refine VQ_y (fun _ _ => Y_pick_fe rfl hc50 rfl) rfl rfl rfl ?_
              obtain rfl := Option.some.inj hs51
              exact VQ_end fun a ha => ⟨(), ha.sub ⟨rfl, rfl, rfl, rfl, rfl, rfl, trivial⟩, trivial⟩
          simp only [List.take, List.drop]
          rintro _ _
          refine VQ_y (fun w' hw' => Y_assign rfl) rfl rfl rfl ?_
          refine VQ_to (fun _ _ => rfl) (fun w58 hk59 => ?_)
          have ht60 := Kp.tr hk59 hA hB
          replace hH := Hp.kp hH hk59
          replace h_l := Sl.tr h_l ht60
          replace h42 := El.tr h42 ht60
          replace hK := Tr.trans hK ht60
          replace hr6 := Tr.trans hr6 ht60
          replace hB := Nat.le_trans hB ht60.ex.size
          replace hA := ht60.new
          refine C_cond rfl (fun hc61 => ?_) (fun hc61 => ?_)
          · rw [if_pos hc61] at h19
            refine C_seq ?_
            refine C_region ?_
            refine V_y (Y_assign rfl) rfl rfl rfl ?_
            refine V_to (fun _ _ => rfl) ?_
            obtain rfl := Option.some.inj h19
            obtain rfl := (h20 : Lp.rt _ = _)
            rw [Lp.andThen_rt] at hm
            obtain rfl := Option.some.inj hm
            refine C_ret ?_
            try simp only [↓inBlock_ret, ↓then_ret]
            exact retQ rfl (Res.one Tryd.results23 rfl) ⟨rfl, hK.kp⟩
          · rw [if_neg (nt hc61)] at h19
            refine C_seq ?_
            refine C_region ?_
            have h62 := El_route_Person_1 h42
            refine V_y (Y_fieldAddr Tryd.underlying46 rfl Tryd.sizeOf3 (by decide) rfl) rfl rfl rfl ?_
            refine V_y (Y_load (El.int h62) Tryd.isAgg3 rfl) rfl rfl rfl ?_
            refine V_y (Y_lss rfl rfl) rfl rfl rfl ?_
            refine V_y (Y_move rfl) rfl rfl rfl ?_
            refine V_cut 4 (fun _ : Unit => [(0, v_l), (4, .pointer (some ⟨b34, 0, none⟩)), (9, v_l), (10, .int .i64 (l.length : Int)), (11, .int .i64 (k7 : Int)), (47, .bool ((decide (x27.capacity < 0)) || (decide ((100 : Int) < x27.capacity))))]) (fun _ w' => w58 = w') ?_ ?_
            · simp only [List.take, List.drop]
              rcases Bool.eq_false_or_eq_true (decide (x27.capacity < 0)) with hc63 | hc63
              · refine V_gn rfl rfl rfl hc63 rfl rfl rfl ?_
                refine V_gn rfl rfl rfl hc63 rfl rfl rfl ?_
                refine V_gn rfl rfl rfl hc63 rfl rfl rfl ?_
                refine V_y (Y_pick_te rfl hc63 rfl) rfl rfl rfl ?_
                exact V_end fun a ha => ⟨(), ha.sub ⟨rfl, rfl, rfl, rfl, rfl, (by rw [hc63]; rfl), trivial⟩, rfl⟩
              · refine V_ge rfl rfl rfl hc63 ?_
                have h65 := El_route_Person_1 h42
                refine V_y (Y_fieldAddr Tryd.underlying46 rfl Tryd.sizeOf3 (by decide) rfl) rfl rfl rfl ?_
                refine V_ge rfl rfl rfl hc63 ?_
                refine V_y (Y_load (El.int h65) Tryd.isAgg3 rfl) rfl rfl rfl ?_
                refine V_ge rfl rfl rfl hc63 ?_
                refine V_y (Y_gtr rfl rfl) rfl rfl rfl ?_
                refine V_y (Y_pick_fe rfl hc63 rfl) rfl rfl rfl ?_
                exact V_end fun a ha => ⟨(), ha.sub ⟨rfl, rfl, rfl, rfl, rfl, (by rw [hc63]; rfl), trivial⟩, rfl⟩
            simp only [List.take, List.drop]
            rintro _ _ rfl
            refine V_y (Y_move rfl) rfl rfl rfl ?_
            refine V_cut 4 (fun _ : Unit => [(0, v_l), (4, .pointer (some ⟨b34, 0, none⟩)), (9, v_l), (10, .int .i64 (l.length : Int)), (11, .int .i64 (k7 : Int)), (52, .bool (((decide (x27.capacity < 0)) || (decide ((100 : Int) < x27.capacity))) || (decide (x27.calendar < 0))))]) (fun _ w' => w58 = w') ?_ ?_
            · simp only [List.take, List.drop]
              rcases Bool.eq_false_or_eq_true (((decide (x27.capacity < 0)) || (decide ((100 : Int) < x27.capacity)))) with hc66 | hc66
              · refine V_gn rfl rfl rfl hc66 rfl rfl rfl ?_
                refine V_gn rfl rfl rfl hc66 rfl rfl rfl ?_
                refine V_gn rfl rfl rfl hc66 rfl rfl rfl ?_
                refine V_y (Y_pick_te rfl hc66 rfl) rfl rfl rfl ?_
                exact V_end fun a ha => ⟨(), ha.sub ⟨rfl, rfl, rfl, rfl, rfl, (by rw [hc66]; rfl), trivial⟩, rfl⟩
              · refine V_ge rfl rfl rfl hc66 ?_
                have h68 := El_route_Person_2 h42
                refine V_y (Y_fieldAddr Tryd.underlying46 rfl Tryd.sizeOf3 (by decide) rfl) rfl rfl rfl ?_
                refine V_ge rfl rfl rfl hc66 ?_
                refine V_y (Y_load (El.int h68) Tryd.isAgg3 rfl) rfl rfl rfl ?_
                refine V_ge rfl rfl rfl hc66 ?_
                refine V_y (Y_lss rfl rfl) rfl rfl rfl ?_
                refine V_y (Y_pick_fe rfl hc66 rfl) rfl rfl rfl ?_
                exact V_end fun a ha => ⟨(), ha.sub ⟨rfl, rfl, rfl, rfl, rfl, (by rw [hc66]; rfl), trivial⟩, rfl⟩
            simp only [List.take, List.drop]
            rintro _ _ rfl
            refine V_y (Y_move rfl) rfl rfl rfl ?_
            refine V_cut 4 (fun _ : Unit => [(0, v_l), (4, .pointer (some ⟨b34, 0, none⟩)), (9, v_l), (10, .int .i64 (l.length : Int)), (11, .int .i64 (k7 : Int)), (57, .bool ((((decide (x27.capacity < 0)) || (decide ((100 : Int) < x27.capacity))) || (decide (x27.calendar < 0))) || (decide ((20 : Int) ≤ x27.calendar))))]) (fun _ w' => w58 = w') ?_ ?_
            · simp only [List.take, List.drop]
              rcases Bool.eq_false_or_eq_true ((((decide (x27.capacity < 0)) || (decide ((100 : Int) < x27.capacity))) || (decide (x27.calendar < 0)))) with hc69 | hc69
              · refine V_gn rfl rfl rfl hc69 rfl rfl rfl ?_
                refine V_gn rfl rfl rfl hc69 rfl rfl rfl ?_
                refine V_gn rfl rfl rfl hc69 rfl rfl rfl ?_
                refine V_y (Y_pick_te rfl hc69 rfl) rfl rfl rfl ?_
                exact V_end fun a ha => ⟨(), ha.sub ⟨rfl, rfl, rfl, rfl, rfl, (by rw [hc69]; rfl), trivial⟩, rfl⟩
              · refine V_ge rfl rfl rfl hc69 ?_
                have h71 := El_route_Person_2 h42
                refine V_y (Y_fieldAddr Tryd.underlying46 rfl Tryd.sizeOf3 (by decide) rfl) rfl rfl rfl ?_
                refine V_ge rfl rfl rfl hc69 ?_
                refine V_y (Y_load (El.int h71) Tryd.isAgg3 rfl) rfl rfl rfl ?_
                refine V_ge rfl rfl rfl hc69 ?_
                refine V_y (Y_geq rfl rfl) rfl rfl rfl ?_
                refine V_y (Y_pick_fe rfl hc69 rfl) rfl rfl rfl ?_
                exact V_end fun a ha => ⟨(), ha.sub ⟨rfl, rfl, rfl, rfl, rfl, (by rw [hc69]; rfl), trivial⟩, rfl⟩
            simp only [List.take, List.drop]
            rintro _ _ rfl
            refine V_y (Y_assign rfl) rfl rfl rfl ?_
            refine V_to (fun _ _ => rfl) ?_
            refine C_cond rfl (fun hc72 => ?_) (fun hc72 => ?_)
            · rw [if_pos hc72] at h19
              refine C_seq ?_
              refine C_region ?_
              refine V_y (Y_assign rfl) rfl rfl rfl ?_
              refine V_to (fun _ _ => rfl) ?_
              obtain rfl := Option.some.inj h19
              obtain rfl := (h20 : Lp.rt _ = _)
              rw [Lp.andThen_rt] at hm
              obtain rfl := Option.some.inj hm
              refine C_ret ?_
              try simp only [↓inBlock_ret, ↓then_ret]
              exact retQ rfl (Res.one Tryd.results23 rfl) ⟨rfl, hK.kp⟩
            · rw [if_neg (nt hc72)] at h19
              refine C_skip_to (fun _ _ => rfl) ?_
              refine C_seq ?_
              refine C_region ?_
              have h73 := El_route_Person_3 h42
              refine V_y (Y_fieldAddr Tryd.underlying46 rfl Tryd.sizeOf33 (by decide) rfl) rfl rfl rfl ?_
              obtain ⟨v74, h75, h76⟩ := El.list h73
              refine V_y (Y_load h75 Tryd.isAgg33 rfl) rfl rfl rfl ?_
              obtain ⟨x77, hx77, h19⟩ := Option.bind_eq_some_iff.1 h19
              refine V_call Tryd.call36 rfl rfl rfl rfl (portref2_skillsFault_c w58 hA x27.skills v74 h76 hx77) ?_
              rintro _ w78 ⟨rfl, hk79⟩
              have ht80 := Kp.tr hk79 hA hB
              replace hH := Hp.kp hH hk79
              replace h_l := Sl.tr h_l ht80
              replace h42 := El.tr h42 ht80
              replace h73 := El.tr h73 ht80
              replace h76 := Sl.tr h76 ht80
              replace hK := Tr.trans hK ht80
              replace hr6 := Tr.trans hr6 ht80
              replace hB := Nat.le_trans hB ht80.ex.size
              replace hA := ht80.new
              refine V_y (Y_assign rfl) rfl rfl rfl ?_
              refine V_to (fun _ _ => rfl) ?_
              refine C_seq ?_
              refine C_region ?_
              refine V_y (Y_move rfl) rfl rfl rfl ?_
              refine V_y (Y_neq rfl rfl) rfl rfl rfl ?_
              refine V_to (fun _ _ => rfl) ?_
              refine C_cond rfl (fun hc81 => ?_) (fun hc81 => ?_)
              · rw [if_pos hc81] at h19
                refine C_seq ?_
                refine C_region ?_
                refine V_y (Y_move rfl) rfl rfl rfl ?_
                refine V_y (Y_assign rfl) rfl rfl rfl ?_
                refine V_to (fun _ _ => rfl) ?_
                obtain rfl := Option.some.inj h19
                obtain rfl := (h20 : Lp.rt _ = _)
                rw [Lp.andThen_rt] at hm
                obtain rfl := Option.some.inj hm
                refine C_ret ?_
                try simp only [↓inBlock_ret, ↓then_ret]
                exact retQ rfl (Res.one Tryd.results23 rfl) ⟨rfl, hK.kp⟩
              · rw [if_neg (nt hc81)] at h19
                refine C_skip_to (fun _ _ => rfl) ?_
                refine C_region ?_
                refine V_y (Y_addI rfl rfl) rfl rfl rfl ?_
                refine V_y (Y_move rfl) rfl rfl rfl ?_
                obtain rfl := Option.some.inj h19
                refine V_end (fun a ha82 => ?_)
                exact ⟨(), hlt22, h20, ⟨A16, ha82.sub ⟨rfl, rfl, rfl, (congrArg (fun z => some (Value.int .i64 z)) (w64_succ hlt22 hn25)), trivial⟩, ⟨hH, hr6⟩⟩⟩
      · refine C_exit (fun a ha83 => ?_)
        exact ⟨((), A16), ha83.sub trivial, ⟨(h23 (eq_of_dec hle21 hc26)).symm, hH, hr6⟩⟩
    rintro ⟨s5, A12⟩ w9 ⟨rfl, hH13, hk10⟩ a ha11
    rw [Lp.andThen_fin] at hm
    replace hK := Tr.trans hK hk10
    replace hB := Nat.le_trans hB hk10.ex.size
    replace hA := hk10.new
    replace hH : Hp w.heap.size A12 w9 ([]) := hH13
    refine C_at (n := ⟨65, [], none⟩) (fun _ _ => rfl) ?_ ha11
    refine C_seq ?_
    refine C_region ?_
    refine V_y (Y_assign rfl) rfl rfl rfl ?_
    refine V_to (fun _ _ => rfl) ?_
    obtain rfl := Option.some.inj hm
    refine C_ret ?_
    try simp only [↓inBlock_ret, ↓then_ret]
    exact retQ rfl (Res.one Tryd.results23 rfl) ⟨rfl, hK.kp⟩

set_option maxRecDepth 4000 in
set_option maxHeartbeats 4000000 in
theorem portref2_able_1_c (w : World) {A : Nat → Prop} (hA : ∀ b, w.heap.size ≤ b → A b) (s : route_Skill) (p1 : route_Skill) (b_p1 : Nat) (h_p1 : El A w b_p1 0 p1) {r : Bool} (hm : portref2_able_1 s p1 = some r) : Ret Tryd.prog 49 #[.agg #[.string s.name, .int .i64 s.rank], .pointer (some ⟨b_p1, 0, none⟩)] w fun v w' => v = .bool r ∧ Kp w w' := by
  unfold portref2_able_1 at hm
  refine enter Tryd.func49 rfl Tryd.ntmps49 rfl ?_
  have hA0 := hA
  have hB := Nat.le_refl w.heap.size
  have hK : Tr w.heap.size A w A w := Tr.refl hA
  have hH : Hp w.heap.size A w [] := Hp.nil
  refine C_seq ?_
  refine C_region ?_
  refine V_box rfl rfl ?_
  intro b1 w2 h3
  have hk5 := h3.kp
  have h4 : El (α := route_Skill) A w2 b1 0 s := h3.el hA ⟨[.string s.name], _, rfl, rfl, rfl⟩
  have ht6 := Kp.tr hk5 hA hB
  replace hH := Hp.kp hH hk5
  replace h_p1 := El.tr h_p1 ht6
  replace hK := Tr.trans hK ht6
  replace hB := Nat.le_trans hB ht6.ex.size
  replace hA := ht6.new
  refine V_y (Y_assign rfl) rfl rfl rfl ?_
  refine V_to (fun _ _ => rfl) ?_
  refine C_seq ?_
  refine C_region ?_
  have h7 := El_route_Skill_0 h4
  refine V_y (Y_fieldAddr Tryd.underlying42 rfl Tryd.sizeOf9 (by decide) rfl) rfl rfl rfl ?_
  refine V_y (Y_load (El.str h7) Tryd.isAgg9 rfl) rfl rfl rfl ?_
  have h8 := El_route_Skill_0 h_p1
  refine V_y (Y_fieldAddr Tryd.underlying42 rfl Tryd.sizeOf9 (by decide) rfl) rfl rfl rfl ?_
  refine V_y (Y_load (El.str h8) Tryd.isAgg9 rfl) rfl rfl rfl ?_
  refine V_y (Y_seql rfl rfl) rfl rfl rfl ?_
  refine V_y (Y_move rfl) rfl rfl rfl ?_
  refine V_cut 6 (fun _ : Unit => [(15, .bool ((strEq s.name p1.name) && (decide (p1.rank ≤ s.rank))))]) (fun _ w' => w2 = w') ?_ ?_
  · simp only [List.take, List.drop]
    rcases Bool.eq_false_or_eq_true (strEq s.name p1.name) with hc9 | hc9
    · refine V_ge rfl rfl rfl hc9 ?_
      have h11 := El_route_Skill_1 h4
      refine V_y (Y_fieldAddr Tryd.underlying42 rfl Tryd.sizeOf3 (by decide) rfl) rfl rfl rfl ?_
      refine V_ge rfl rfl rfl hc9 ?_
      refine V_y (Y_load (El.int h11) Tryd.isAgg3 rfl) rfl rfl rfl ?_
      refine V_ge rfl rfl rfl hc9 ?_
      have h12 := El_route_Skill_1 h_p1
      refine V_y (Y_fieldAddr Tryd.underlying42 rfl Tryd.sizeOf3 (by decide) rfl) rfl rfl rfl ?_
      refine V_ge rfl rfl rfl hc9 ?_
      refine V_y (Y_load (El.int h12) Tryd.isAgg3 rfl) rfl rfl rfl ?_
      refine V_ge rfl rfl rfl hc9 ?_
      refine V_y (Y_geq rfl rfl) rfl rfl rfl ?_
      refine V_y (Y_pick_te rfl hc9 rfl) rfl rfl rfl ?_
      exact V_end fun a ha => ⟨(), ha.sub ⟨(by rw [hc9]; rfl), trivial⟩, rfl⟩
    · refine V_gn rfl rfl rfl hc9 rfl rfl rfl ?_
      refine V_gn rfl rfl rfl hc9 rfl rfl rfl ?_
      refine V_gn rfl rfl rfl hc9 rfl rfl rfl ?_
      refine V_gn rfl rfl rfl hc9 rfl rfl rfl ?_
      refine V_gn rfl rfl rfl hc9 rfl rfl rfl ?_
      refine V_y (Y_pick_fe rfl hc9 rfl) rfl rfl rfl ?_
      exact V_end fun a ha => ⟨(), ha.sub ⟨(by rw [hc9]; rfl), trivial⟩, rfl⟩
  simp only [List.take, List.drop]
  rintro _ _ rfl
  refine V_y (Y_assign rfl) rfl rfl rfl ?_
  refine V_to (fun _ _ => rfl) ?_
  obtain rfl := Option.some.inj hm
  refine C_ret ?_
  try simp only [↓inBlock_ret, ↓then_ret]
  exact retQ rfl (Res.one Tryd.results49 rfl) ⟨rfl, hK.kp⟩

end Go.Proofs.YtigplgkbilmabaaDoor.W
