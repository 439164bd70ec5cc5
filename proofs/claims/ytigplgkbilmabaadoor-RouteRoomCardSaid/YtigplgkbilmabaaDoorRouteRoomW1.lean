/-
  Written by program (gen.py) from the IR of the dump: each function computes its model.
-/
import Derived.Test.YtigplgkbilmabaaDoorRouteRoomW0
namespace Go.Proofs.YtigplgkbilmabaaDoor.W
open Go Go.RowKit Go.Pu Go.Gw Go.Proofs Go.Proofs.YtigplgkbilmabaaDoor.M
set_option linter.unusedVariables false
set_option linter.unusedSimpArgs false

set_option maxRecDepth 4000 in
set_option maxHeartbeats 4000000 in
theorem portref2_heldAlone_c (w : World) {A : Nat → Prop} (hA : ∀ b, w.heap.size ≤ b → A b) (people : (List route_Person)) (v_people : Value) (h_people : Sl A w v_people people) (l : (List route_Held)) (v_l : Value) (h_l : Sl A w v_l l) {r : Int} (hm : portref2_heldAlone people l = some r) : Ret Tryd.prog 24 #[v_people, v_l] w fun v w' => v = .int .i64 r ∧ Kp w w' := by
  unfold portref2_heldAlone at hm
  refine enter Tryd.func24 rfl Tryd.ntmps24 rfl ?_
  have hA0 := hA
  have hB := Nat.le_refl w.heap.size
  have hK : Tr w.heap.size A w A w := Tr.refl hA
  have hH : Hp w.heap.size A w [] := Hp.nil
  refine C_seq ?_
  refine C_region ?_
  refine V_y (Y_assign rfl) rfl rfl rfl ?_
  refine V_to (fun _ _ => rfl) ?_
  refine C_seq ?_
  refine C_seq ?_
  refine C_region ?_
  refine V_y (Y_move rfl) rfl rfl rfl ?_
  refine V_y (Y_lenSl h_l rfl Tryd.underlying23 rfl) rfl rfl rfl ?_
  refine V_y (Y_gtr rfl rfl) rfl rfl rfl ?_
  refine V_to (fun _ _ => rfl) ?_
  refine C_cond rfl (fun hc5 => ?_) (fun hc5 => ?_)
  · rw [if_pos hc5] at hm
    refine C_seq ?_
    refine C_region ?_
    refine V_y (Y_assign rfl) rfl rfl rfl ?_
    refine V_to (fun _ _ => rfl) ?_
    obtain rfl := Option.some.inj hm
    refine C_ret ?_
    try simp only [↓inBlock_ret, ↓then_ret]
    exact retQ rfl (Res.one Tryd.results24 rfl) ⟨rfl, hK.kp⟩
  · rw [if_neg (nt hc5)] at hm
    refine C_skip_to (fun _ _ => rfl) ?_
    refine C_seq ?_
    refine C_seq ?_
    refine C_region ?_
    refine V_y (Y_move rfl) rfl rfl rfl ?_
    refine V_y (Y_lenSl h_l rfl Tryd.underlying23 rfl) rfl rfl rfl ?_
    refine V_y (Y_move rfl) rfl rfl rfl ?_
    refine V_to (fun _ _ => rfl) ?_
    have hn27 := Sl.le h_l
    obtain ⟨o6, ho6, hm⟩ := Option.bind_eq_some_iff.1 hm
    refine C_cutG (ι := (Unit × (Nat → Prop))) (fun ⟨s7, A13⟩ => []) (fun ⟨s7, A13⟩ => fun w' => o6 = .fin s7 ∧ Hp w.heap.size A13 w' ([]) ∧ Tr w.heap.size A w A13 w') ?_ ?_
    · refine C_block ?_
      refine C_range ho6 (fun k9 _ a w' => ∃ i : (Nat → Prop), Has ⟨62, [], none⟩ a ([(0, v_people), (1, v_l), (10, v_l), (11, .int .i64 (l.length : Int)), (12, .int .i64 (k9 : Int))]) ∧ Hp w.heap.size i w' ([]) ∧ Tr w.heap.size A w i w') (fun a ha => ⟨A, ha.sub ⟨rfl, rfl, rfl, rfl, rfl, trivial⟩, ⟨hH, Tr.refl hA⟩⟩) ?_
      rintro K k9 _ a w17 ⟨A18, ha75, hH19, hr8⟩ hle23 K26 h25
      refine C_of ?_ ha75
      replace h_people := Sl.tr h_people hr8
      replace h_l := Sl.tr h_l hr8
      replace hK := Tr.trans hK hr8
      replace hB := Nat.le_trans hB hr8.ex.size
      replace hA := hr8.new
      replace hH : Hp w.heap.size A18 w17 ([]) := hH19
      refine C_seq (C_region (V_y (Y_lss rfl rfl) rfl rfl rfl (V_to (fun _ _ => rfl) ?_)))
      refine C_seq ?_
      refine C_cond rfl (fun hc28 => ?_) (fun hc28 => ?_)
      · have hlt24 := lt_of_dec hc28
        obtain ⟨x20, h21, h22⟩ := K26 hlt24
        refine C_skip_to (fun _ _ => rfl) ?_
        refine C_seq ?_
        refine C_block ?_
        refine C_seq ?_
        refine C_region ?_
        refine V_y (Y_move rfl) rfl rfl rfl ?_
        obtain ⟨x29, hx29, h21⟩ := Option.bind_eq_some_iff.1 h21
        refine V_indexAddr h_l hx29 Tryd.underlying23 Tryd.sizeOf62 rfl rfl rfl ?_
        intro b30 o31 h32
        obtain ⟨h33, _⟩ := El_route_Held h32
        refine V_y (Y_loadA h33 Tryd.isAgg62 Tryd.sizeOf62 rfl) rfl rfl rfl ?_
        refine V_alloc Tryd.zeroValue62 rfl ?_
        intro b34 w35 h36
        refine V_y (Y_assign rfl) rfl rfl rfl ?_
        refine V_storeNew h36 Tryd.sizeOf62 rfl rfl rfl rfl (by exact (List.forall_mem_cons.2 ⟨rfl, (List.forall_mem_cons.2 ⟨rfl, (List.forall_mem_cons.2 ⟨rfl, (List.forall_mem_cons.2 ⟨rfl, (fun _ h => nomatch h)⟩)⟩)⟩)⟩)) ?_
        intro w37 h38
        have hk40 := h38.kp
        have h39 : El (α := route_Held) A18 w37 b34 0 x29 := h38.el hA ⟨[.int .i64 x29.ticket], _, rfl, rfl, ⟨[.int .i64 x29.person], _, rfl, rfl, ⟨[.int .i64 x29.weight], _, rfl, rfl, rfl⟩⟩⟩
        have ht41 := Kp.tr hk40 hA hB
        replace hH := Hp.kp hH hk40
        replace h_people := Sl.tr h_people ht41
        replace h_l := Sl.tr h_l ht41
        replace h32 := El.tr h32 ht41
        replace hK := Tr.trans hK ht41
        replace hr8 := Tr.trans hr8 ht41
        replace hB := Nat.le_trans hB ht41.ex.size
        replace hA := ht41.new
        refine V_to (fun _ _ => rfl) ?_
        refine C_block ?_
        refine C_seq ?_
        refine C_region ?_
        have h42 := El_route_Held_0 h39
        refine V_y (Y_fieldAddr Tryd.underlying62 rfl Tryd.sizeOf3 (by decide) rfl) rfl rfl rfl ?_
        refine V_y (Y_load (El.int h42) Tryd.isAgg3 rfl) rfl rfl rfl ?_
        refine V_y (Y_lss rfl rfl) rfl rfl rfl ?_
        refine V_y (Y_move rfl) rfl rfl rfl ?_
        refine V_cut 4 (fun _ : Unit => [(0, v_people), (1, v_l), (5, .int .i64 (k9 : Int)), (6, .pointer (some ⟨b34, 0, none⟩)), (10, v_l), (11, .int .i64 (l.length : Int)), (12, .int .i64 (k9 : Int)), (25, .bool ((decide (x29.ticket < 1)) || (decide ((400 : Int) < x29.ticket))))]) (fun _ w' => w37 = w') ?_ ?_
        · simp only [List.take, List.drop]
          rcases Bool.eq_false_or_eq_true (decide (x29.ticket < 1)) with hc43 | hc43
          · refine V_gn rfl rfl rfl hc43 rfl rfl rfl ?_
            refine V_gn rfl rfl rfl hc43 rfl rfl rfl ?_
            refine V_gn rfl rfl rfl hc43 rfl rfl rfl ?_
            refine V_y (Y_pick_te rfl hc43 rfl) rfl rfl rfl ?_
            exact V_end fun a ha => ⟨(), ha.sub ⟨rfl, rfl, rfl, rfl, rfl, rfl, rfl, (by rw [hc43]; rfl), trivial⟩, rfl⟩
          · refine V_ge rfl rfl rfl hc43 ?_
            have h45 := El_route_Held_0 h39
            refine V_y (Y_fieldAddr Tryd.underlying62 rfl Tryd.sizeOf3 (by decide) rfl) rfl rfl rfl ?_
            refine V_ge rfl rfl rfl hc43 ?_
            refine V_y (Y_load (El.int h45) Tryd.isAgg3 rfl) rfl rfl rfl ?_
            refine V_ge rfl rfl rfl hc43 ?_
            refine V_y (Y_gtr rfl rfl) rfl rfl rfl ?_
            refine V_y (Y_pick_fe rfl hc43 rfl) rfl rfl rfl ?_
            exact V_end fun a ha => ⟨(), ha.sub ⟨rfl, rfl, rfl, rfl, rfl, rfl, rfl, (by rw [hc43]; rfl), trivial⟩, rfl⟩
        simp only [List.take, List.drop]
        rintro _ _ rfl
        refine V_y (Y_assign rfl) rfl rfl rfl ?_
        refine V_to (fun _ _ => rfl) ?_
        refine C_cond rfl (fun hc46 => ?_) (fun hc46 => ?_)
        · rw [if_pos hc46] at h21
          refine C_seq ?_
          refine C_region ?_
          refine V_y (Y_assign rfl) rfl rfl rfl ?_
          refine V_to (fun _ _ => rfl) ?_
          obtain rfl := Option.some.inj h21
          obtain rfl := (h22 : Lp.rt _ = _)
          rw [Lp.andThen_rt] at hm
          obtain rfl := Option.some.inj hm
          refine C_ret ?_
          try simp only [↓inBlock_ret, ↓then_ret]
          exact retQ rfl (Res.one Tryd.results24 rfl) ⟨rfl, hK.kp⟩
        · rw [if_neg (nt hc46)] at h21
          refine C_seq ?_
          refine C_region_q Tryd_mixed (by kernel_rfl) ?_
          refine VQ_y (fun w' hw' => Y_move rfl) rfl rfl rfl ?_
          refine VQ_y (fun w' hw' => Y_gtr rfl rfl) rfl rfl rfl ?_
          refine VQ_y (fun w' hw' => Y_move rfl) rfl rfl rfl ?_
          obtain ⟨s48, hs48, h21⟩ := Option.bind_eq_some_iff.1 h21
          refine VQ_cut 10 (fun _ : Unit => [(0, v_people), (1, v_l), (6, .pointer (some ⟨b34, 0, none⟩)), (10, v_l), (11, .int .i64 (l.length : Int)), (12, .int .i64 (k9 : Int)), (39, .bool s48)]) (fun _ => True) ?_ ?_
          · simp only [List.take, List.drop]
            rcases Bool.eq_false_or_eq_true (decide ((0 : Int) < (k9 : Int))) with hc47 | hc47
            · rw [if_pos hc47] at hs48
              refine VQ_ge rfl rfl rfl hc47 ?_
              have h49 := El_route_Held_0 h39
              refine VQ_y (fun w' hw' => Y_fieldAddr Tryd.underlying62 rfl Tryd.sizeOf3 (by decide) rfl) rfl rfl rfl ?_
              refine VQ_ge rfl rfl rfl hc47 ?_
              refine VQ_y (fun w' hw' => Y_load (El.int (El.kp h49 hw')) Tryd.isAgg3 rfl) rfl rfl rfl ?_
              refine VQ_ge rfl rfl rfl hc47 ?_
              refine VQ_y (fun w' hw' => Y_move rfl) rfl rfl rfl ?_
              refine VQ_ge rfl rfl rfl hc47 ?_
              refine VQ_y (fun w' hw' => Y_move rfl) rfl rfl rfl ?_
              refine VQ_ge rfl rfl rfl hc47 ?_
              refine VQ_y (fun w' hw' => Y_subI rfl rfl) rfl rfl rfl ?_
              refine VQ_ge rfl rfl rfl hc47 ?_
              obtain ⟨x50, hx50, hs48⟩ := Option.bind_eq_some_iff.1 hs48
              refine VQ_indexAddr h_l hx50 Tryd.underlying23 Tryd.sizeOf62 rfl rfl rfl ?_
              intro b51 o52 h53
              refine VQ_ge rfl rfl rfl hc47 ?_
              have h54 := El_route_Held_0 h53
              refine VQ_y (fun w' hw' => Y_fieldAddr Tryd.underlying62 rfl Tryd.sizeOf3 (by decide) rfl) rfl rfl rfl ?_
              refine VQ_ge rfl rfl rfl hc47 ?_
              refine VQ_y (fun w' hw' => Y_load (El.int (El.kp h54 hw')) Tryd.isAgg3 rfl) rfl rfl rfl ?_
              refine VQ_ge rfl rfl rfl hc47 ?_
              refine VQ_y (fun w' hw' => Y_leq rfl rfl) rfl rfl rfl ?_
              refine VQ_y (fun _ _ => Y_pick_te rfl hc47 rfl) rfl rfl rfl ?_
              obtain rfl := Option.some.inj hs48
              exact VQ_end fun a ha => ⟨(), ha.sub ⟨rfl, rfl, rfl, rfl, rfl, rfl, rfl, trivial⟩, trivial⟩
            · rw [if_neg (nt hc47)] at hs48
              refine VQ_gn rfl rfl rfl hc47 rfl rfl rfl ?_
              refine VQ_gn rfl rfl rfl hc47 rfl rfl rfl ?_
              refine VQ_gn rfl rfl rfl hc47 rfl rfl rfl ?_
              refine VQ_gn rfl rfl rfl hc47 rfl rfl rfl ?_
              refine VQ_gn rfl rfl rfl hc47 rfl rfl rfl ?_
              refine VQ_gn rfl rfl rfl hc47 rfl rfl rfl ?_
              refine VQ_gn rfl rfl rfl hc47 rfl rfl rfl ?_
              refine VQ_gn rfl rfl rfl hc47 rfl rfl rfl ?_
              refine VQ_gn rfl rfl rfl hc47 rfl rfl rfl ?_
              refine VQ_y (fun _ _ => Y_pick_fe rfl hc47 rfl) rfl rfl rfl ?_
              obtain rfl := Option.some.inj hs48
              exact VQ_end fun a ha => ⟨(), ha.sub ⟨rfl, rfl, rfl, rfl, rfl, rfl, rfl, trivial⟩, trivial⟩
          simp only [List.take, List.drop]
          rintro _ _
          refine VQ_y (fun w' hw' => Y_assign rfl) rfl rfl rfl ?_
          refine VQ_to (fun _ _ => rfl) (fun w55 hk56 => ?_)
          have ht57 := Kp.tr hk56 hA hB
          replace hH := Hp.kp hH hk56
          replace h_people := Sl.tr h_people ht57
          replace h_l := Sl.tr h_l ht57
          replace h39 := El.tr h39 ht57
          replace hK := Tr.trans hK ht57
          replace hr8 := Tr.trans hr8 ht57
          replace hB := Nat.le_trans hB ht57.ex.size
          replace hA := ht57.new
          refine C_cond rfl (fun hc58 => ?_) (fun hc58 => ?_)
          · rw [if_pos hc58] at h21
            refine C_seq ?_
            refine C_region ?_
            refine V_y (Y_assign rfl) rfl rfl rfl ?_
            refine V_to (fun _ _ => rfl) ?_
            obtain rfl := Option.some.inj h21
            obtain rfl := (h22 : Lp.rt _ = _)
            rw [Lp.andThen_rt] at hm
            obtain rfl := Option.some.inj hm
            refine C_ret ?_
            try simp only [↓inBlock_ret, ↓then_ret]
            exact retQ rfl (Res.one Tryd.results24 rfl) ⟨rfl, hK.kp⟩
          · rw [if_neg (nt hc58)] at h21
            refine C_seq ?_
            refine C_region ?_
            refine V_y (Y_move rfl) rfl rfl rfl ?_
            have h59 := El_route_Held_1 h39
            refine V_y (Y_fieldAddr Tryd.underlying62 rfl Tryd.sizeOf3 (by decide) rfl) rfl rfl rfl ?_
            refine V_y (Y_load (El.int h59) Tryd.isAgg3 rfl) rfl rfl rfl ?_
            obtain ⟨x60, hx60, h21⟩ := Option.bind_eq_some_iff.1 h21
            refine V_call Tryd.call40 rfl rfl rfl rfl (portref2_personAt_c w55 hA people v_people h_people x29.person hx60) ?_
            rintro _ w61 ⟨rfl, hk62⟩
            have ht63 := Kp.tr hk62 hA hB
            replace hH := Hp.kp hH hk62
            replace h_people := Sl.tr h_people ht63
            replace h_l := Sl.tr h_l ht63
            replace h39 := El.tr h39 ht63
            replace h59 := El.tr h59 ht63
            replace hK := Tr.trans hK ht63
            replace hr8 := Tr.trans hr8 ht63
            replace hB := Nat.le_trans hB ht63.ex.size
            replace hA := ht63.new
            refine V_y (Y_lss rfl rfl) rfl rfl rfl ?_
            refine V_y (Y_assign rfl) rfl rfl rfl ?_
            refine V_to (fun _ _ => rfl) ?_
            refine C_cond rfl (fun hc64 => ?_) (fun hc64 => ?_)
            · rw [if_pos hc64] at h21
              refine C_seq ?_
              refine C_region ?_
              refine V_y (Y_assign rfl) rfl rfl rfl ?_
              refine V_to (fun _ _ => rfl) ?_
              obtain rfl := Option.some.inj h21
              obtain rfl := (h22 : Lp.rt _ = _)
              rw [Lp.andThen_rt] at hm
              obtain rfl := Option.some.inj hm
              refine C_ret ?_
              try simp only [↓inBlock_ret, ↓then_ret]
              exact retQ rfl (Res.one Tryd.results24 rfl) ⟨rfl, hK.kp⟩
            · rw [if_neg (nt hc64)] at h21
              refine C_seq ?_
              refine C_region ?_
              have h65 := El_route_Held_2 h39
              refine V_y (Y_fieldAddr Tryd.underlying62 rfl Tryd.sizeOf3 (by decide) rfl) rfl rfl rfl ?_
              refine V_y (Y_load (El.int h65) Tryd.isAgg3 rfl) rfl rfl rfl ?_
              refine V_y (Y_lss rfl rfl) rfl rfl rfl ?_
              refine V_y (Y_move rfl) rfl rfl rfl ?_
              refine V_cut 4 (fun _ : Unit => [(0, v_people), (1, v_l), (6, .pointer (some ⟨b34, 0, none⟩)), (10, v_l), (11, .int .i64 (l.length : Int)), (12, .int .i64 (k9 : Int)), (54, .bool ((decide (x29.weight < 1)) || (decide ((20 : Int) < x29.weight))))]) (fun _ w' => w61 = w') ?_ ?_
              · simp only [List.take, List.drop]
                rcases Bool.eq_false_or_eq_true (decide (x29.weight < 1)) with hc66 | hc66
                · refine V_gn rfl rfl rfl hc66 rfl rfl rfl ?_
                  refine V_gn rfl rfl rfl hc66 rfl rfl rfl ?_
                  refine V_gn rfl rfl rfl hc66 rfl rfl rfl ?_
                  refine V_y (Y_pick_te rfl hc66 rfl) rfl rfl rfl ?_
                  exact V_end fun a ha => ⟨(), ha.sub ⟨rfl, rfl, rfl, rfl, rfl, rfl, (by rw [hc66]; rfl), trivial⟩, rfl⟩
                · refine V_ge rfl rfl rfl hc66 ?_
                  have h68 := El_route_Held_2 h39
                  refine V_y (Y_fieldAddr Tryd.underlying62 rfl Tryd.sizeOf3 (by decide) rfl) rfl rfl rfl ?_
                  refine V_ge rfl rfl rfl hc66 ?_
                  refine V_y (Y_load (El.int h68) Tryd.isAgg3 rfl) rfl rfl rfl ?_
                  refine V_ge rfl rfl rfl hc66 ?_
                  refine V_y (Y_gtr rfl rfl) rfl rfl rfl ?_
                  refine V_y (Y_pick_fe rfl hc66 rfl) rfl rfl rfl ?_
                  exact V_end fun a ha => ⟨(), ha.sub ⟨rfl, rfl, rfl, rfl, rfl, rfl, (by rw [hc66]; rfl), trivial⟩, rfl⟩
              simp only [List.take, List.drop]
              rintro _ _ rfl
              refine V_y (Y_move rfl) rfl rfl rfl ?_
              refine V_cut 5 (fun _ : Unit => [(0, v_people), (1, v_l), (10, v_l), (11, .int .i64 (l.length : Int)), (12, .int .i64 (k9 : Int)), (60, .bool (((decide (x29.weight < 1)) || (decide ((20 : Int) < x29.weight))) || (!(portref2_IsMoment x29.since))))]) (fun _ w' => w61 = w') ?_ ?_
              · simp only [List.take, List.drop]
                rcases Bool.eq_false_or_eq_true (((decide (x29.weight < 1)) || (decide ((20 : Int) < x29.weight)))) with hc69 | hc69
                · refine V_gn rfl rfl rfl hc69 rfl rfl rfl ?_
                  refine V_gn rfl rfl rfl hc69 rfl rfl rfl ?_
                  refine V_gn rfl rfl rfl hc69 rfl rfl rfl ?_
                  refine V_gn rfl rfl rfl hc69 rfl rfl rfl ?_
                  refine V_y (Y_pick_te rfl hc69 rfl) rfl rfl rfl ?_
                  exact V_end fun a ha => ⟨(), ha.sub ⟨rfl, rfl, rfl, rfl, rfl, (by rw [hc69]; rfl), trivial⟩, rfl⟩
                · refine V_ge rfl rfl rfl hc69 ?_
                  have h71 := El_route_Held_3 h39
                  refine V_y (Y_fieldAddr Tryd.underlying62 rfl Tryd.sizeOf3 (by decide) rfl) rfl rfl rfl ?_
                  refine V_ge rfl rfl rfl hc69 ?_
                  refine V_y (Y_load (El.int h71) Tryd.isAgg3 rfl) rfl rfl rfl ?_
                  refine V_ge rfl rfl rfl hc69 ?_
                  refine V_call Tryd.call32 rfl rfl rfl rfl (portref2_IsMoment_c w61 x29.since) ?_
                  rintro _ _ ⟨rfl, rfl⟩
                  refine V_ge rfl rfl rfl hc69 ?_
                  refine V_y (Y_not rfl) rfl rfl rfl ?_
                  refine V_y (Y_pick_fe rfl hc69 rfl) rfl rfl rfl ?_
                  exact V_end fun a ha => ⟨(), ha.sub ⟨rfl, rfl, rfl, rfl, rfl, (by rw [hc69]; rfl), trivial⟩, rfl⟩
              simp only [List.take, List.drop]
              rintro _ _ rfl
              refine V_y (Y_assign rfl) rfl rfl rfl ?_
              refine V_to (fun _ _ => rfl) ?_
              refine C_cond rfl (fun hc72 => ?_) (fun hc72 => ?_)
              · rw [if_pos hc72] at h21
                refine C_seq ?_
                refine C_region ?_
                refine V_y (Y_assign rfl) rfl rfl rfl ?_
                refine V_to (fun _ _ => rfl) ?_
                obtain rfl := Option.some.inj h21
                obtain rfl := (h22 : Lp.rt _ = _)
                rw [Lp.andThen_rt] at hm
                obtain rfl := Option.some.inj hm
                refine C_ret ?_
                try simp only [↓inBlock_ret, ↓then_ret]
                exact retQ rfl (Res.one Tryd.results24 rfl) ⟨rfl, hK.kp⟩
              · rw [if_neg (nt hc72)] at h21
                refine C_skip_to (fun _ _ => rfl) ?_
                refine C_region ?_
                refine V_y (Y_addI rfl rfl) rfl rfl rfl ?_
                refine V_y (Y_move rfl) rfl rfl rfl ?_
                obtain rfl := Option.some.inj h21
                refine V_end (fun a ha73 => ?_)
                exact ⟨(), hlt24, h22, ⟨A18, ha73.sub ⟨rfl, rfl, rfl, rfl, (congrArg (fun z => some (Value.int .i64 z)) (w64_succ hlt24 hn27)), trivial⟩, ⟨hH, hr8⟩⟩⟩
      · refine C_exit (fun a ha74 => ?_)
        exact ⟨((), A18), ha74.sub trivial, ⟨(h25 (eq_of_dec hle23 hc28)).symm, hH, hr8⟩⟩
    rintro ⟨s7, A13⟩ w10 ⟨rfl, hH14, hk11⟩ a ha12
    rw [Lp.andThen_fin] at hm
    replace hK := Tr.trans hK hk11
    replace hB := Nat.le_trans hB hk11.ex.size
    replace hA := hk11.new
    replace hH : Hp w.heap.size A13 w10 ([]) := hH14
    refine C_at (n := ⟨62, [], none⟩) (fun _ _ => rfl) ?_ ha12
    refine C_seq ?_
    refine C_region ?_
    refine V_y (Y_assign rfl) rfl rfl rfl ?_
    refine V_to (fun _ _ => rfl) ?_
    obtain rfl := Option.some.inj hm
    refine C_ret ?_
    try simp only [↓inBlock_ret, ↓then_ret]
    exact retQ rfl (Res.one Tryd.results24 rfl) ⟨rfl, hK.kp⟩

set_option maxRecDepth 4000 in
set_option maxHeartbeats 4000000 in
theorem portref2_HeldFault_c (w : World) {A : Nat → Prop} (hA : ∀ b, w.heap.size ≤ b → A b) (people : (List route_Person)) (v_people : Value) (h_people : Sl A w v_people people) (l : (List route_Held)) (v_l : Value) (h_l : Sl A w v_l l) {r : Int} (hm : portref2_HeldFault people l = some r) : Ret Tryd.prog 11 #[v_people, v_l] w fun v w' => v = .int .i64 r ∧ Kp w w' := by
  unfold portref2_HeldFault at hm
  refine enter Tryd.func11 rfl Tryd.ntmps11 rfl ?_
  have hA0 := hA
  have hB := Nat.le_refl w.heap.size
  have hK : Tr w.heap.size A w A w := Tr.refl hA
  have hH : Hp w.heap.size A w [] := Hp.nil
  refine C_seq ?_
  refine C_region ?_
  refine V_y (Y_assign rfl) rfl rfl rfl ?_
  refine V_to (fun _ _ => rfl) ?_
  refine C_seq ?_
  refine C_seq ?_
  refine C_region ?_
  refine V_y (Y_move rfl) rfl rfl rfl ?_
  obtain ⟨x5, hx5, hm⟩ := Option.bind_eq_some_iff.1 hm
  refine V_call Tryd.call23 rfl rfl rfl rfl (portref2_PeopleFault_c w hA people v_people h_people hx5) ?_
  rintro _ w6 ⟨rfl, hk7⟩
  have ht8 := Kp.tr hk7 hA hB
  replace hH := Hp.kp hH hk7
  replace h_people := Sl.tr h_people ht8
  replace h_l := Sl.tr h_l ht8
  replace hK := Tr.trans hK ht8
  replace hB := Nat.le_trans hB ht8.ex.size
  replace hA := ht8.new
  refine V_y (Y_assign rfl) rfl rfl rfl ?_
  refine V_to (fun _ _ => rfl) ?_
  refine C_seq ?_
  refine C_region ?_
  refine V_y (Y_move rfl) rfl rfl rfl ?_
  refine V_y (Y_neq rfl rfl) rfl rfl rfl ?_
  refine V_to (fun _ _ => rfl) ?_
  refine C_cond rfl (fun hc9 => ?_) (fun hc9 => ?_)
  · rw [if_pos hc9] at hm
    refine C_seq ?_
    refine C_region ?_
    refine V_y (Y_move rfl) rfl rfl rfl ?_
    refine V_y (Y_assign rfl) rfl rfl rfl ?_
    refine V_to (fun _ _ => rfl) ?_
    obtain rfl := Option.some.inj hm
    refine C_ret ?_
    try simp only [↓inBlock_ret, ↓then_ret]
    exact retQ rfl (Res.one Tryd.results11 rfl) ⟨rfl, hK.kp⟩
  · rw [if_neg (nt hc9)] at hm
    refine C_skip_to (fun _ _ => rfl) ?_
    refine C_seq ?_
    refine C_region ?_
    refine V_y (Y_move rfl) rfl rfl rfl ?_
    refine V_y (Y_move rfl) rfl rfl rfl ?_
    obtain ⟨x10, hx10, hm⟩ := Option.bind_eq_some_iff.1 hm
    refine V_call Tryd.call24 rfl rfl rfl rfl (portref2_heldAlone_c w6 hA people v_people h_people l v_l h_l hx10) ?_
    rintro _ w11 ⟨rfl, hk12⟩
    have ht13 := Kp.tr hk12 hA hB
    replace hH := Hp.kp hH hk12
    replace h_people := Sl.tr h_people ht13
    replace h_l := Sl.tr h_l ht13
    replace hK := Tr.trans hK ht13
    replace hB := Nat.le_trans hB ht13.ex.size
    replace hA := ht13.new
    refine V_y (Y_assign rfl) rfl rfl rfl ?_
    refine V_to (fun _ _ => rfl) ?_
    obtain rfl := Option.some.inj hm
    refine C_ret ?_
    try simp only [↓inBlock_ret, ↓then_ret]
    exact retQ rfl (Res.one Tryd.results11 rfl) ⟨rfl, hK.kp⟩

set_option maxRecDepth 4000 in
set_option maxHeartbeats 4000000 in
theorem portref2_weightOf_c (w : World) {A : Nat → Prop} (hA : ∀ b, w.heap.size ≤ b → A b) (held : (List route_Held)) (v_held : Value) (h_held : Sl A w v_held held) (no : Int) {r : (Int × Int)} (hm : portref2_weightOf held no = some r) : Ret Tryd.prog 18 #[v_held, .int .i64 no] w fun v w' => v = .tuple #[.int .i64 r.1, .int .i64 r.2] ∧ Kp w w' := by
  unfold portref2_weightOf at hm
  refine enter Tryd.func18 rfl Tryd.ntmps18 rfl ?_
  have hA0 := hA
  have hB := Nat.le_refl w.heap.size
  have hK : Tr w.heap.size A w A w := Tr.refl hA
  have hH : Hp w.heap.size A w [] := Hp.nil
  refine C_seq ?_
  refine C_region ?_
  refine V_y (Y_assign rfl) rfl rfl rfl ?_
  refine V_y (Y_assign rfl) rfl rfl rfl ?_
  refine V_to (fun _ _ => rfl) ?_
  refine C_seq ?_
  refine C_region ?_
  refine V_y (Y_assign rfl) rfl rfl rfl ?_
  refine V_to (fun _ _ => rfl) ?_
  refine C_seq ?_
  refine C_seq ?_
  refine C_region ?_
  refine V_y (Y_move rfl) rfl rfl rfl ?_
  refine V_y (Y_lenSl h_held rfl Tryd.underlying23 rfl) rfl rfl rfl ?_
  refine V_y (Y_move rfl) rfl rfl rfl ?_
  refine V_to (fun _ _ => rfl) ?_
  have hn23 := Sl.le h_held
  obtain ⟨o3, ho3, hm⟩ := Option.bind_eq_some_iff.1 hm
  refine C_cutG (ι := ((Int × Int) × (Nat → Prop))) (fun ⟨s4, A10⟩ => [(4, .int .i64 s4.1), (5, .int .i64 s4.2)]) (fun ⟨s4, A10⟩ => fun w' => o3 = .fin s4 ∧ Hp w.heap.size A10 w' ([]) ∧ Tr w.heap.size A w A10 w') ?_ ?_
  · refine C_block ?_
    refine C_range ho3 (fun k6 s12 a w' => ∃ i : (Nat → Prop), Has ⟨29, [], none⟩ a ([(1, .int .i64 no), (4, .int .i64 s12.1), (5, .int .i64 s12.2), (8, v_held), (9, .int .i64 (held.length : Int)), (10, .int .i64 (k6 : Int))]) ∧ Hp w.heap.size i w' ([]) ∧ Tr w.heap.size A w i w') (fun a ha => ⟨A, ha.sub ⟨rfl, rfl, rfl, rfl, rfl, rfl, trivial⟩, ⟨hH, Tr.refl hA⟩⟩) ?_
    rintro K k6 s12 a w13 ⟨A14, ha66, hH15, hr5⟩ hle19 K22 h21
    refine C_of ?_ ha66
    replace h_held := Sl.tr h_held hr5
    replace hK := Tr.trans hK hr5
    replace hB := Nat.le_trans hB hr5.ex.size
    replace hA := hr5.new
    replace hH : Hp w.heap.size A14 w13 ([]) := hH15
    refine C_seq (C_region (V_y (Y_lss rfl rfl) rfl rfl rfl (V_to (fun _ _ => rfl) ?_)))
    refine C_seq ?_
    refine C_cond rfl (fun hc24 => ?_) (fun hc24 => ?_)
    · have hlt20 := lt_of_dec hc24
      obtain ⟨x16, h17, h18⟩ := K22 hlt20
      refine C_skip_to (fun _ _ => rfl) ?_
      refine C_seq ?_
      obtain ⟨s26, ho25, h17⟩ := Option.bind_eq_some_iff.1 h17
      refine C_cutG (ι := (Nat → Prop)) (fun (A31 : (Nat → Prop)) => [(1, .int .i64 no), (4, .int .i64 s26.1), (5, .int .i64 s26.2), (8, v_held), (9, .int .i64 (held.length : Int)), (10, .int .i64 (k6 : Int))]) (fun (A31 : (Nat → Prop)) => fun w' => Hp w.heap.size A31 w' ([]) ∧ Tr w.heap.size A14 w13 A31 w') ?_ ?_
      · have hr27 : Tr w.heap.size A14 w13 A14 w13 := Tr.refl hA
        refine C_block ?_
        refine C_seq ?_
        refine C_region ?_
        obtain ⟨x33, hx33, ho25⟩ := Option.bind_eq_some_iff.1 ho25
        refine V_indexAddr h_held hx33 Tryd.underlying23 Tryd.sizeOf62 rfl rfl rfl ?_
        intro b34 o35 h36
        obtain ⟨h37, _⟩ := El_route_Held h36
        refine V_y (Y_loadA h37 Tryd.isAgg62 Tryd.sizeOf62 rfl) rfl rfl rfl ?_
        refine V_alloc Tryd.zeroValue62 rfl ?_
        intro b38 w39 h40
        refine V_storeNew h40 Tryd.sizeOf62 rfl rfl rfl rfl (by exact (List.forall_mem_cons.2 ⟨rfl, (List.forall_mem_cons.2 ⟨rfl, (List.forall_mem_cons.2 ⟨rfl, (List.forall_mem_cons.2 ⟨rfl, (fun _ h => nomatch h)⟩)⟩)⟩)⟩)) ?_
        intro w41 h42
        have hk44 := h42.kp
        have h43 : El (α := route_Held) A14 w41 b38 0 x33 := h42.el hA ⟨[.int .i64 x33.ticket], _, rfl, rfl, ⟨[.int .i64 x33.person], _, rfl, rfl, ⟨[.int .i64 x33.weight], _, rfl, rfl, rfl⟩⟩⟩
        have ht45 := Kp.tr hk44 hA hB
        replace hH := Hp.kp hH hk44
        replace h_held := Sl.tr h_held ht45
        replace h36 := El.tr h36 ht45
        replace hK := Tr.trans hK ht45
        replace hr5 := Tr.trans hr5 ht45
        replace hr27 := Tr.trans hr27 ht45
        replace hB := Nat.le_trans hB ht45.ex.size
        replace hA := ht45.new
        refine V_to (fun _ _ => rfl) ?_
        refine C_seq ?_
        refine C_region ?_
        have h46 := El_route_Held_1 h43
        refine V_y (Y_fieldAddr Tryd.underlying62 rfl Tryd.sizeOf3 (by decide) rfl) rfl rfl rfl ?_
        refine V_y (Y_load (El.int h46) Tryd.isAgg3 rfl) rfl rfl rfl ?_
        refine V_y (Y_move rfl) rfl rfl rfl ?_
        refine V_y (Y_eql rfl rfl) rfl rfl rfl ?_
        refine V_to (fun _ _ => rfl) ?_
        obtain ⟨s48, ho47, ho25⟩ := Option.bind_eq_some_iff.1 ho25
        refine C_cutG (ι := (Nat → Prop)) (fun (A53 : (Nat → Prop)) => [(1, .int .i64 no), (4, .int .i64 s48.1), (5, .int .i64 s48.2), (8, v_held), (9, .int .i64 (held.length : Int)), (10, .int .i64 (k6 : Int))]) (fun (A53 : (Nat → Prop)) => fun w' => Hp w.heap.size A53 w' ([]) ∧ Tr w.heap.size A14 w41 A53 w') ?_ ?_
        · have hr49 : Tr w.heap.size A14 w41 A14 w41 := Tr.refl hA
          refine C_cond rfl (fun hc55 => ?_) (fun hc55 => ?_)
          · rw [if_pos hc55] at ho47
            refine C_region_q Tryd_mixed (by kernel_rfl) ?_
            refine VQ_y (fun w' hw' => Y_move rfl) rfl rfl rfl ?_
            have h56 := El_route_Held_2 h43
            refine VQ_y (fun w' hw' => Y_fieldAddr Tryd.underlying62 rfl Tryd.sizeOf3 (by decide) rfl) rfl rfl rfl ?_
            refine VQ_y (fun w' hw' => Y_load (El.int (El.kp h56 hw')) Tryd.isAgg3 rfl) rfl rfl rfl ?_
            refine VQ_y (fun w' hw' => Y_addI rfl rfl) rfl rfl rfl ?_
            refine VQ_y (fun w' hw' => Y_move rfl) rfl rfl rfl ?_
            have h57 := El_route_Held_3 h43
            refine VQ_y (fun w' hw' => Y_fieldAddr Tryd.underlying62 rfl Tryd.sizeOf3 (by decide) rfl) rfl rfl rfl ?_
            refine VQ_y (fun w' hw' => Y_load (El.int (El.kp h57 hw')) Tryd.isAgg3 rfl) rfl rfl rfl ?_
            refine VQ_y (fun w' hw' => Y_max2 rfl rfl) rfl rfl rfl ?_
            refine VQ_y (fun w' hw' => Y_assign rfl) rfl rfl rfl ?_
            refine VQ_y (fun w' hw' => Y_assign rfl) rfl rfl rfl ?_
            obtain rfl := Option.some.inj ho47
            refine VQ_end (fun a ha58 w59 hk60 => ?_)
            have ht61 := Kp.tr hk60 hA hB
            replace hH := Hp.kp hH hk60
            replace h_held := Sl.tr h_held ht61
            replace h43 := El.tr h43 ht61
            replace h56 := El.tr h56 ht61
            replace h57 := El.tr h57 ht61
            replace hK := Tr.trans hK ht61
            replace hr5 := Tr.trans hr5 ht61
            replace hr27 := Tr.trans hr27 ht61
            replace hr49 := Tr.trans hr49 ht61
            replace hB := Nat.le_trans hB ht61.ex.size
            replace hA := ht61.new
            exact ⟨A14, ha58.sub ⟨rfl, rfl, rfl, rfl, rfl, rfl, trivial⟩, ⟨hH, hr49⟩⟩
          · rw [if_neg (nt hc55)] at ho47
            obtain rfl := Option.some.inj ho47
            refine C_skip (fun a ha62 => ?_)
            exact ⟨A14, ha62.sub ⟨rfl, rfl, rfl, rfl, rfl, rfl, trivial⟩, ⟨hH, hr49⟩⟩
        rintro A53 w50 ⟨hH54, hk51⟩ a ha52
        replace h_held := Sl.tr h_held hk51
        replace hK := Tr.trans hK hk51
        replace hr5 := Tr.trans hr5 hk51
        replace hr27 := Tr.trans hr27 hk51
        replace hB := Nat.le_trans hB hk51.ex.size
        replace hA := hk51.new
        replace hH : Hp w.heap.size A53 w50 ([]) := hH54
        obtain rfl := Option.some.inj ho25
        exact ⟨A53, ha52.sub ⟨rfl, rfl, rfl, rfl, rfl, rfl, trivial⟩, ⟨hH, hr27⟩⟩
      rintro A31 w28 ⟨hH32, hk29⟩ a ha30
      replace h_held := Sl.tr h_held hk29
      replace hK := Tr.trans hK hk29
      replace hr5 := Tr.trans hr5 hk29
      replace hB := Nat.le_trans hB hk29.ex.size
      replace hA := hk29.new
      replace hH : Hp w.heap.size A31 w28 ([]) := hH32
      refine C_at (n := ⟨29, [], none⟩) (fun _ _ => rfl) ?_ ha30
      refine C_region ?_
      refine V_y (Y_addI rfl rfl) rfl rfl rfl ?_
      refine V_y (Y_move rfl) rfl rfl rfl ?_
      obtain rfl := Option.some.inj h17
      refine V_end (fun a ha64 => ?_)
      exact ⟨(s26.1, s26.2), hlt20, h18, ⟨A31, ha64.sub ⟨rfl, rfl, rfl, rfl, rfl, (congrArg (fun z => some (Value.int .i64 z)) (w64_succ hlt20 hn23)), trivial⟩, ⟨hH, hr5⟩⟩⟩
    · refine C_exit (fun a ha65 => ?_)
      exact ⟨((s12.1, s12.2), A14), ha65.sub ⟨rfl, rfl, trivial⟩, ⟨(h21 (eq_of_dec hle19 hc24)).symm, hH, hr5⟩⟩
  rintro ⟨s4, A10⟩ w7 ⟨rfl, hH11, hk8⟩ a ha9
  rw [Lp.andThen_fin] at hm
  replace hK := Tr.trans hK hk8
  replace hB := Nat.le_trans hB hk8.ex.size
  replace hA := hk8.new
  replace hH : Hp w.heap.size A10 w7 ([]) := hH11
  refine C_at (n := ⟨29, [], none⟩) (fun _ _ => rfl) ?_ ha9
  refine C_seq ?_
  refine C_region ?_
  refine V_y (Y_move rfl) rfl rfl rfl ?_
  refine V_y (Y_move rfl) rfl rfl rfl ?_
  refine V_y (Y_assign rfl) rfl rfl rfl ?_
  refine V_y (Y_assign rfl) rfl rfl rfl ?_
  refine V_to (fun _ _ => rfl) ?_
  obtain rfl := Option.some.inj hm
  refine C_ret ?_
  try simp only [↓inBlock_ret, ↓then_ret]
  exact retQ rfl (Res.two Tryd.results18 rfl rfl) ⟨rfl, hK.kp⟩

set_option maxRecDepth 4000 in
set_option maxHeartbeats 4000000 in
theorem portref2_RoomOf_c (w : World) {A : Nat → Prop} (hA : ∀ b, w.heap.size ≤ b → A b) (people : (List route_Person)) (v_people : Value) (h_people : Sl A w v_people people) (held : (List route_Held)) (v_held : Value) (h_held : Sl A w v_held held) {r : ((List Int) × Int)} (hm : portref2_RoomOf people held = some r) : Ret Tryd.prog 6 #[v_people, v_held] w fun v w' => ∃ s0, v = .tuple #[s0, .int .i64 r.2] ∧ Ownd 3 w w' s0 r.1 ∧ Kp w w' := by
  unfold portref2_RoomOf at hm
  refine enter Tryd.func6 rfl Tryd.ntmps6 rfl ?_
  have hA0 := hA
  have hB := Nat.le_refl w.heap.size
  have hK : Tr w.heap.size A w A w := Tr.refl hA
  have hH : Hp w.heap.size A w [] := Hp.nil
  refine C_seq ?_
  refine C_region ?_
  refine V_y (Y_assign rfl) rfl rfl rfl ?_
  refine V_y (Y_assign rfl) rfl rfl rfl ?_
  refine V_to (fun _ _ => rfl) ?_
  refine C_seq ?_
  refine C_seq ?_
  refine C_region ?_
  refine V_y (Y_move rfl) rfl rfl rfl ?_
  refine V_y (Y_move rfl) rfl rfl rfl ?_
  obtain ⟨x5, hx5, hm⟩ := Option.bind_eq_some_iff.1 hm
  refine V_call Tryd.call11 rfl rfl rfl rfl (portref2_HeldFault_c w hA people v_people h_people held v_held h_held hx5) ?_
  rintro _ w6 ⟨rfl, hk7⟩
  have ht8 := Kp.tr hk7 hA hB
  replace hH := Hp.kp hH hk7
  replace h_people := Sl.tr h_people ht8
  replace h_held := Sl.tr h_held ht8
  replace hK := Tr.trans hK ht8
  replace hB := Nat.le_trans hB ht8.ex.size
  replace hA := ht8.new
  refine V_y (Y_assign rfl) rfl rfl rfl ?_
  refine V_to (fun _ _ => rfl) ?_
  refine C_seq ?_
  refine C_region ?_
  refine V_y (Y_move rfl) rfl rfl rfl ?_
  refine V_y (Y_neq rfl rfl) rfl rfl rfl ?_
  refine V_to (fun _ _ => rfl) ?_
  refine C_cond rfl (fun hc9 => ?_) (fun hc9 => ?_)
  · rw [if_pos hc9] at hm
    refine C_seq ?_
    refine C_region ?_
    refine V_y (Y_move rfl) rfl rfl rfl ?_
    refine V_y (Y_assign rfl) rfl rfl rfl ?_
    refine V_y (Y_assign rfl) rfl rfl rfl ?_
    refine V_to (fun _ _ => rfl) ?_
    obtain rfl := Option.some.inj hm
    replace hH : Hp w.heap.size A w6 (obS (α := Int) 3 (.slice none 0 0) ([] : (List Int)) :: []) := Hp.addNil (α := Int) (e := 3) hH
    refine C_ret ?_
    try simp only [↓inBlock_ret, ↓then_ret]
    exact retQ rfl (Res.two Tryd.results6 rfl rfl) ⟨.slice none 0 0, rfl, (Hp.ownd hH (i := 0) rfl), hK.kp⟩
  · rw [if_neg (nt hc9)] at hm
    refine C_skip_to (fun _ _ => rfl) ?_
    refine C_seq ?_
    refine C_region ?_
    refine V_y (Y_assign rfl) rfl rfl rfl ?_
    refine V_to (fun _ _ => rfl) ?_
    refine C_seq ?_
    refine C_seq ?_
    refine C_region ?_
    refine V_y (Y_move rfl) rfl rfl rfl ?_
    refine V_y (Y_lenSl h_people rfl Tryd.underlying22 rfl) rfl rfl rfl ?_
    refine V_y (Y_move rfl) rfl rfl rfl ?_
    refine V_to (fun _ _ => rfl) ?_
    replace hH : Hp w.heap.size A w6 (obS (α := Int) 3 (.slice none 0 0) ([] : (List Int)) :: []) := Hp.addNil (α := Int) (e := 3) hH
    have hn34 := Sl.le h_people
    obtain ⟨o10, ho10, hm⟩ := Option.bind_eq_some_iff.1 hm
    refine C_cutG (ι := ((List Int) × Value × (Nat → Prop))) (fun ⟨s11, v17, A19⟩ => [(7, v17)]) (fun ⟨s11, v17, A19⟩ => fun w' => o10 = .fin s11 ∧ Hp w.heap.size A19 w' (obS (α := Int) 3 v17 s11 :: []) ∧ Tr w.heap.size A w6 A19 w') ?_ ?_
    · refine C_block ?_
      refine C_range ho10 (fun k13 s21 a w' => ∃ i : (Value × (Nat → Prop)), Has ⟨40, [], none⟩ a ([(1, v_held), (7, i.1), (18, v_people), (19, .int .i64 (people.length : Int)), (20, .int .i64 (k13 : Int))]) ∧ Hp w.heap.size i.2 w' (obS (α := Int) 3 i.1 s21 :: []) ∧ Tr w.heap.size A w6 i.2 w') (fun a ha => ⟨(.slice none 0 0, A), ha.sub ⟨rfl, rfl, rfl, rfl, rfl, trivial⟩, ⟨hH, Tr.refl hA⟩⟩) ?_
      rintro K k13 s21 a w22 ⟨⟨v23, A25⟩, ha73, hH26, hr12⟩ hle30 K33 h32
      refine C_of ?_ ha73
      replace h_held := Sl.tr h_held hr12
      replace h_people := Sl.tr h_people hr12
      replace hK := Tr.trans hK hr12
      replace hB := Nat.le_trans hB hr12.ex.size
      replace hA := hr12.new
      replace hH : Hp w.heap.size A25 w22 (obS (α := Int) 3 v23 s21 :: []) := hH26
      refine C_seq (C_region (V_y (Y_lss rfl rfl) rfl rfl rfl (V_to (fun _ _ => rfl) ?_)))
      refine C_seq ?_
      refine C_cond rfl (fun hc35 => ?_) (fun hc35 => ?_)
      · have hlt31 := lt_of_dec hc35
        obtain ⟨x27, h28, h29⟩ := K33 hlt31
        refine C_skip_to (fun _ _ => rfl) ?_
        refine C_seq ?_
        refine C_block ?_
        refine C_seq ?_
        refine C_region ?_
        obtain ⟨x36, hx36, h28⟩ := Option.bind_eq_some_iff.1 h28
        refine V_indexAddr h_people hx36 Tryd.underlying22 Tryd.sizeOf46 rfl rfl rfl ?_
        intro b37 o38 h39
        obtain ⟨v40, h42, h41⟩ := El_route_Person h39
        refine V_y (Y_loadA h42 Tryd.isAgg46 Tryd.sizeOf46 rfl) rfl rfl rfl ?_
        refine V_alloc Tryd.zeroValue46 rfl ?_
        intro b43 w44 h45
        have h50 : (v40).oneCell' = true := by obtain ⟨_, _, e, _⟩ := Sl.form h41; rw [e]; rfl
        refine V_storeNew h45 Tryd.sizeOf46 rfl rfl rfl rfl (by exact (List.forall_mem_cons.2 ⟨rfl, (List.forall_mem_cons.2 ⟨rfl, (List.forall_mem_cons.2 ⟨rfl, (List.forall_mem_cons.2 ⟨h50, (fun _ h => nomatch h)⟩)⟩)⟩)⟩)) ?_
        intro w46 h47
        have hk52 := h47.kp
        have h51 : El (α := route_Person) A25 w46 b43 0 x36 := h47.el hA ⟨[.int .i64 x36.no], _, rfl, rfl, ⟨[.int .i64 x36.capacity], _, rfl, rfl, ⟨[.int .i64 x36.calendar], _, rfl, rfl, ⟨_, rfl, h41⟩⟩⟩⟩
        have ht53 := Kp.tr hk52 hA hB
        replace hH := Hp.kp hH hk52
        replace h_held := Sl.tr h_held ht53
        replace h_people := Sl.tr h_people ht53
        replace h39 := El.tr h39 ht53
        replace h41 := Sl.tr h41 ht53
        replace hK := Tr.trans hK ht53
        replace hr12 := Tr.trans hr12 ht53
        replace hB := Nat.le_trans hB ht53.ex.size
        replace hA := ht53.new
        refine V_to (fun _ _ => rfl) ?_
        refine C_seq ?_
        refine C_region ?_
        refine V_y (Y_move rfl) rfl rfl rfl ?_
        have h54 := El_route_Person_0 h51
        refine V_y (Y_fieldAddr Tryd.underlying46 rfl Tryd.sizeOf3 (by decide) rfl) rfl rfl rfl ?_
        refine V_y (Y_load (El.int h54) Tryd.isAgg3 rfl) rfl rfl rfl ?_
        obtain ⟨x55, hx55, h28⟩ := Option.bind_eq_some_iff.1 h28
        refine V_call Tryd.call18 rfl rfl rfl rfl (portref2_weightOf_c w46 hA held v_held h_held x36.no hx55) ?_
        rintro _ w56 ⟨rfl, hk57⟩
        have ht58 := Kp.tr hk57 hA hB
        replace hH := Hp.kp hH hk57
        replace h_held := Sl.tr h_held ht58
        replace h_people := Sl.tr h_people ht58
        replace h51 := El.tr h51 ht58
        replace h54 := El.tr h54 ht58
        replace hK := Tr.trans hK ht58
        replace hr12 := Tr.trans hr12 ht58
        replace hB := Nat.le_trans hB ht58.ex.size
        replace hA := ht58.new
        refine V_y (Y_move rfl) rfl rfl rfl ?_
        refine V_y (Y_extract rfl rfl) rfl rfl rfl ?_
        refine V_y (Y_extract rfl rfl) rfl rfl rfl ?_
        refine V_y (Y_assign rfl) rfl rfl rfl ?_
        refine V_y (Y_assign rfl) rfl rfl rfl ?_
        refine V_to (fun _ _ => rfl) ?_
        refine C_region ?_
        refine V_y (Y_move rfl) rfl rfl rfl ?_
        have h59 := El_route_Person_1 h51
        refine V_y (Y_fieldAddr Tryd.underlying46 rfl Tryd.sizeOf3 (by decide) rfl) rfl rfl rfl ?_
        refine V_y (Y_load (El.int h59) Tryd.isAgg3 rfl) rfl rfl rfl ?_
        refine V_y (Y_move rfl) rfl rfl rfl ?_
        refine V_y (Y_subI rfl rfl) rfl rfl rfl ?_
        refine V_buildSlice (l := ([w64 (x36.capacity - x55.1)] : List Int)) (len := 1) Tryd.underlying24 Tryd.sizeOf3 Tryd.zeroValue3 rfl (by with_unfolding_all rfl) (by decide) (by decide) hA ⟨[.int .i64 (w64 (x36.capacity - x55.1))], _, rfl, rfl, rfl⟩ rfl rfl ?_
        intro v60 w61 hk63 h62
        have ht64 := Kp.tr hk63 hA hB
        replace hH := Hp.kp hH hk63
        replace h_held := Sl.tr h_held ht64
        replace h_people := Sl.tr h_people ht64
        replace h51 := El.tr h51 ht64
        replace h59 := El.tr h59 ht64
        replace hK := Tr.trans hK ht64
        replace hr12 := Tr.trans hr12 ht64
        replace hB := Nat.le_trans hB ht64.ex.size
        replace hA := ht64.new
        obtain ⟨x65, hx65, h28⟩ := Option.bind_eq_some_iff.1 h28
        refine V_appendH (e := 3) (v := v23) (l := s21) (ti := Tryd.t3) (bytes := 8) (lim := 17592186044416) hH (i := 0) rfl h62 hx65 Tryd.underlying24 Tryd_info3 rfl rfl rfl rfl (by decide) (by decide) (by decide) hB hA rfl rfl rfl ?_
        intro v66 w67 A68 hH69 ht70
        replace h_held := Sl.tr h_held ht70
        replace h_people := Sl.tr h_people ht70
        replace h51 := El.tr h51 ht70
        replace h59 := El.tr h59 ht70
        replace h62 := Sl.tr h62 ht70
        replace hK := Tr.trans hK ht70
        replace hr12 := Tr.trans hr12 ht70
        replace hB := Nat.le_trans hB ht70.ex.size
        replace hA := ht70.new
        replace hH : Hp w.heap.size A68 w67 (obS (α := Int) 3 v66 x65 :: []) := hH69
        refine V_y (Y_assign rfl) rfl rfl rfl ?_
        refine V_to (fun _ _ => rfl) ?_
        refine C_region ?_
        refine V_y (Y_addI rfl rfl) rfl rfl rfl ?_
        refine V_y (Y_move rfl) rfl rfl rfl ?_
        obtain rfl := Option.some.inj h28
        refine V_end (fun a ha71 => ?_)
        exact ⟨x65, hlt31, h29, ⟨(v66, A68), ha71.sub ⟨rfl, rfl, rfl, rfl, (congrArg (fun z => some (Value.int .i64 z)) (w64_succ hlt31 hn34)), trivial⟩, ⟨hH, hr12⟩⟩⟩
      · refine C_exit (fun a ha72 => ?_)
        exact ⟨(s21, v23, A25), ha72.sub ⟨rfl, trivial⟩, ⟨(h32 (eq_of_dec hle30 hc35)).symm, hH, hr12⟩⟩
    rintro ⟨s11, v17, A19⟩ w14 ⟨rfl, hH20, hk15⟩ a ha16
    rw [Lp.andThen_fin] at hm
    replace hK := Tr.trans hK hk15
    replace hB := Nat.le_trans hB hk15.ex.size
    replace hA := hk15.new
    replace hH : Hp w.heap.size A19 w14 (obS (α := Int) 3 v17 s11 :: []) := hH20
    refine C_at (n := ⟨40, [], none⟩) (fun _ _ => rfl) ?_ ha16
    refine C_seq ?_
    refine C_region ?_
    refine V_y (Y_move rfl) rfl rfl rfl ?_
    refine V_y (Y_assign rfl) rfl rfl rfl ?_
    refine V_y (Y_assign rfl) rfl rfl rfl ?_
    refine V_to (fun _ _ => rfl) ?_
    obtain rfl := Option.some.inj hm
    refine C_ret ?_
    try simp only [↓inBlock_ret, ↓then_ret]
    exact retQ rfl (Res.two Tryd.results6 rfl rfl) ⟨v17, rfl, (Hp.ownd hH (i := 0) rfl), hK.kp⟩

set_option maxRecDepth 4000 in
set_option maxHeartbeats 4000000 in
theorem route_Spread_c (w : World) {A : Nat → Prop} (hA : ∀ b, w.heap.size ≤ b → A b) (people : (List route_Person)) (v_people : Value) (h_people : Sl A w v_people people) (held : (List route_Held)) (v_held : Value) (h_held : Sl A w v_held held) {r : (Int × Int × Int)} (hm : route_Spread people held = some r) : Ret Tryd.prog 7 #[v_people, v_held] w fun v w' => v = .tuple #[.int .i64 r.1, .int .i64 r.2.1, .int .i64 r.2.2] ∧ Kp w w' := by
  unfold route_Spread at hm
  refine enter Tryd.func7 rfl Tryd.ntmps7 rfl ?_
  have hA0 := hA
  have hB := Nat.le_refl w.heap.size
  have hK : Tr w.heap.size A w A w := Tr.refl hA
  have hH : Hp w.heap.size A w [] := Hp.nil
  refine C_seq ?_
  refine C_region ?_
  refine V_y (Y_assign rfl) rfl rfl rfl ?_
  refine V_y (Y_assign rfl) rfl rfl rfl ?_
  refine V_y (Y_assign rfl) rfl rfl rfl ?_
  refine V_to (fun _ _ => rfl) ?_
  refine C_seq ?_
  refine C_seq ?_
  refine C_region ?_
  refine V_y (Y_move rfl) rfl rfl rfl ?_
  refine V_y (Y_move rfl) rfl rfl rfl ?_
  obtain ⟨x5, hx5, hm⟩ := Option.bind_eq_some_iff.1 hm
  refine V_call Tryd.call10 rfl rfl rfl rfl (route_CheckHeld_c w hA people v_people h_people held v_held h_held hx5) ?_
  rintro _ w6 ⟨rfl, hk7⟩
  have ht8 := Kp.tr hk7 hA hB
  replace hH := Hp.kp hH hk7
  replace h_people := Sl.tr h_people ht8
  replace h_held := Sl.tr h_held ht8
  replace hK := Tr.trans hK ht8
  replace hB := Nat.le_trans hB ht8.ex.size
  replace hA := ht8.new
  refine V_y (Y_assign rfl) rfl rfl rfl ?_
  refine V_to (fun _ _ => rfl) ?_
  refine C_seq ?_
  refine C_region ?_
  refine V_y (Y_move rfl) rfl rfl rfl ?_
  refine V_y (Y_neq rfl rfl) rfl rfl rfl ?_
  refine V_to (fun _ _ => rfl) ?_
  refine C_cond rfl (fun hc9 => ?_) (fun hc9 => ?_)
  · rw [if_pos hc9] at hm
    refine C_seq ?_
    refine C_region ?_
    refine V_y (Y_move rfl) rfl rfl rfl ?_
    refine V_y (Y_assign rfl) rfl rfl rfl ?_
    refine V_y (Y_assign rfl) rfl rfl rfl ?_
    refine V_y (Y_assign rfl) rfl rfl rfl ?_
    refine V_to (fun _ _ => rfl) ?_
    obtain rfl := Option.some.inj hm
    refine C_ret ?_
    try simp only [↓inBlock_ret, ↓then_ret]
    exact retQ rfl (Res.three Tryd.results7 rfl rfl rfl) ⟨rfl, hK.kp⟩
  · rw [if_neg (nt hc9)] at hm
    refine C_skip_to (fun _ _ => rfl) ?_
    refine C_seq ?_
    refine C_region ?_
    refine V_y (Y_assign rfl) rfl rfl rfl ?_
    refine V_y (Y_assign rfl) rfl rfl rfl ?_
    refine V_to (fun _ _ => rfl) ?_
    refine C_seq ?_
    refine C_seq ?_
    refine C_region ?_
    refine V_y (Y_move rfl) rfl rfl rfl ?_
    refine V_y (Y_move rfl) rfl rfl rfl ?_
    obtain ⟨x10, hx10, hm⟩ := Option.bind_eq_some_iff.1 hm
    refine V_call Tryd.call17 rfl rfl rfl rfl (route_weights_c w6 hA people v_people h_people held v_held h_held hx10) ?_
    rintro v11 w13 ⟨_, rfl, h12, hk14⟩
    obtain ⟨A15, ht16, hH17⟩ := Hp.addOwnd hH hB hA hk14 h12
    replace h_people := Sl.tr h_people ht16
    replace h_held := Sl.tr h_held ht16
    replace hK := Tr.trans hK ht16
    replace hB := Nat.le_trans hB ht16.ex.size
    replace hA := ht16.new
    replace hH : Hp w.heap.size A15 w13 (obS (α := Int) 3 v11 x10 :: []) := hH17
    refine V_y (Y_lenSl (Hp.any (α := Int) (e := 3) (v := v11) (l := x10) hH (i := 0) rfl) rfl Tryd.underlying24 rfl) rfl rfl rfl ?_
    refine V_y (Y_move rfl) rfl rfl rfl ?_
    refine V_to (fun _ _ => rfl) ?_
    have hn34 := Hp.le (α := Int) (e := 3) (v := v11) (l := x10) hH (i := 0) rfl
    obtain ⟨o18, ho18, hm⟩ := Option.bind_eq_some_iff.1 hm
    refine C_cutG (ι := (Int × Int)) (fun (s19 : (Int × Int)) => [(8, .int .i64 s19.1), (9, .int .i64 s19.2)]) (fun (s19 : (Int × Int)) => fun w' => o18 = .fin s19 ∧ w13 = w') ?_ ?_
    · refine C_block ?_
      refine C_range ho18 (fun k21 s25 a w' => ∃ i : Unit, Has ⟨58, [], none⟩ a ([(0, v_people), (8, .int .i64 s25.1), (9, .int .i64 s25.2), (21, v11), (22, .int .i64 (x10.length : Int)), (23, .int .i64 (k21 : Int))]) ∧ w13 = w') (fun a ha => ⟨(), ha.sub ⟨rfl, rfl, rfl, rfl, rfl, rfl, trivial⟩, rfl⟩) ?_
      rintro K k21 s25 a _ ⟨_, ha74, rfl⟩ hle30 K33 h32
      refine C_of ?_ ha74
      refine C_seq (C_region (V_y (Y_lss rfl rfl) rfl rfl rfl (V_to (fun _ _ => rfl) ?_)))
      refine C_seq ?_
      refine C_cond rfl (fun hc35 => ?_) (fun hc35 => ?_)
      · have hlt31 := lt_of_dec hc35
        obtain ⟨x27, h28, h29⟩ := K33 hlt31
        refine C_skip_to (fun _ _ => rfl) ?_
        refine C_seq ?_
        obtain ⟨s37, ho36, h28⟩ := Option.bind_eq_some_iff.1 h28
        refine C_cutG (ι := Unit) (fun (_ : Unit) => [(0, v_people), (8, .int .i64 s37.1), (9, .int .i64 s37.2), (21, v11), (22, .int .i64 (x10.length : Int)), (23, .int .i64 (k21 : Int))]) (fun (_ : Unit) => fun w' => w13 = w') ?_ ?_
        · refine C_block ?_
          refine C_seq ?_
          refine C_region ?_
          refine V_y (Y_move rfl) rfl rfl rfl ?_
          obtain ⟨x42, hx42, ho36⟩ := Option.bind_eq_some_iff.1 ho36
          refine V_indexAddrH (α := Int) (e := 3) (v := v11) (l := x10) hH (i := 0) rfl hx42 Tryd.underlying24 Tryd.sizeOf3 rfl rfl rfl ?_
          intro b43 o44 h45 hl46
          refine V_y (Y_load (El.int h45) Tryd.isAgg3 rfl) rfl rfl rfl ?_
          refine V_y (Y_assign rfl) rfl rfl rfl ?_
          refine V_y (Y_assign rfl) rfl rfl rfl ?_
          refine V_to (fun _ _ => rfl) ?_
          refine C_seq ?_
          refine C_seq ?_
          refine C_region ?_
          refine V_y (Y_move rfl) rfl rfl rfl ?_
          refine V_y (Y_move rfl) rfl rfl rfl ?_
          obtain ⟨x47, hx47, ho36⟩ := Option.bind_eq_some_iff.1 ho36
          refine V_indexAddr h_people hx47 Tryd.underlying22 Tryd.sizeOf46 rfl rfl rfl ?_
          intro b48 o49 h50
          have h51 := El_route_Person_1 h50
          refine V_y (Y_fieldAddr Tryd.underlying46 rfl Tryd.sizeOf3 (by decide) rfl) rfl rfl rfl ?_
          refine V_y (Y_load (El.int h51) Tryd.isAgg3 rfl) rfl rfl rfl ?_
          refine V_y (Y_eql rfl rfl) rfl rfl rfl ?_
          refine V_to (fun _ _ => rfl) ?_
          refine C_cond rfl (fun hc52 => ?_) (fun hc52 => ?_)
          · rw [if_pos hc52] at ho36
            obtain rfl := Option.some.inj ho36
            refine C_exit (fun a ha53 => ?_)
            exact ⟨(), ha53.sub ⟨rfl, rfl, rfl, rfl, rfl, rfl, trivial⟩, rfl⟩
          · rw [if_neg (nt hc52)] at ho36
            refine C_skip_to (fun _ _ => rfl) ?_
            refine C_seq ?_
            refine C_region ?_
            refine V_y (Y_move rfl) rfl rfl rfl ?_
            refine V_y (Y_mulI rfl rfl) rfl rfl rfl ?_
            refine V_y (Y_move rfl) rfl rfl rfl ?_
            refine V_y (Y_move rfl) rfl rfl rfl ?_
            refine V_indexAddr h_people hx47 Tryd.underlying22 Tryd.sizeOf46 rfl rfl rfl ?_
            intro b54 o55 h56
            have h57 := El_route_Person_1 h56
            refine V_y (Y_fieldAddr Tryd.underlying46 rfl Tryd.sizeOf3 (by decide) rfl) rfl rfl rfl ?_
            refine V_y (Y_load (El.int h57) Tryd.isAgg3 rfl) rfl rfl rfl ?_
            obtain ⟨x58, hx58, ho36⟩ := Option.bind_eq_some_iff.1 ho36
            refine V_y (Y_quo hx58 rfl rfl) rfl rfl rfl ?_
            refine V_y (Y_assign rfl) rfl rfl rfl ?_
            refine V_to (fun _ _ => rfl) ?_
            refine C_seq ?_
            refine C_seq ?_
            refine C_region ?_
            refine V_y (Y_move rfl) rfl rfl rfl ?_
            refine V_y (Y_lss rfl rfl) rfl rfl rfl ?_
            refine V_y (Y_move rfl) rfl rfl rfl ?_
            refine V_cut 4 (fun _ : Unit => [(0, v_people), (8, .int .i64 s25.1), (9, .int .i64 s25.2), (12, .int .i64 x58), (21, v11), (22, .int .i64 (x10.length : Int)), (23, .int .i64 (k21 : Int)), (48, .bool ((decide (s25.1 < 0)) || (decide (x58 < s25.1))))]) (fun _ w' => w13 = w') ?_ ?_
            · simp only [List.take, List.drop]
              rcases Bool.eq_false_or_eq_true (decide (s25.1 < 0)) with hc59 | hc59
              · refine V_gn rfl rfl rfl hc59 rfl rfl rfl ?_
                refine V_gn rfl rfl rfl hc59 rfl rfl rfl ?_
                refine V_gn rfl rfl rfl hc59 rfl rfl rfl ?_
                refine V_y (Y_pick_te rfl hc59 rfl) rfl rfl rfl ?_
                exact V_end fun a ha => ⟨(), ha.sub ⟨rfl, rfl, rfl, rfl, rfl, rfl, rfl, (by rw [hc59]; rfl), trivial⟩, rfl⟩
              · refine V_ge rfl rfl rfl hc59 ?_
                refine V_y (Y_move rfl) rfl rfl rfl ?_
                refine V_ge rfl rfl rfl hc59 ?_
                refine V_y (Y_move rfl) rfl rfl rfl ?_
                refine V_ge rfl rfl rfl hc59 ?_
                refine V_y (Y_lss rfl rfl) rfl rfl rfl ?_
                refine V_y (Y_pick_fe rfl hc59 rfl) rfl rfl rfl ?_
                exact V_end fun a ha => ⟨(), ha.sub ⟨rfl, rfl, rfl, rfl, rfl, rfl, rfl, (by rw [hc59]; rfl), trivial⟩, rfl⟩
            simp only [List.take, List.drop]
            rintro _ _ rfl
            refine V_to (fun _ _ => rfl) ?_
            obtain ⟨s62, ho61, ho36⟩ := Option.bind_eq_some_iff.1 ho36
            refine C_cutG (ι := Unit) (fun (_ : Unit) => [(0, v_people), (8, .int .i64 s62), (9, .int .i64 s25.2), (12, .int .i64 x58), (21, v11), (22, .int .i64 (x10.length : Int)), (23, .int .i64 (k21 : Int))]) (fun (_ : Unit) => fun w' => w13 = w') ?_ ?_
            · refine C_cond rfl (fun hc68 => ?_) (fun hc68 => ?_)
              · rw [if_pos hc68] at ho61
                refine C_region ?_
                refine V_y (Y_move rfl) rfl rfl rfl ?_
                refine V_y (Y_assign rfl) rfl rfl rfl ?_
                obtain rfl := Option.some.inj ho61
                refine V_end (fun a ha69 => ?_)
                exact ⟨(), ha69.sub ⟨rfl, rfl, rfl, rfl, rfl, rfl, rfl, trivial⟩, rfl⟩
              · rw [if_neg (nt hc68)] at ho61
                obtain rfl := Option.some.inj ho61
                refine C_skip (fun a ha70 => ?_)
                exact ⟨(), ha70.sub ⟨rfl, rfl, rfl, rfl, rfl, rfl, rfl, trivial⟩, rfl⟩
            rintro _ _ rfl a ha67
            refine C_at (n := ⟨58, [], none⟩) (fun _ _ => rfl) ?_ ha67
            refine C_region ?_
            refine V_y (Y_move rfl) rfl rfl rfl ?_
            refine V_y (Y_move rfl) rfl rfl rfl ?_
            refine V_y (Y_max2 rfl rfl) rfl rfl rfl ?_
            refine V_y (Y_assign rfl) rfl rfl rfl ?_
            obtain rfl := Option.some.inj ho36
            refine V_end (fun a ha71 => ?_)
            exact ⟨(), ha71.sub ⟨rfl, rfl, rfl, rfl, rfl, rfl, trivial⟩, rfl⟩
        rintro _ _ rfl a ha41
        refine C_at (n := ⟨58, [], none⟩) (fun _ _ => rfl) ?_ ha41
        refine C_region ?_
        refine V_y (Y_addI rfl rfl) rfl rfl rfl ?_
        refine V_y (Y_move rfl) rfl rfl rfl ?_
        obtain rfl := Option.some.inj h28
        refine V_end (fun a ha72 => ?_)
        exact ⟨(s37.1, s37.2), hlt31, h29, ⟨(), ha72.sub ⟨rfl, rfl, rfl, rfl, rfl, (congrArg (fun z => some (Value.int .i64 z)) (w64_succ hlt31 hn34)), trivial⟩, rfl⟩⟩
      · refine C_exit (fun a ha73 => ?_)
        exact ⟨(s25.1, s25.2), ha73.sub ⟨rfl, rfl, trivial⟩, ⟨(h32 (eq_of_dec hle30 hc35)).symm, rfl⟩⟩
    rintro s19 _ ⟨rfl, rfl⟩ a ha24
    rw [Lp.andThen_fin] at hm
    refine C_at (n := ⟨58, [], none⟩) (fun _ _ => rfl) ?_ ha24
    refine C_seq ?_
    refine C_seq ?_
    refine C_region ?_
    refine V_y (Y_move rfl) rfl rfl rfl ?_
    refine V_y (Y_lss rfl rfl) rfl rfl rfl ?_
    refine V_to (fun _ _ => rfl) ?_
    refine C_cond rfl (fun hc75 => ?_) (fun hc75 => ?_)
    · rw [if_pos hc75] at hm
      refine C_seq ?_
      refine C_region ?_
      refine V_y (Y_assign rfl) rfl rfl rfl ?_
      refine V_y (Y_assign rfl) rfl rfl rfl ?_
      refine V_y (Y_assign rfl) rfl rfl rfl ?_
      refine V_to (fun _ _ => rfl) ?_
      obtain rfl := Option.some.inj hm
      refine C_ret ?_
      try simp only [↓inBlock_ret, ↓then_ret]
      exact retQ rfl (Res.three Tryd.results7 rfl rfl rfl) ⟨rfl, hK.kp⟩
    · rw [if_neg (nt hc75)] at hm
      refine C_skip_to (fun _ _ => rfl) ?_
      refine C_seq ?_
      refine C_region ?_
      refine V_y (Y_move rfl) rfl rfl rfl ?_
      refine V_y (Y_move rfl) rfl rfl rfl ?_
      refine V_y (Y_assign rfl) rfl rfl rfl ?_
      refine V_y (Y_assign rfl) rfl rfl rfl ?_
      refine V_y (Y_assign rfl) rfl rfl rfl ?_
      refine V_to (fun _ _ => rfl) ?_
      obtain rfl := Option.some.inj hm
      refine C_ret ?_
      try simp only [↓inBlock_ret, ↓then_ret]
      exact retQ rfl (Res.three Tryd.results7 rfl rfl rfl) ⟨rfl, hK.kp⟩

set_option maxRecDepth 4000 in
set_option maxHeartbeats 4000000 in
theorem slices_Min_Lint_int_c (w : World) {A : Nat → Prop} (hA : ∀ b, w.heap.size ≤ b → A b) (x : (List Int)) (v_x : Value) (h_x : Sl A w v_x x) {r : Int} (hm : slices_Min_Lint_int x = some r) : Ret Tryd.prog 19 #[v_x] w fun v w' => v = .int .i64 r ∧ Kp w w' := by
  unfold slices_Min_Lint_int at hm
  refine enter Tryd.func19 rfl Tryd.ntmps19 rfl ?_
  have hA0 := hA
  have hB := Nat.le_refl w.heap.size
  have hK : Tr w.heap.size A w A w := Tr.refl hA
  have hH : Hp w.heap.size A w [] := Hp.nil
  refine C_seq ?_
  refine C_region ?_
  refine V_y (Y_assign rfl) rfl rfl rfl ?_
  refine V_to (fun _ _ => rfl) ?_
  refine C_seq ?_
  refine C_seq ?_
  refine C_region ?_
  refine V_y (Y_move rfl) rfl rfl rfl ?_
  refine V_y (Y_lenSl h_x rfl Tryd.underlying24 rfl) rfl rfl rfl ?_
  refine V_y (Y_lss rfl rfl) rfl rfl rfl ?_
  refine V_to (fun _ _ => rfl) ?_
  refine C_cond rfl (fun hc3 => ?_) (fun hc3 => ?_)
  · rw [if_pos hc3] at hm
    cases hm
  · rw [if_neg (nt hc3)] at hm
    refine C_skip_to (fun _ _ => rfl) ?_
    refine C_seq ?_
    refine C_region ?_
    refine V_y (Y_move rfl) rfl rfl rfl ?_
    obtain ⟨x4, hx4, hm⟩ := Option.bind_eq_some_iff.1 hm
    refine V_indexAddr h_x hx4 Tryd.underlying24 Tryd.sizeOf3 rfl rfl rfl ?_
    intro b5 o6 h7
    refine V_y (Y_load (El.int h7) Tryd.isAgg3 rfl) rfl rfl rfl ?_
    refine V_y (Y_assign rfl) rfl rfl rfl ?_
    refine V_to (fun _ _ => rfl) ?_
    refine C_seq ?_
    refine C_seq ?_
    refine C_region ?_
    refine V_y (Y_assign rfl) rfl rfl rfl ?_
    refine V_to (fun _ _ => rfl) ?_
    obtain ⟨o8, ho8, hm⟩ := Option.bind_eq_some_iff.1 hm
    refine C_cutG (ι := (Int × Int)) (fun (s9 : (Int × Int)) => [(3, .int .i64 s9.1)]) (fun (s9 : (Int × Int)) => fun w' => o8 = .fin s9 ∧ w = w') ?_ ?_
    · refine C_block ?_
      refine C_while ho8 (fun s15 a w' => ∃ i : Unit, Has ⟨25, [], none⟩ a ([(0, v_x), (3, .int .i64 s15.1), (4, .int .i64 s15.2)]) ∧ w = w') (fun a ha => ⟨(), ha.sub ⟨rfl, rfl, rfl, trivial⟩, rfl⟩) ?_
      rintro K s15 a _ ⟨_, ha32, rfl⟩ K24
      refine C_of ?_ ha32
      obtain ⟨x18, h19, h20⟩ := K24
      refine C_seq ?_
      refine C_seq ?_
      refine C_region ?_
      refine V_y (Y_move rfl) rfl rfl rfl ?_
      refine V_y (Y_move rfl) rfl rfl rfl ?_
      refine V_y (Y_lenSl h_x rfl Tryd.underlying24 rfl) rfl rfl rfl ?_
      refine V_y (Y_lss rfl rfl) rfl rfl rfl ?_
      refine V_to (fun _ _ => rfl) ?_
      refine C_cond rfl (fun hc25 => ?_) (fun hc25 => ?_)
      · rw [if_pos hc25] at h19
        refine C_skip_to (fun _ _ => rfl) ?_
        refine C_seq ?_
        refine C_block ?_
        refine C_region ?_
        refine V_y (Y_move rfl) rfl rfl rfl ?_
        refine V_y (Y_move rfl) rfl rfl rfl ?_
        refine V_y (Y_move rfl) rfl rfl rfl ?_
        obtain ⟨x26, hx26, h19⟩ := Option.bind_eq_some_iff.1 h19
        refine V_indexAddr h_x hx26 Tryd.underlying24 Tryd.sizeOf3 rfl rfl rfl ?_
        intro b27 o28 h29
        refine V_y (Y_load (El.int h29) Tryd.isAgg3 rfl) rfl rfl rfl ?_
        refine V_y (Y_min2 rfl rfl) rfl rfl rfl ?_
        refine V_y (Y_assign rfl) rfl rfl rfl ?_
        refine V_to (fun _ _ => rfl) ?_
        refine C_region ?_
        refine V_y (Y_move rfl) rfl rfl rfl ?_
        refine V_y (Y_addI rfl rfl) rfl rfl rfl ?_
        refine V_y (Y_assign rfl) rfl rfl rfl ?_
        obtain rfl := Option.some.inj h19
        refine V_end (fun a ha30 => ?_)
        exact ⟨((if x26 < s15.1 then x26 else s15.1), w64 (s15.2 + 1)), h20, ⟨(), ha30.sub ⟨rfl, rfl, rfl, trivial⟩, rfl⟩⟩
      · rw [if_neg (nt hc25)] at h19
        obtain rfl := Option.some.inj h19
        refine C_exit (fun a ha31 => ?_)
        exact ⟨(s15.1, s15.2), ha31.sub ⟨rfl, trivial⟩, ⟨h20.symm, rfl⟩⟩
    rintro s9 _ ⟨rfl, rfl⟩ a ha14
    rw [Lp.andThen_fin] at hm
    refine C_at (n := ⟨25, [], none⟩) (fun _ _ => rfl) ?_ ha14
    refine C_seq ?_
    refine C_region ?_
    refine V_y (Y_move rfl) rfl rfl rfl ?_
    refine V_y (Y_assign rfl) rfl rfl rfl ?_
    refine V_to (fun _ _ => rfl) ?_
    obtain rfl := Option.some.inj hm
    refine C_ret ?_
    try simp only [↓inBlock_ret, ↓then_ret]
    exact retQ rfl (Res.one Tryd.results19 rfl) ⟨rfl, hK.kp⟩

set_option maxRecDepth 4000 in
set_option maxHeartbeats 4000000 in
theorem slices_Max_Lint_int_c (w : World) {A : Nat → Prop} (hA : ∀ b, w.heap.size ≤ b → A b) (x : (List Int)) (v_x : Value) (h_x : Sl A w v_x x) {r : Int} (hm : slices_Max_Lint_int x = some r) : Ret Tryd.prog 20 #[v_x] w fun v w' => v = .int .i64 r ∧ Kp w w' := by
  unfold slices_Max_Lint_int at hm
  refine enter Tryd.func20 rfl Tryd.ntmps20 rfl ?_
  have hA0 := hA
  have hB := Nat.le_refl w.heap.size
  have hK : Tr w.heap.size A w A w := Tr.refl hA
  have hH : Hp w.heap.size A w [] := Hp.nil
  refine C_seq ?_
  refine C_region ?_
  refine V_y (Y_assign rfl) rfl rfl rfl ?_
  refine V_to (fun _ _ => rfl) ?_
  refine C_seq ?_
  refine C_seq ?_
  refine C_region ?_
  refine V_y (Y_move rfl) rfl rfl rfl ?_
  refine V_y (Y_lenSl h_x rfl Tryd.underlying24 rfl) rfl rfl rfl ?_
  refine V_y (Y_lss rfl rfl) rfl rfl rfl ?_
  refine V_to (fun _ _ => rfl) ?_
  refine C_cond rfl (fun hc3 => ?_) (fun hc3 => ?_)
  · rw [if_pos hc3] at hm
    cases hm
  · rw [if_neg (nt hc3)] at hm
    refine C_skip_to (fun _ _ => rfl) ?_
    refine C_seq ?_
    refine C_region ?_
    refine V_y (Y_move rfl) rfl rfl rfl ?_
    obtain ⟨x4, hx4, hm⟩ := Option.bind_eq_some_iff.1 hm
    refine V_indexAddr h_x hx4 Tryd.underlying24 Tryd.sizeOf3 rfl rfl rfl ?_
    intro b5 o6 h7
    refine V_y (Y_load (El.int h7) Tryd.isAgg3 rfl) rfl rfl rfl ?_
    refine V_y (Y_assign rfl) rfl rfl rfl ?_
    refine V_to (fun _ _ => rfl) ?_
    refine C_seq ?_
    refine C_seq ?_
    refine C_region ?_
    refine V_y (Y_assign rfl) rfl rfl rfl ?_
    refine V_to (fun _ _ => rfl) ?_
    obtain ⟨o8, ho8, hm⟩ := Option.bind_eq_some_iff.1 hm
    refine C_cutG (ι := (Int × Int)) (fun (s9 : (Int × Int)) => [(3, .int .i64 s9.1)]) (fun (s9 : (Int × Int)) => fun w' => o8 = .fin s9 ∧ w = w') ?_ ?_
    · refine C_block ?_
      refine C_while ho8 (fun s15 a w' => ∃ i : Unit, Has ⟨25, [], none⟩ a ([(0, v_x), (3, .int .i64 s15.1), (4, .int .i64 s15.2)]) ∧ w = w') (fun a ha => ⟨(), ha.sub ⟨rfl, rfl, rfl, trivial⟩, rfl⟩) ?_
      rintro K s15 a _ ⟨_, ha32, rfl⟩ K24
      refine C_of ?_ ha32
      obtain ⟨x18, h19, h20⟩ := K24
      refine C_seq ?_
      refine C_seq ?_
      refine C_region ?_
      refine V_y (Y_move rfl) rfl rfl rfl ?_
      refine V_y (Y_move rfl) rfl rfl rfl ?_
      refine V_y (Y_lenSl h_x rfl Tryd.underlying24 rfl) rfl rfl rfl ?_
      refine V_y (Y_lss rfl rfl) rfl rfl rfl ?_
      refine V_to (fun _ _ => rfl) ?_
      refine C_cond rfl (fun hc25 => ?_) (fun hc25 => ?_)
      · rw [if_pos hc25] at h19
        refine C_skip_to (fun _ _ => rfl) ?_
        refine C_seq ?_
        refine C_block ?_
        refine C_region ?_
        refine V_y (Y_move rfl) rfl rfl rfl ?_
        refine V_y (Y_move rfl) rfl rfl rfl ?_
        refine V_y (Y_move rfl) rfl rfl rfl ?_
        obtain ⟨x26, hx26, h19⟩ := Option.bind_eq_some_iff.1 h19
        refine V_indexAddr h_x hx26 Tryd.underlying24 Tryd.sizeOf3 rfl rfl rfl ?_
        intro b27 o28 h29
        refine V_y (Y_load (El.int h29) Tryd.isAgg3 rfl) rfl rfl rfl ?_
        refine V_y (Y_max2 rfl rfl) rfl rfl rfl ?_
        refine V_y (Y_assign rfl) rfl rfl rfl ?_
        refine V_to (fun _ _ => rfl) ?_
        refine C_region ?_
        refine V_y (Y_move rfl) rfl rfl rfl ?_
        refine V_y (Y_addI rfl rfl) rfl rfl rfl ?_
        refine V_y (Y_assign rfl) rfl rfl rfl ?_
        obtain rfl := Option.some.inj h19
        refine V_end (fun a ha30 => ?_)
        exact ⟨((if s15.1 < x26 then x26 else s15.1), w64 (s15.2 + 1)), h20, ⟨(), ha30.sub ⟨rfl, rfl, rfl, trivial⟩, rfl⟩⟩
      · rw [if_neg (nt hc25)] at h19
        obtain rfl := Option.some.inj h19
        refine C_exit (fun a ha31 => ?_)
        exact ⟨(s15.1, s15.2), ha31.sub ⟨rfl, trivial⟩, ⟨h20.symm, rfl⟩⟩
    rintro s9 _ ⟨rfl, rfl⟩ a ha14
    rw [Lp.andThen_fin] at hm
    refine C_at (n := ⟨25, [], none⟩) (fun _ _ => rfl) ?_ ha14
    refine C_seq ?_
    refine C_region ?_
    refine V_y (Y_move rfl) rfl rfl rfl ?_
    refine V_y (Y_assign rfl) rfl rfl rfl ?_
    refine V_to (fun _ _ => rfl) ?_
    obtain rfl := Option.some.inj hm
    refine C_ret ?_
    try simp only [↓inBlock_ret, ↓then_ret]
    exact retQ rfl (Res.one Tryd.results20 rfl) ⟨rfl, hK.kp⟩

set_option maxRecDepth 4000 in
set_option maxHeartbeats 4000000 in
theorem portref2_SpreadOf_c (w : World) {A : Nat → Prop} (hA : ∀ b, w.heap.size ≤ b → A b) (people : (List route_Person)) (v_people : Value) (h_people : Sl A w v_people people) (held : (List route_Held)) (v_held : Value) (h_held : Sl A w v_held held) {r : (Int × Int × Int)} (hm : portref2_SpreadOf people held = some r) : Ret Tryd.prog 8 #[v_people, v_held] w fun v w' => v = .tuple #[.int .i64 r.1, .int .i64 r.2.1, .int .i64 r.2.2] ∧ Kp w w' := by
  unfold portref2_SpreadOf at hm
  refine enter Tryd.func8 rfl Tryd.ntmps8 rfl ?_
  have hA0 := hA
  have hB := Nat.le_refl w.heap.size
  have hK : Tr w.heap.size A w A w := Tr.refl hA
  have hH : Hp w.heap.size A w [] := Hp.nil
  refine C_seq ?_
  refine C_region ?_
  refine V_y (Y_assign rfl) rfl rfl rfl ?_
  refine V_y (Y_assign rfl) rfl rfl rfl ?_
  refine V_y (Y_assign rfl) rfl rfl rfl ?_
  refine V_to (fun _ _ => rfl) ?_
  refine C_seq ?_
  refine C_seq ?_
  refine C_region ?_
  refine V_y (Y_move rfl) rfl rfl rfl ?_
  refine V_y (Y_move rfl) rfl rfl rfl ?_
  obtain ⟨x5, hx5, hm⟩ := Option.bind_eq_some_iff.1 hm
  refine V_call Tryd.call11 rfl rfl rfl rfl (portref2_HeldFault_c w hA people v_people h_people held v_held h_held hx5) ?_
  rintro _ w6 ⟨rfl, hk7⟩
  have ht8 := Kp.tr hk7 hA hB
  replace hH := Hp.kp hH hk7
  replace h_people := Sl.tr h_people ht8
  replace h_held := Sl.tr h_held ht8
  replace hK := Tr.trans hK ht8
  replace hB := Nat.le_trans hB ht8.ex.size
  replace hA := ht8.new
  refine V_y (Y_assign rfl) rfl rfl rfl ?_
  refine V_to (fun _ _ => rfl) ?_
  refine C_seq ?_
  refine C_region ?_
  refine V_y (Y_move rfl) rfl rfl rfl ?_
  refine V_y (Y_neq rfl rfl) rfl rfl rfl ?_
  refine V_to (fun _ _ => rfl) ?_
  refine C_cond rfl (fun hc9 => ?_) (fun hc9 => ?_)
  · rw [if_pos hc9] at hm
    refine C_seq ?_
    refine C_region ?_
    refine V_y (Y_move rfl) rfl rfl rfl ?_
    refine V_y (Y_assign rfl) rfl rfl rfl ?_
    refine V_y (Y_assign rfl) rfl rfl rfl ?_
    refine V_y (Y_assign rfl) rfl rfl rfl ?_
    refine V_to (fun _ _ => rfl) ?_
    obtain rfl := Option.some.inj hm
    refine C_ret ?_
    try simp only [↓inBlock_ret, ↓then_ret]
    exact retQ rfl (Res.three Tryd.results8 rfl rfl rfl) ⟨rfl, hK.kp⟩
  · rw [if_neg (nt hc9)] at hm
    refine C_skip_to (fun _ _ => rfl) ?_
    refine C_seq ?_
    refine C_region ?_
    refine V_y (Y_assign rfl) rfl rfl rfl ?_
    refine V_to (fun _ _ => rfl) ?_
    refine C_seq ?_
    refine C_seq ?_
    refine C_region ?_
    refine V_y (Y_move rfl) rfl rfl rfl ?_
    refine V_y (Y_lenSl h_people rfl Tryd.underlying22 rfl) rfl rfl rfl ?_
    refine V_y (Y_move rfl) rfl rfl rfl ?_
    refine V_to (fun _ _ => rfl) ?_
    replace hH : Hp w.heap.size A w6 (obS (α := Int) 3 (.slice none 0 0) ([] : (List Int)) :: []) := Hp.addNil (α := Int) (e := 3) hH
    have hn34 := Sl.le h_people
    obtain ⟨o10, ho10, hm⟩ := Option.bind_eq_some_iff.1 hm
    refine C_cutG (ι := ((List Int) × Value × (Nat → Prop))) (fun ⟨s11, v17, A19⟩ => [(8, v17)]) (fun ⟨s11, v17, A19⟩ => fun w' => o10 = .fin s11 ∧ Hp w.heap.size A19 w' (obS (α := Int) 3 v17 s11 :: []) ∧ Tr w.heap.size A w6 A19 w') ?_ ?_
    · refine C_block ?_
      refine C_range ho10 (fun k13 s21 a w' => ∃ i : (Value × (Nat → Prop)), Has ⟨51, [], none⟩ a ([(1, v_held), (8, i.1), (19, v_people), (20, .int .i64 (people.length : Int)), (21, .int .i64 (k13 : Int))]) ∧ Hp w.heap.size i.2 w' (obS (α := Int) 3 i.1 s21 :: []) ∧ Tr w.heap.size A w6 i.2 w') (fun a ha => ⟨(.slice none 0 0, A), ha.sub ⟨rfl, rfl, rfl, rfl, rfl, trivial⟩, ⟨hH, Tr.refl hA⟩⟩) ?_
      rintro K k13 s21 a w22 ⟨⟨v23, A25⟩, ha99, hH26, hr12⟩ hle30 K33 h32
      refine C_of ?_ ha99
      replace h_held := Sl.tr h_held hr12
      replace h_people := Sl.tr h_people hr12
      replace hK := Tr.trans hK hr12
      replace hB := Nat.le_trans hB hr12.ex.size
      replace hA := hr12.new
      replace hH : Hp w.heap.size A25 w22 (obS (α := Int) 3 v23 s21 :: []) := hH26
      refine C_seq (C_region (V_y (Y_lss rfl rfl) rfl rfl rfl (V_to (fun _ _ => rfl) ?_)))
      refine C_seq ?_
      refine C_cond rfl (fun hc35 => ?_) (fun hc35 => ?_)
      · have hlt31 := lt_of_dec hc35
        obtain ⟨x27, h28, h29⟩ := K33 hlt31
        refine C_skip_to (fun _ _ => rfl) ?_
        refine C_seq ?_
        obtain ⟨s37, ho36, h28⟩ := Option.bind_eq_some_iff.1 h28
        refine C_cutG (ι := (Value × (Nat → Prop))) (fun ⟨v39, A44⟩ => [(1, v_held), (8, v39), (19, v_people), (20, .int .i64 (people.length : Int)), (21, .int .i64 (k13 : Int))]) (fun ⟨v39, A44⟩ => fun w' => Hp w.heap.size A44 w' (obS (α := Int) 3 v39 s37 :: []) ∧ Tr w.heap.size A25 w22 A44 w') ?_ ?_
        · have hr38 : Tr w.heap.size A25 w22 A25 w22 := Tr.refl hA
          refine C_block ?_
          refine C_seq ?_
          refine C_region ?_
          obtain ⟨x46, hx46, ho36⟩ := Option.bind_eq_some_iff.1 ho36
          refine V_indexAddr h_people hx46 Tryd.underlying22 Tryd.sizeOf46 rfl rfl rfl ?_
          intro b47 o48 h49
          obtain ⟨v50, h52, h51⟩ := El_route_Person h49
          refine V_y (Y_loadA h52 Tryd.isAgg46 Tryd.sizeOf46 rfl) rfl rfl rfl ?_
          refine V_alloc Tryd.zeroValue46 rfl ?_
          intro b53 w54 h55
          have h60 : (v50).oneCell' = true := by obtain ⟨_, _, e, _⟩ := Sl.form h51; rw [e]; rfl
          refine V_storeNew h55 Tryd.sizeOf46 rfl rfl rfl rfl (by exact (List.forall_mem_cons.2 ⟨rfl, (List.forall_mem_cons.2 ⟨rfl, (List.forall_mem_cons.2 ⟨rfl, (List.forall_mem_cons.2 ⟨h60, (fun _ h => nomatch h)⟩)⟩)⟩)⟩)) ?_
          intro w56 h57
          have hk62 := h57.kp
          have h61 : El (α := route_Person) A25 w56 b53 0 x46 := h57.el hA ⟨[.int .i64 x46.no], _, rfl, rfl, ⟨[.int .i64 x46.capacity], _, rfl, rfl, ⟨[.int .i64 x46.calendar], _, rfl, rfl, ⟨_, rfl, h51⟩⟩⟩⟩
          have ht63 := Kp.tr hk62 hA hB
          replace hH := Hp.kp hH hk62
          replace h_held := Sl.tr h_held ht63
          replace h_people := Sl.tr h_people ht63
          replace h49 := El.tr h49 ht63
          replace h51 := Sl.tr h51 ht63
          replace hK := Tr.trans hK ht63
          replace hr12 := Tr.trans hr12 ht63
          replace hr38 := Tr.trans hr38 ht63
          replace hB := Nat.le_trans hB ht63.ex.size
          replace hA := ht63.new
          refine V_to (fun _ _ => rfl) ?_
          refine C_seq ?_
          refine C_region ?_
          have h64 := El_route_Person_1 h61
          refine V_y (Y_fieldAddr Tryd.underlying46 rfl Tryd.sizeOf3 (by decide) rfl) rfl rfl rfl ?_
          refine V_y (Y_load (El.int h64) Tryd.isAgg3 rfl) rfl rfl rfl ?_
          refine V_y (Y_gtr rfl rfl) rfl rfl rfl ?_
          refine V_to (fun _ _ => rfl) ?_
          obtain ⟨s66, ho65, ho36⟩ := Option.bind_eq_some_iff.1 ho36
          refine C_cutG (ι := (Value × (Nat → Prop))) (fun ⟨v68, A73⟩ => [(1, v_held), (8, v68), (19, v_people), (20, .int .i64 (people.length : Int)), (21, .int .i64 (k13 : Int))]) (fun ⟨v68, A73⟩ => fun w' => Hp w.heap.size A73 w' (obS (α := Int) 3 v68 s66 :: []) ∧ Tr w.heap.size A25 w56 A73 w') ?_ ?_
          · have hr67 : Tr w.heap.size A25 w56 A25 w56 := Tr.refl hA
            refine C_cond rfl (fun hc75 => ?_) (fun hc75 => ?_)
            · rw [if_pos hc75] at ho65
              refine C_seq ?_
              refine C_region ?_
              refine V_y (Y_move rfl) rfl rfl rfl ?_
              have h76 := El_route_Person_0 h61
              refine V_y (Y_fieldAddr Tryd.underlying46 rfl Tryd.sizeOf3 (by decide) rfl) rfl rfl rfl ?_
              refine V_y (Y_load (El.int h76) Tryd.isAgg3 rfl) rfl rfl rfl ?_
              obtain ⟨x77, hx77, ho65⟩ := Option.bind_eq_some_iff.1 ho65
              refine V_call Tryd.call18 rfl rfl rfl rfl (portref2_weightOf_c w56 hA held v_held h_held x46.no hx77) ?_
              rintro _ w78 ⟨rfl, hk79⟩
              have ht80 := Kp.tr hk79 hA hB
              replace hH := Hp.kp hH hk79
              replace h_held := Sl.tr h_held ht80
              replace h_people := Sl.tr h_people ht80
              replace h61 := El.tr h61 ht80
              replace h76 := El.tr h76 ht80
              replace hK := Tr.trans hK ht80
              replace hr12 := Tr.trans hr12 ht80
              replace hr38 := Tr.trans hr38 ht80
              replace hr67 := Tr.trans hr67 ht80
              replace hB := Nat.le_trans hB ht80.ex.size
              replace hA := ht80.new
              refine V_y (Y_move rfl) rfl rfl rfl ?_
              refine V_y (Y_extract rfl rfl) rfl rfl rfl ?_
              refine V_y (Y_extract rfl rfl) rfl rfl rfl ?_
              refine V_y (Y_assign rfl) rfl rfl rfl ?_
              refine V_y (Y_assign rfl) rfl rfl rfl ?_
              refine V_to (fun _ _ => rfl) ?_
              refine C_region ?_
              refine V_y (Y_move rfl) rfl rfl rfl ?_
              refine V_y (Y_move rfl) rfl rfl rfl ?_
              refine V_y (Y_mulI rfl rfl) rfl rfl rfl ?_
              have h81 := El_route_Person_1 h61
              refine V_y (Y_fieldAddr Tryd.underlying46 rfl Tryd.sizeOf3 (by decide) rfl) rfl rfl rfl ?_
              refine V_y (Y_load (El.int h81) Tryd.isAgg3 rfl) rfl rfl rfl ?_
              obtain ⟨x82, hx82, ho65⟩ := Option.bind_eq_some_iff.1 ho65
              refine V_y (Y_quo hx82 rfl rfl) rfl rfl rfl ?_
              refine V_buildSlice (l := ([x82] : List Int)) (len := 1) Tryd.underlying24 Tryd.sizeOf3 Tryd.zeroValue3 rfl (by with_unfolding_all rfl) (by decide) (by decide) hA ⟨[.int .i64 x82], _, rfl, rfl, rfl⟩ rfl rfl ?_
              intro v83 w84 hk86 h85
              have ht87 := Kp.tr hk86 hA hB
              replace hH := Hp.kp hH hk86
              replace h_held := Sl.tr h_held ht87
              replace h_people := Sl.tr h_people ht87
              replace h61 := El.tr h61 ht87
              replace h81 := El.tr h81 ht87
              replace hK := Tr.trans hK ht87
              replace hr12 := Tr.trans hr12 ht87
              replace hr38 := Tr.trans hr38 ht87
              replace hr67 := Tr.trans hr67 ht87
              replace hB := Nat.le_trans hB ht87.ex.size
              replace hA := ht87.new
              obtain ⟨x88, hx88, ho65⟩ := Option.bind_eq_some_iff.1 ho65
              refine V_appendH (e := 3) (v := v23) (l := s21) (ti := Tryd.t3) (bytes := 8) (lim := 17592186044416) hH (i := 0) rfl h85 hx88 Tryd.underlying24 Tryd_info3 rfl rfl rfl rfl (by decide) (by decide) (by decide) hB hA rfl rfl rfl ?_
              intro v89 w90 A91 hH92 ht93
              replace h_held := Sl.tr h_held ht93
              replace h_people := Sl.tr h_people ht93
              replace h61 := El.tr h61 ht93
              replace h81 := El.tr h81 ht93
              replace h85 := Sl.tr h85 ht93
              replace hK := Tr.trans hK ht93
              replace hr12 := Tr.trans hr12 ht93
              replace hr38 := Tr.trans hr38 ht93
              replace hr67 := Tr.trans hr67 ht93
              replace hB := Nat.le_trans hB ht93.ex.size
              replace hA := ht93.new
              replace hH : Hp w.heap.size A91 w90 (obS (α := Int) 3 v89 x88 :: []) := hH92
              refine V_y (Y_assign rfl) rfl rfl rfl ?_
              obtain rfl := Option.some.inj ho65
              refine V_end (fun a ha94 => ?_)
              exact ⟨(v89, A91), ha94.sub ⟨rfl, rfl, rfl, rfl, rfl, trivial⟩, ⟨hH, hr67⟩⟩
            · rw [if_neg (nt hc75)] at ho65
              obtain rfl := Option.some.inj ho65
              refine C_skip (fun a ha95 => ?_)
              exact ⟨(v23, A25), ha95.sub ⟨rfl, rfl, rfl, rfl, rfl, trivial⟩, ⟨hH, hr67⟩⟩
          rintro ⟨v68, A73⟩ w70 ⟨hH74, hk71⟩ a ha72
          replace h_held := Sl.tr h_held hk71
          replace h_people := Sl.tr h_people hk71
          replace hK := Tr.trans hK hk71
          replace hr12 := Tr.trans hr12 hk71
          replace hr38 := Tr.trans hr38 hk71
          replace hB := Nat.le_trans hB hk71.ex.size
          replace hA := hk71.new
          replace hH : Hp w.heap.size A73 w70 (obS (α := Int) 3 v68 s66 :: []) := hH74
          obtain rfl := Option.some.inj ho36
          exact ⟨(v68, A73), ha72.sub ⟨rfl, rfl, rfl, rfl, rfl, trivial⟩, ⟨hH, hr38⟩⟩
        rintro ⟨v39, A44⟩ w41 ⟨hH45, hk42⟩ a ha43
        replace h_held := Sl.tr h_held hk42
        replace h_people := Sl.tr h_people hk42
        replace hK := Tr.trans hK hk42
        replace hr12 := Tr.trans hr12 hk42
        replace hB := Nat.le_trans hB hk42.ex.size
        replace hA := hk42.new
        replace hH : Hp w.heap.size A44 w41 (obS (α := Int) 3 v39 s37 :: []) := hH45
        refine C_at (n := ⟨51, [], none⟩) (fun _ _ => rfl) ?_ ha43
        refine C_region ?_
        refine V_y (Y_addI rfl rfl) rfl rfl rfl ?_
        refine V_y (Y_move rfl) rfl rfl rfl ?_
        obtain rfl := Option.some.inj h28
        refine V_end (fun a ha97 => ?_)
        exact ⟨s37, hlt31, h29, ⟨(v39, A44), ha97.sub ⟨rfl, rfl, rfl, rfl, (congrArg (fun z => some (Value.int .i64 z)) (w64_succ hlt31 hn34)), trivial⟩, ⟨hH, hr12⟩⟩⟩
      · refine C_exit (fun a ha98 => ?_)
        exact ⟨(s21, v23, A25), ha98.sub ⟨rfl, trivial⟩, ⟨(h32 (eq_of_dec hle30 hc35)).symm, hH, hr12⟩⟩
    rintro ⟨s11, v17, A19⟩ w14 ⟨rfl, hH20, hk15⟩ a ha16
    rw [Lp.andThen_fin] at hm
    replace hK := Tr.trans hK hk15
    replace hB := Nat.le_trans hB hk15.ex.size
    replace hA := hk15.new
    replace hH : Hp w.heap.size A19 w14 (obS (α := Int) 3 v17 s11 :: []) := hH20
    refine C_at (n := ⟨51, [], none⟩) (fun _ _ => rfl) ?_ ha16
    refine C_seq ?_
    refine C_seq ?_
    refine C_region ?_
    refine V_y (Y_move rfl) rfl rfl rfl ?_
    refine V_y (Y_lenSl (Hp.any (α := Int) (e := 3) (v := v17) (l := s11) hH (i := 0) rfl) rfl Tryd.underlying24 rfl) rfl rfl rfl ?_
    refine V_y (Y_eql rfl rfl) rfl rfl rfl ?_
    refine V_to (fun _ _ => rfl) ?_
    refine C_cond rfl (fun hc100 => ?_) (fun hc100 => ?_)
    · rw [if_pos hc100] at hm
      refine C_seq ?_
      refine C_region ?_
      refine V_y (Y_assign rfl) rfl rfl rfl ?_
      refine V_y (Y_assign rfl) rfl rfl rfl ?_
      refine V_y (Y_assign rfl) rfl rfl rfl ?_
      refine V_to (fun _ _ => rfl) ?_
      obtain rfl := Option.some.inj hm
      refine C_ret ?_
      try simp only [↓inBlock_ret, ↓then_ret]
      exact retQ rfl (Res.three Tryd.results8 rfl rfl rfl) ⟨rfl, hK.kp⟩
    · rw [if_neg (nt hc100)] at hm
      refine C_skip_to (fun _ _ => rfl) ?_
      refine C_seq ?_
      refine C_region ?_
      refine V_y (Y_move rfl) rfl rfl rfl ?_
      obtain ⟨x101, hx101, hm⟩ := Option.bind_eq_some_iff.1 hm
      refine V_call Tryd.call19 rfl rfl rfl rfl (slices_Min_Lint_int_c w14 (A := fun _ => True) (fun _ _ => trivial) s11 v17 (Hp.any (α := Int) (e := 3) (v := v17) (l := s11) hH (i := 0) rfl) hx101) ?_
      rintro _ w102 ⟨rfl, hk103⟩
      have ht104 := Kp.tr hk103 hA hB
      replace hH := Hp.kp hH hk103
      replace hK := Tr.trans hK ht104
      replace hB := Nat.le_trans hB ht104.ex.size
      replace hA := ht104.new
      refine V_y (Y_move rfl) rfl rfl rfl ?_
      obtain ⟨x105, hx105, hm⟩ := Option.bind_eq_some_iff.1 hm
      refine V_call Tryd.call20 rfl rfl rfl rfl (slices_Max_Lint_int_c w102 (A := fun _ => True) (fun _ _ => trivial) s11 v17 (Hp.any (α := Int) (e := 3) (v := v17) (l := s11) hH (i := 0) rfl) hx105) ?_
      rintro _ w106 ⟨rfl, hk107⟩
      have ht108 := Kp.tr hk107 hA hB
      replace hH := Hp.kp hH hk107
      replace hK := Tr.trans hK ht108
      replace hB := Nat.le_trans hB ht108.ex.size
      replace hA := ht108.new
      refine V_y (Y_assign rfl) rfl rfl rfl ?_
      refine V_y (Y_assign rfl) rfl rfl rfl ?_
      refine V_y (Y_assign rfl) rfl rfl rfl ?_
      refine V_to (fun _ _ => rfl) ?_
      obtain rfl := Option.some.inj hm
      refine C_ret ?_
      try simp only [↓inBlock_ret, ↓then_ret]
      exact retQ rfl (Res.three Tryd.results8 rfl rfl rfl) ⟨rfl, hK.kp⟩

set_option maxRecDepth 4000 in
set_option maxHeartbeats 4000000 in
theorem slices_Equal_Lint_int_c (w : World) {A : Nat → Prop} (hA : ∀ b, w.heap.size ≤ b → A b) (s1 : (List Int)) (v_s1 : Value) (h_s1 : Sl A w v_s1 s1) (s2 : (List Int)) (v_s2 : Value) (h_s2 : Sl A w v_s2 s2) {r : Bool} (hm : slices_Equal_Lint_int s1 s2 = some r) : Ret Tryd.prog 9 #[v_s1, v_s2] w fun v w' => v = .bool r ∧ Kp w w' := by
  unfold slices_Equal_Lint_int at hm
  refine enter Tryd.func9 rfl Tryd.ntmps9 rfl ?_
  have hA0 := hA
  have hB := Nat.le_refl w.heap.size
  have hK : Tr w.heap.size A w A w := Tr.refl hA
  have hH : Hp w.heap.size A w [] := Hp.nil
  refine C_seq ?_
  refine C_region ?_
  refine V_y (Y_assign rfl) rfl rfl rfl ?_
  refine V_to (fun _ _ => rfl) ?_
  refine C_seq ?_
  refine C_seq ?_
  refine C_region ?_
  refine V_y (Y_move rfl) rfl rfl rfl ?_
  refine V_y (Y_lenSl h_s1 rfl Tryd.underlying24 rfl) rfl rfl rfl ?_
  refine V_y (Y_move rfl) rfl rfl rfl ?_
  refine V_y (Y_lenSl h_s2 rfl Tryd.underlying24 rfl) rfl rfl rfl ?_
  refine V_y (Y_neq rfl rfl) rfl rfl rfl ?_
  refine V_to (fun _ _ => rfl) ?_
  refine C_cond rfl (fun hc5 => ?_) (fun hc5 => ?_)
  · rw [if_pos hc5] at hm
    refine C_seq ?_
    refine C_region ?_
    refine V_y (Y_assign rfl) rfl rfl rfl ?_
    refine V_to (fun _ _ => rfl) ?_
    obtain rfl := Option.some.inj hm
    refine C_ret ?_
    try simp only [↓inBlock_ret, ↓then_ret]
    exact retQ rfl (Res.one Tryd.results9 rfl) ⟨rfl, hK.kp⟩
  · rw [if_neg (nt hc5)] at hm
    refine C_skip_to (fun _ _ => rfl) ?_
    refine C_seq ?_
    refine C_seq ?_
    refine C_region ?_
    refine V_y (Y_move rfl) rfl rfl rfl ?_
    refine V_y (Y_lenSl h_s1 rfl Tryd.underlying24 rfl) rfl rfl rfl ?_
    refine V_y (Y_move rfl) rfl rfl rfl ?_
    refine V_to (fun _ _ => rfl) ?_
    have hn27 := Sl.le h_s1
    obtain ⟨o6, ho6, hm⟩ := Option.bind_eq_some_iff.1 hm
    refine C_cutG (ι := (Unit × (Nat → Prop))) (fun ⟨s7, A13⟩ => []) (fun ⟨s7, A13⟩ => fun w' => o6 = .fin s7 ∧ Hp w.heap.size A13 w' ([]) ∧ Tr w.heap.size A w A13 w') ?_ ?_
    · refine C_block ?_
      refine C_range ho6 (fun k9 _ a w' => ∃ i : (Nat → Prop), Has ⟨26, [], none⟩ a ([(0, v_s1), (1, v_s2), (12, .int .i64 (s1.length : Int)), (13, .int .i64 (k9 : Int))]) ∧ Hp w.heap.size i w' ([]) ∧ Tr w.heap.size A w i w') (fun a ha => ⟨A, ha.sub ⟨rfl, rfl, rfl, rfl, trivial⟩, ⟨hH, Tr.refl hA⟩⟩) ?_
      rintro K k9 _ a w17 ⟨A18, ha43, hH19, hr8⟩ hle23 K26 h25
      refine C_of ?_ ha43
      replace h_s1 := Sl.tr h_s1 hr8
      replace h_s2 := Sl.tr h_s2 hr8
      replace hK := Tr.trans hK hr8
      replace hB := Nat.le_trans hB hr8.ex.size
      replace hA := hr8.new
      replace hH : Hp w.heap.size A18 w17 ([]) := hH19
      refine C_seq (C_region (V_y (Y_lss rfl rfl) rfl rfl rfl (V_to (fun _ _ => rfl) ?_)))
      refine C_seq ?_
      refine C_cond rfl (fun hc28 => ?_) (fun hc28 => ?_)
      · have hlt24 := lt_of_dec hc28
        obtain ⟨x20, h21, h22⟩ := K26 hlt24
        refine C_skip_to (fun _ _ => rfl) ?_
        refine C_seq ?_
        refine C_block ?_
        refine C_seq ?_
        refine C_region ?_
        refine V_y (Y_move rfl) rfl rfl rfl ?_
        refine V_y (Y_assign rfl) rfl rfl rfl ?_
        refine V_to (fun _ _ => rfl) ?_
        refine C_seq ?_
        refine C_region_q Tryd_mixed (by kernel_rfl) ?_
        refine VQ_y (fun w' hw' => Y_move rfl) rfl rfl rfl ?_
        refine VQ_y (fun w' hw' => Y_move rfl) rfl rfl rfl ?_
        obtain ⟨x29, hx29, h21⟩ := Option.bind_eq_some_iff.1 h21
        refine VQ_indexAddr h_s1 hx29 Tryd.underlying24 Tryd.sizeOf3 rfl rfl rfl ?_
        intro b30 o31 h32
        refine VQ_y (fun w' hw' => Y_load (El.int (El.kp h32 hw')) Tryd.isAgg3 rfl) rfl rfl rfl ?_
        refine VQ_y (fun w' hw' => Y_move rfl) rfl rfl rfl ?_
        refine VQ_y (fun w' hw' => Y_move rfl) rfl rfl rfl ?_
        obtain ⟨x33, hx33, h21⟩ := Option.bind_eq_some_iff.1 h21
        refine VQ_indexAddr h_s2 hx33 Tryd.underlying24 Tryd.sizeOf3 rfl rfl rfl ?_
        intro b34 o35 h36
        refine VQ_y (fun w' hw' => Y_load (El.int (El.kp h36 hw')) Tryd.isAgg3 rfl) rfl rfl rfl ?_
        refine VQ_y (fun w' hw' => Y_neq rfl rfl) rfl rfl rfl ?_
        refine VQ_to (fun _ _ => rfl) (fun w37 hk38 => ?_)
        have ht39 := Kp.tr hk38 hA hB
        replace hH := Hp.kp hH hk38
        replace h_s1 := Sl.tr h_s1 ht39
        replace h_s2 := Sl.tr h_s2 ht39
        replace hK := Tr.trans hK ht39
        replace hr8 := Tr.trans hr8 ht39
        replace hB := Nat.le_trans hB ht39.ex.size
        replace hA := ht39.new
        refine C_cond rfl (fun hc40 => ?_) (fun hc40 => ?_)
        · rw [if_pos hc40] at h21
          refine C_seq ?_
          refine C_region ?_
          refine V_y (Y_assign rfl) rfl rfl rfl ?_
          refine V_to (fun _ _ => rfl) ?_
          obtain rfl := Option.some.inj h21
          obtain rfl := (h22 : Lp.rt _ = _)
          rw [Lp.andThen_rt] at hm
          obtain rfl := Option.some.inj hm
          refine C_ret ?_
          try simp only [↓inBlock_ret, ↓then_ret]
          exact retQ rfl (Res.one Tryd.results9 rfl) ⟨rfl, hK.kp⟩
        · rw [if_neg (nt hc40)] at h21
          refine C_skip_to (fun _ _ => rfl) ?_
          refine C_region ?_
          refine V_y (Y_addI rfl rfl) rfl rfl rfl ?_
          refine V_y (Y_move rfl) rfl rfl rfl ?_
          obtain rfl := Option.some.inj h21
          refine V_end (fun a ha41 => ?_)
          exact ⟨(), hlt24, h22, ⟨A18, ha41.sub ⟨rfl, rfl, rfl, (congrArg (fun z => some (Value.int .i64 z)) (w64_succ hlt24 hn27)), trivial⟩, ⟨hH, hr8⟩⟩⟩
      · refine C_exit (fun a ha42 => ?_)
        exact ⟨((), A18), ha42.sub trivial, ⟨(h25 (eq_of_dec hle23 hc28)).symm, hH, hr8⟩⟩
    rintro ⟨s7, A13⟩ w10 ⟨rfl, hH14, hk11⟩ a ha12
    rw [Lp.andThen_fin] at hm
    replace hK := Tr.trans hK hk11
    replace hB := Nat.le_trans hB hk11.ex.size
    replace hA := hk11.new
    replace hH : Hp w.heap.size A13 w10 ([]) := hH14
    refine C_at (n := ⟨26, [], none⟩) (fun _ _ => rfl) ?_ ha12
    refine C_seq ?_
    refine C_region ?_
    refine V_y (Y_assign rfl) rfl rfl rfl ?_
    refine V_to (fun _ _ => rfl) ?_
    obtain rfl := Option.some.inj hm
    refine C_ret ?_
    try simp only [↓inBlock_ret, ↓then_ret]
    exact retQ rfl (Res.one Tryd.results9 rfl) ⟨rfl, hK.kp⟩

end Go.Proofs.YtigplgkbilmabaaDoor.W
