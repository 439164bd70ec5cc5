import Derived.Test.YtabkhhpkibbheaaClockRanksW3
namespace Go.Proofs.Ytabkhhpkibbheaa.W
open Go Go.RowKit Go.Pu Go.Gw Go.Proofs Go.Proofs.Ytabkhhpkibbheaa.M
set_option linter.unusedVariables false
set_option linter.unusedSimpArgs false
variable {Dw : Prop}
set_option maxRecDepth 4000 in
set_option maxHeartbeats 4000000 in
theorem portref2_CalendarFault_c (w : World) {A : Nat → Prop} (hA : ∀ b, w.heap.size ≤ b → A b) (c : cal_Calendar) (v_c0 : Value) (h_c0 : Sl A w v_c0 c.zone.changes) (v_c1 : Value) (h_c1 : Sl A w v_c1 c.week) (v_c2 : Value) (h_c2 : Sl A w v_c2 c.specials) {r : Int} (hm : portref2_CalendarFault c = some r) : Ret Try.prog 62 #[.agg #[.int .i64 c.zone.offset, v_c0, v_c1, v_c2]] w fun v w' => v = .int .i64 r ∧ Kp Dw w w' := by
 unfold portref2_CalendarFault at hm
 refine enter Try.func62 rfl Try.ntmps62 rfl ?_
 have hA0 := hA
 have hB := Nat.le_refl w.heap.size
 have hK : Tr Dw w.heap.size A w A w := Tr.refl (Dw := Dw) hA
 have hH : Hp w.heap.size A w [] := Hp.nil
 refine C_seq ?_
 refine C_region ?_
 refine V_box rfl rfl ?_
 intro b7 w9 h10
 have hk12 := h10.kp (Dw := Dw)
 have h11 : El (α := cal_Calendar) A w9 b7 0 c := h10.el hA ⟨[.int .i64 c.zone.offset, v_c0], _, rfl, ⟨[.int .i64 c.zone.offset], _, rfl, rfl, ⟨_, rfl, h_c0⟩⟩, ⟨[v_c1], _, rfl, ⟨_, rfl, h_c1⟩, ⟨_, rfl, h_c2⟩⟩⟩
 have ht13 := Kp.tr (Dw := Dw) hk12 hA hB
 replace hH := Hp.kp (Dw := Dw) hH hk12
 replace hK := Tr.trans (Dw := Dw) hK ht13
 replace hB := Nat.le_trans hB ht13.ex.size
 replace hA := ht13.new
 refine V_y (Y_assign rfl) rfl rfl rfl ?_
 refine V_to (fun _ _ => rfl) ?_
 refine C_seq ?_
 refine C_seq ?_
 refine C_region ?_
 have h14 := El_cal_Calendar_0 h11
 refine V_y (Y_fieldAddr Try.underlying58 rfl Try.sizeOf54 (by decide) rfl) rfl rfl rfl ?_
 obtain ⟨v15, h17, h16⟩ := El_cal_Zone h14
 refine V_y (Y_loadA h17 Try.isAgg54 Try.sizeOf54 rfl) rfl rfl rfl ?_
 obtain ⟨x18, hx18, hm⟩ := Option.bind_eq_some_iff.1 hm
 refine V_call Try.call75 rfl rfl rfl rfl (portref2_ZoneFault_c (Dw := Dw) w9 hA c.zone v15 h16 hx18) ?_
 rintro _ w19 ⟨rfl, hk20⟩
 have ht21 := Kp.tr (Dw := Dw) hk20 hA hB
 replace hH := Hp.kp (Dw := Dw) hH hk20
 replace h11 := El.tr (Dw := Dw) h11 ht21
 replace hK := Tr.trans (Dw := Dw) hK ht21
 replace hB := Nat.le_trans hB ht21.ex.size
 replace hA := ht21.new
 refine V_y (Y_assign rfl) rfl rfl rfl ?_
 refine V_to (fun _ _ => rfl) ?_
 refine C_seq ?_
 refine C_region ?_
 refine V_y (Y_move rfl) rfl rfl rfl ?_
 refine V_y (Y_neq rfl rfl) rfl rfl rfl ?_
 refine V_to (fun _ _ => rfl) ?_
 refine C_cond rfl (fun hc22 => ?_) (fun hc22 => ?_)
 ·rw [if_pos hc22] at hm
  refine C_seq ?_
  refine C_region ?_
  refine V_y (Y_move rfl) rfl rfl rfl ?_
  refine V_y (Y_assign rfl) rfl rfl rfl ?_
  refine V_to (fun _ _ => rfl) ?_
  obtain rfl := Option.some.inj hm
  refine C_ret ?_
  try simp only [↓inBlock_ret, ↓then_ret]
  exact retQ rfl (Res.one Try.results62 rfl) ⟨rfl, hK.kp⟩
 ·rw [if_neg (nt hc22)] at hm
  refine C_skip_to (fun _ _ => rfl) ?_
  refine C_seq ?_
  refine C_seq ?_
  refine C_region ?_
  have h23 := El_cal_Calendar_1 h11
  refine V_y (Y_fieldAddr Try.underlying58 rfl Try.sizeOf55 (by decide) rfl) rfl rfl rfl ?_
  obtain ⟨v24, h25, h26⟩ := El.list h23
  refine V_y (Y_load h25 Try.isAgg55 rfl) rfl rfl rfl ?_
  refine V_y (Y_lenSl h26 rfl Try.underlying55 rfl) rfl rfl rfl ?_
  refine V_y (Y_gtr rfl rfl) rfl rfl rfl ?_
  refine V_y (Y_move rfl) rfl rfl rfl ?_
  refine V_cut 5 (fun _ : Unit => [(1, .pointer (some ⟨b7, 0, none⟩)), (23, .bool ((decide ((60 : Int) < (c.week.length : Int))) || (decide ((200 : Int) < (c.specials.length : Int)))))]) (fun _ w' => w19 = w') ?_ ?_
  ·simp only [List.take, List.drop]
   rcases Bool.eq_false_or_eq_true (decide ((60 : Int) < (c.week.length : Int))) with hc27 | hc27
   ·refine V_gn rfl rfl rfl hc27 rfl rfl rfl ?_
    refine V_gn rfl rfl rfl hc27 rfl rfl rfl ?_
    refine V_gn rfl rfl rfl hc27 rfl rfl rfl ?_
    refine V_gn rfl rfl rfl hc27 rfl rfl rfl ?_
    refine V_y (Y_pick_te rfl hc27 rfl) rfl rfl rfl ?_
    exact V_end fun a ha => ⟨(), ha.sub ⟨rfl, (by rw [hc27]; rfl), trivial⟩, rfl⟩
   ·refine V_ge rfl rfl rfl hc27 ?_
    have h29 := El_cal_Calendar_2 h11
    refine V_y (Y_fieldAddr Try.underlying58 rfl Try.sizeOf56 (by decide) rfl) rfl rfl rfl ?_
    refine V_ge rfl rfl rfl hc27 ?_
    obtain ⟨v30, h31, h32⟩ := El.list h29
    refine V_y (Y_load h31 Try.isAgg56 rfl) rfl rfl rfl ?_
    refine V_ge rfl rfl rfl hc27 ?_
    refine V_y (Y_lenSl h32 rfl Try.underlying56 rfl) rfl rfl rfl ?_
    refine V_ge rfl rfl rfl hc27 ?_
    refine V_y (Y_gtr rfl rfl) rfl rfl rfl ?_
    refine V_y (Y_pick_fe rfl hc27 rfl) rfl rfl rfl ?_
    exact V_end fun a ha => ⟨(), ha.sub ⟨rfl, (by rw [hc27]; rfl), trivial⟩, rfl⟩
  simp only [List.take, List.drop]
  rintro _ _ rfl
  refine V_to (fun _ _ => rfl) ?_
  refine C_cond rfl (fun hc33 => ?_) (fun hc33 => ?_)
  ·rw [if_pos hc33] at hm
   refine C_seq ?_
   refine C_region ?_
   refine V_y (Y_assign rfl) rfl rfl rfl ?_
   refine V_to (fun _ _ => rfl) ?_
   obtain rfl := Option.some.inj hm
   refine C_ret ?_
   try simp only [↓inBlock_ret, ↓then_ret]
   exact retQ rfl (Res.one Try.results62 rfl) ⟨rfl, hK.kp⟩
  ·rw [if_neg (nt hc33)] at hm
   refine C_skip_to (fun _ _ => rfl) ?_
   refine C_seq ?_
   refine C_seq ?_
   refine C_region ?_
   have h34 := El_cal_Calendar_1 h11
   refine V_y (Y_fieldAddr Try.underlying58 rfl Try.sizeOf55 (by decide) rfl) rfl rfl rfl ?_
   obtain ⟨v35, h36, h37⟩ := El.list h34
   refine V_y (Y_load h36 Try.isAgg55 rfl) rfl rfl rfl ?_
   obtain ⟨x38, hx38, hm⟩ := Option.bind_eq_some_iff.1 hm
   refine V_call Try.call76 rfl rfl rfl rfl (portref2_shiftFault_c (Dw := Dw) w19 hA c.week v35 h37 true hx38) ?_
   rintro _ w39 ⟨rfl, hk40⟩
   have ht41 := Kp.tr (Dw := Dw) hk40 hA hB
   replace hH := Hp.kp (Dw := Dw) hH hk40
   replace h11 := El.tr (Dw := Dw) h11 ht41
   replace hK := Tr.trans (Dw := Dw) hK ht41
   replace hB := Nat.le_trans hB ht41.ex.size
   replace hA := ht41.new
   refine V_y (Y_assign rfl) rfl rfl rfl ?_
   refine V_to (fun _ _ => rfl) ?_
   refine C_seq ?_
   refine C_region ?_
   refine V_y (Y_move rfl) rfl rfl rfl ?_
   refine V_y (Y_neq rfl rfl) rfl rfl rfl ?_
   refine V_to (fun _ _ => rfl) ?_
   refine C_cond rfl (fun hc42 => ?_) (fun hc42 => ?_)
   ·rw [if_pos hc42] at hm
    refine C_seq ?_
    refine C_region ?_
    refine V_y (Y_move rfl) rfl rfl rfl ?_
    refine V_y (Y_assign rfl) rfl rfl rfl ?_
    refine V_to (fun _ _ => rfl) ?_
    obtain rfl := Option.some.inj hm
    refine C_ret ?_
    try simp only [↓inBlock_ret, ↓then_ret]
    exact retQ rfl (Res.one Try.results62 rfl) ⟨rfl, hK.kp⟩
   ·rw [if_neg (nt hc42)] at hm
    refine C_skip_to (fun _ _ => rfl) ?_
    refine C_seq ?_
    refine C_seq ?_
    refine C_region ?_
    have h43 := El_cal_Calendar_2 h11
    refine V_y (Y_fieldAddr Try.underlying58 rfl Try.sizeOf56 (by decide) rfl) rfl rfl rfl ?_
    obtain ⟨v44, h45, h46⟩ := El.list h43
    refine V_y (Y_load h45 Try.isAgg56 rfl) rfl rfl rfl ?_
    refine V_y (Y_lenSl h46 rfl Try.underlying56 rfl) rfl rfl rfl ?_
    refine V_y (Y_move rfl) rfl rfl rfl ?_
    refine V_to (fun _ _ => rfl) ?_
    have hn67 := Sl.le h46
    obtain ⟨o47, ho47, hm⟩ := Option.bind_eq_some_iff.1 hm
    refine C_cutG (ι := (Unit × (Nat → Prop))) (fun ⟨s48, A54⟩ => []) (fun ⟨s48, A54⟩ => fun w' => o47 = .fin s48 ∧ Hp w.heap.size A54 w' ([]) ∧ Tr Dw w.heap.size A w39 A54 w') ?_ ?_
    ·refine C_block ?_
     refine C_range ho47 (fun k50 _ a w' => ∃ i : (Nat → Prop), Has ⟨74, [], none⟩ a ([(1, .pointer (some ⟨b7, 0, none⟩)), (31, v44), (32, .int .i64 (c.specials.length : Int)), (33, .int .i64 (k50 : Int))]) ∧ Hp w.heap.size i w' ([]) ∧ Tr Dw w.heap.size A w39 i w') (fun a ha => ⟨A, ha.sub ⟨rfl, rfl, rfl, rfl, trivial⟩, ⟨hH, Tr.refl (Dw := Dw) hA⟩⟩) ?_
     rintro K k50 _ a w57 ⟨A58, ha124, hH59, hr49⟩ hle63 K66 h65
     refine C_of ?_ ha124
     replace h11 := El.tr (Dw := Dw) h11 hr49
     replace h46 := Sl.tr (Dw := Dw) h46 hr49
     replace hK := Tr.trans (Dw := Dw) hK hr49
     replace hB := Nat.le_trans hB hr49.ex.size
     replace hA := hr49.new
     replace hH : Hp w.heap.size A58 w57 ([]) := hH59
     refine C_seq (C_region (V_y (Y_lss rfl rfl) rfl rfl rfl (V_to (fun _ _ => rfl) ?_)))
     refine C_seq ?_
     refine C_cond rfl (fun hc68 => ?_) (fun hc68 => ?_)
     ·have hlt64 := lt_of_dec hc68
      obtain ⟨x60, h61, h62⟩ := K66 hlt64
      refine C_skip_to (fun _ _ => rfl) ?_
      refine C_seq ?_
      refine C_block ?_
      refine C_seq ?_
      refine C_region ?_
      refine V_y (Y_move rfl) rfl rfl rfl ?_
      obtain ⟨x69, hx69, h61⟩ := Option.bind_eq_some_iff.1 h61
      refine V_indexAddr h46 hx69 Try.underlying56 Try.sizeOf82 rfl rfl rfl ?_
      intro b70 o71 h72
      obtain ⟨v73, h75, h74⟩ := El_cal_Special h72
      refine V_y (Y_loadA h75 Try.isAgg82 Try.sizeOf82 rfl) rfl rfl rfl ?_
      refine V_alloc Try.zeroValue82 rfl ?_
      intro b76 w77 h78
      refine V_y (Y_assign rfl) rfl rfl rfl ?_
      have h83 : (v73).oneCell' = true := by obtain ⟨_, _, e, _⟩ := Sl.form h74; rw [e]; rfl
      refine V_storeNew h78 Try.sizeOf82 rfl rfl rfl rfl (by exact (List.forall_mem_cons.2 ⟨rfl, (List.forall_mem_cons.2 ⟨h83, (fun _ h => nomatch h)⟩)⟩)) ?_
      intro w79 h80
      have hk85 := h80.kp (Dw := Dw)
      have h84 : El (α := cal_Special) A58 w79 b76 0 x69 := h80.el hA ⟨[.int .i64 x69.day], _, rfl, rfl, ⟨_, rfl, h74⟩⟩
      have ht86 := Kp.tr (Dw := Dw) hk85 hA hB
      replace hH := Hp.kp (Dw := Dw) hH hk85
      replace h11 := El.tr (Dw := Dw) h11 ht86
      replace hK := Tr.trans (Dw := Dw) hK ht86
      replace hr49 := Tr.trans (Dw := Dw) hr49 ht86
      replace hB := Nat.le_trans hB ht86.ex.size
      replace hA := ht86.new
      refine V_to (fun _ _ => rfl) ?_
      refine C_seq ?_
      refine C_block ?_
      refine C_seq ?_
      refine C_region ?_
      have h87 := El_cal_Special_0 h84
      refine V_y (Y_fieldAddr Try.underlying82 rfl Try.sizeOf3 (by decide) rfl) rfl rfl rfl ?_
      refine V_y (Y_load (El.int h87) Try.isAgg3 rfl) rfl rfl rfl ?_
      refine V_y (Y_lss rfl rfl) rfl rfl rfl ?_
      refine V_y (Y_move rfl) rfl rfl rfl ?_
      refine V_cut 4 (fun _ : Unit => [(1, .pointer (some ⟨b7, 0, none⟩)), (5, .int .i64 (k50 : Int)), (6, .pointer (some ⟨b76, 0, none⟩)), (31, v44), (32, .int .i64 (c.specials.length : Int)), (33, .int .i64 (k50 : Int)), (46, .bool ((decide (x69.day < (-1))) || (decide ((2084 : Int) < x69.day))))]) (fun _ w' => w79 = w') ?_ ?_
      ·simp only [List.take, List.drop]
       rcases Bool.eq_false_or_eq_true (decide (x69.day < (-1))) with hc88 | hc88
       ·refine V_gn rfl rfl rfl hc88 rfl rfl rfl ?_
        refine V_gn rfl rfl rfl hc88 rfl rfl rfl ?_
        refine V_gn rfl rfl rfl hc88 rfl rfl rfl ?_
        refine V_y (Y_pick_te rfl hc88 rfl) rfl rfl rfl ?_
        exact V_end fun a ha => ⟨(), ha.sub ⟨rfl, rfl, rfl, rfl, rfl, rfl, (by rw [hc88]; rfl), trivial⟩, rfl⟩
       ·refine V_ge rfl rfl rfl hc88 ?_
        have h90 := El_cal_Special_0 h84
        refine V_y (Y_fieldAddr Try.underlying82 rfl Try.sizeOf3 (by decide) rfl) rfl rfl rfl ?_
        refine V_ge rfl rfl rfl hc88 ?_
        refine V_y (Y_load (El.int h90) Try.isAgg3 rfl) rfl rfl rfl ?_
        refine V_ge rfl rfl rfl hc88 ?_
        refine V_y (Y_gtr rfl rfl) rfl rfl rfl ?_
        refine V_y (Y_pick_fe rfl hc88 rfl) rfl rfl rfl ?_
        exact V_end fun a ha => ⟨(), ha.sub ⟨rfl, rfl, rfl, rfl, rfl, rfl, (by rw [hc88]; rfl), trivial⟩, rfl⟩
      simp only [List.take, List.drop]
      rintro _ _ rfl
      refine V_y (Y_assign rfl) rfl rfl rfl ?_
      refine V_to (fun _ _ => rfl) ?_
      refine C_cond rfl (fun hc91 => ?_) (fun hc91 => ?_)
      ·rw [if_pos hc91] at h61
       refine C_seq ?_
       refine C_region ?_
       refine V_y (Y_assign rfl) rfl rfl rfl ?_
       refine V_to (fun _ _ => rfl) ?_
       obtain rfl := Option.some.inj h61
       obtain rfl := (h62 : Lp.rt _ = _)
       rw [Lp.andThen_rt] at hm
       obtain rfl := Option.some.inj hm
       refine C_ret ?_
       try simp only [↓inBlock_ret, ↓then_ret]
       exact retQ rfl (Res.one Try.results62 rfl) ⟨rfl, hK.kp⟩
      ·rw [if_neg (nt hc91)] at h61
       refine C_seq ?_
       refine C_region_q (Dw := Dw) Try_mixed (by kernel_rfl) ?_
       refine VQ_y (fun w' hw' => Y_move rfl) rfl rfl rfl ?_
       refine VQ_y (fun w' hw' => Y_gtr rfl rfl) rfl rfl rfl ?_
       refine VQ_y (fun w' hw' => Y_move rfl) rfl rfl rfl ?_
       obtain ⟨s93, hs93, h61⟩ := Option.bind_eq_some_iff.1 h61
       refine VQ_cut 11 (fun _ : Unit => [(1, .pointer (some ⟨b7, 0, none⟩)), (6, .pointer (some ⟨b76, 0, none⟩)), (31, v44), (32, .int .i64 (c.specials.length : Int)), (33, .int .i64 (k50 : Int)), (61, .bool s93)]) (fun _ => True) ?_ ?_
       ·simp only [List.take, List.drop]
        rcases Bool.eq_false_or_eq_true (decide ((0 : Int) < (k50 : Int))) with hc92 | hc92
        ·rw [if_pos hc92] at hs93
         refine VQ_ge rfl rfl rfl hc92 ?_
         have h94 := El_cal_Special_0 h84
         refine VQ_y (fun w' hw' => Y_fieldAddr Try.underlying82 rfl Try.sizeOf3 (by decide) rfl) rfl rfl rfl ?_
         refine VQ_ge rfl rfl rfl hc92 ?_
         refine VQ_y (fun w' hw' => Y_load (El.int (El.kp (Dw := Dw) h94 hw')) Try.isAgg3 rfl) rfl rfl rfl ?_
         refine VQ_ge rfl rfl rfl hc92 ?_
         have h95 := El_cal_Calendar_2 h11
         refine VQ_y (fun w' hw' => Y_fieldAddr Try.underlying58 rfl Try.sizeOf56 (by decide) rfl) rfl rfl rfl ?_
         refine VQ_ge rfl rfl rfl hc92 ?_
         obtain ⟨v96, h97, h98⟩ := El.list h95
         refine VQ_y (fun w' hw' => Y_load ((World.cell?_of_block (hw'.block _ (World.block_lt_of_cell? _ _ h97))).trans h97) Try.isAgg56 rfl) rfl rfl rfl ?_
         refine VQ_ge rfl rfl rfl hc92 ?_
         refine VQ_y (fun w' hw' => Y_move rfl) rfl rfl rfl ?_
         refine VQ_ge rfl rfl rfl hc92 ?_
         refine VQ_y (fun w' hw' => Y_subI rfl rfl) rfl rfl rfl ?_
         refine VQ_ge rfl rfl rfl hc92 ?_
         obtain ⟨x99, hx99, hs93⟩ := Option.bind_eq_some_iff.1 hs93
         refine VQ_indexAddr h98 hx99 Try.underlying56 Try.sizeOf82 rfl rfl rfl ?_
         intro b100 o101 h102
         refine VQ_ge rfl rfl rfl hc92 ?_
         have h103 := El_cal_Special_0 h102
         refine VQ_y (fun w' hw' => Y_fieldAddr Try.underlying82 rfl Try.sizeOf3 (by decide) rfl) rfl rfl rfl ?_
         refine VQ_ge rfl rfl rfl hc92 ?_
         refine VQ_y (fun w' hw' => Y_load (El.int (El.kp (Dw := Dw) h103 hw')) Try.isAgg3 rfl) rfl rfl rfl ?_
         refine VQ_ge rfl rfl rfl hc92 ?_
         refine VQ_y (fun w' hw' => Y_leq rfl rfl) rfl rfl rfl ?_
         refine VQ_y (fun _ _ => Y_pick_te rfl hc92 rfl) rfl rfl rfl ?_
         obtain rfl := Option.some.inj hs93
         exact VQ_end fun a ha => ⟨(), ha.sub ⟨rfl, rfl, rfl, rfl, rfl, rfl, trivial⟩, trivial⟩
        ·rw [if_neg (nt hc92)] at hs93
         refine VQ_gn rfl rfl rfl hc92 rfl rfl rfl ?_
         refine VQ_gn rfl rfl rfl hc92 rfl rfl rfl ?_
         refine VQ_gn rfl rfl rfl hc92 rfl rfl rfl ?_
         refine VQ_gn rfl rfl rfl hc92 rfl rfl rfl ?_
         refine VQ_gn rfl rfl rfl hc92 rfl rfl rfl ?_
         refine VQ_gn rfl rfl rfl hc92 rfl rfl rfl ?_
         refine VQ_gn rfl rfl rfl hc92 rfl rfl rfl ?_
         refine VQ_gn rfl rfl rfl hc92 rfl rfl rfl ?_
         refine VQ_gn rfl rfl rfl hc92 rfl rfl rfl ?_
         refine VQ_gn rfl rfl rfl hc92 rfl rfl rfl ?_
         refine VQ_y (fun _ _ => Y_pick_fe rfl hc92 rfl) rfl rfl rfl ?_
         obtain rfl := Option.some.inj hs93
         exact VQ_end fun a ha => ⟨(), ha.sub ⟨rfl, rfl, rfl, rfl, rfl, rfl, trivial⟩, trivial⟩
       simp only [List.take, List.drop]
       rintro _ _
       refine VQ_y (fun w' hw' => Y_assign rfl) rfl rfl rfl ?_
       refine VQ_to (fun _ _ => rfl) (fun w104 hk105 => ?_)
       have ht106 := Kp.tr (Dw := Dw) hk105 hA hB
       replace hH := Hp.kp (Dw := Dw) hH hk105
       replace h84 := El.tr (Dw := Dw) h84 ht106
       replace hK := Tr.trans (Dw := Dw) hK ht106
       replace hr49 := Tr.trans (Dw := Dw) hr49 ht106
       replace hB := Nat.le_trans hB ht106.ex.size
       replace hA := ht106.new
       refine C_cond rfl (fun hc107 => ?_) (fun hc107 => ?_)
       ·rw [if_pos hc107] at h61
        refine C_seq ?_
        refine C_region ?_
        refine V_y (Y_assign rfl) rfl rfl rfl ?_
        refine V_to (fun _ _ => rfl) ?_
        obtain rfl := Option.some.inj h61
        obtain rfl := (h62 : Lp.rt _ = _)
        rw [Lp.andThen_rt] at hm
        obtain rfl := Option.some.inj hm
        refine C_ret ?_
        try simp only [↓inBlock_ret, ↓then_ret]
        exact retQ rfl (Res.one Try.results62 rfl) ⟨rfl, hK.kp⟩
       ·rw [if_neg (nt hc107)] at h61
        refine C_seq ?_
        refine C_region ?_
        have h108 := El_cal_Special_1 h84
        refine V_y (Y_fieldAddr Try.underlying82 rfl Try.sizeOf55 (by decide) rfl) rfl rfl rfl ?_
        obtain ⟨v109, h110, h111⟩ := El.list h108
        refine V_y (Y_load h110 Try.isAgg55 rfl) rfl rfl rfl ?_
        refine V_y (Y_lenSl h111 rfl Try.underlying55 rfl) rfl rfl rfl ?_
        refine V_y (Y_gtr rfl rfl) rfl rfl rfl ?_
        refine V_y (Y_assign rfl) rfl rfl rfl ?_
        refine V_to (fun _ _ => rfl) ?_
        refine C_cond rfl (fun hc112 => ?_) (fun hc112 => ?_)
        ·rw [if_pos hc112] at h61
         refine C_seq ?_
         refine C_region ?_
         refine V_y (Y_assign rfl) rfl rfl rfl ?_
         refine V_to (fun _ _ => rfl) ?_
         obtain rfl := Option.some.inj h61
         obtain rfl := (h62 : Lp.rt _ = _)
         rw [Lp.andThen_rt] at hm
         obtain rfl := Option.some.inj hm
         refine C_ret ?_
         try simp only [↓inBlock_ret, ↓then_ret]
         exact retQ rfl (Res.one Try.results62 rfl) ⟨rfl, hK.kp⟩
        ·rw [if_neg (nt hc112)] at h61
         refine C_skip_to (fun _ _ => rfl) ?_
         refine C_seq ?_
         refine C_region ?_
         have h113 := El_cal_Special_1 h84
         refine V_y (Y_fieldAddr Try.underlying82 rfl Try.sizeOf55 (by decide) rfl) rfl rfl rfl ?_
         obtain ⟨v114, h115, h116⟩ := El.list h113
         refine V_y (Y_load h115 Try.isAgg55 rfl) rfl rfl rfl ?_
         obtain ⟨x117, hx117, h61⟩ := Option.bind_eq_some_iff.1 h61
         refine V_call Try.call76 rfl rfl rfl rfl (portref2_shiftFault_c (Dw := Dw) w104 hA x69.shifts v114 h116 false hx117) ?_
         rintro _ w118 ⟨rfl, hk119⟩
         have ht120 := Kp.tr (Dw := Dw) hk119 hA hB
         replace hH := Hp.kp (Dw := Dw) hH hk119
         replace hK := Tr.trans (Dw := Dw) hK ht120
         replace hr49 := Tr.trans (Dw := Dw) hr49 ht120
         refine V_y (Y_assign rfl) rfl rfl rfl ?_
         refine V_to (fun _ _ => rfl) ?_
         refine C_seq ?_
         refine C_region ?_
         refine V_y (Y_move rfl) rfl rfl rfl ?_
         refine V_y (Y_neq rfl rfl) rfl rfl rfl ?_
         refine V_to (fun _ _ => rfl) ?_
         refine C_cond rfl (fun hc121 => ?_) (fun hc121 => ?_)
         ·rw [if_pos hc121] at h61
          refine C_seq ?_
          refine C_region ?_
          refine V_y (Y_move rfl) rfl rfl rfl ?_
          refine V_y (Y_assign rfl) rfl rfl rfl ?_
          refine V_to (fun _ _ => rfl) ?_
          obtain rfl := Option.some.inj h61
          obtain rfl := (h62 : Lp.rt _ = _)
          rw [Lp.andThen_rt] at hm
          obtain rfl := Option.some.inj hm
          refine C_ret ?_
          try simp only [↓inBlock_ret, ↓then_ret]
          exact retQ rfl (Res.one Try.results62 rfl) ⟨rfl, hK.kp⟩
         ·rw [if_neg (nt hc121)] at h61
          refine C_skip_to (fun _ _ => rfl) ?_
          refine C_region ?_
          refine V_y (Y_addI rfl rfl) rfl rfl rfl ?_
          refine V_y (Y_move rfl) rfl rfl rfl ?_
          obtain rfl := Option.some.inj h61
          refine V_end (fun a ha122 => ?_)
          exact ⟨(), hlt64, h62, ⟨A58, ha122.sub ⟨rfl, rfl, rfl, (congrArg (fun z => some (Value.int .i64 z)) (w64_succ hlt64 hn67)), trivial⟩, ⟨hH, hr49⟩⟩⟩
     ·refine C_exit (fun a ha123 => ?_)
      exact ⟨((), A58), ha123.sub trivial, ⟨(h65 (eq_of_dec hle63 hc68)).symm, hH, hr49⟩⟩
    rintro ⟨s48, A54⟩ w51 ⟨rfl, hH55, hk52⟩ a ha53
    rw [Lp.andThen_fin] at hm
    replace hK := Tr.trans (Dw := Dw) hK hk52
    replace hA := hk52.new
    replace hH : Hp w.heap.size A54 w51 ([]) := hH55
    refine C_at (n := ⟨74, [], none⟩) (fun _ _ => rfl) ?_ ha53
    refine C_seq ?_
    refine C_region ?_
    refine V_y (Y_assign rfl) rfl rfl rfl ?_
    refine V_to (fun _ _ => rfl) ?_
    obtain rfl := Option.some.inj hm
    refine C_ret ?_
    try simp only [↓inBlock_ret, ↓then_ret]
    exact retQ rfl (Res.one Try.results62 rfl) ⟨rfl, hK.kp⟩
set_option maxRecDepth 4000 in
set_option maxHeartbeats 4000000 in
theorem portref2_CalsFault_c (w : World) {A : Nat → Prop} (hA : ∀ b, w.heap.size ≤ b → A b) (cals : (List cal_Calendar)) (v_cals : Value) (h_cals : Sl A w v_cals cals) (most : Int) {r : Int} (hm : portref2_CalsFault cals most = some r) : Ret Try.prog 39 #[v_cals, .int .i64 most] w fun v w' => v = .int .i64 r ∧ Kp Dw w w' := by
 unfold portref2_CalsFault at hm
 refine enter Try.func39 rfl Try.ntmps39 rfl ?_
 have hA0 := hA
 have hB := Nat.le_refl w.heap.size
 have hK : Tr Dw w.heap.size A w A w := Tr.refl (Dw := Dw) hA
 have hH : Hp w.heap.size A w [] := Hp.nil
 refine C_seq ?_
 refine C_region ?_
 refine V_y (Y_assign rfl) rfl rfl rfl ?_
 refine V_to (fun _ _ => rfl) ?_
 refine C_seq ?_
 refine C_seq ?_
 refine C_region ?_
 refine V_y (Y_move rfl) rfl rfl rfl ?_
 refine V_y (Y_lenSl h_cals rfl Try.underlying23 rfl) rfl rfl rfl ?_
 refine V_y (Y_move rfl) rfl rfl rfl ?_
 refine V_y (Y_gtr rfl rfl) rfl rfl rfl ?_
 refine V_to (fun _ _ => rfl) ?_
 refine C_cond rfl (fun hc3 => ?_) (fun hc3 => ?_)
 ·rw [if_pos hc3] at hm
  refine C_seq ?_
  refine C_region ?_
  refine V_y (Y_assign rfl) rfl rfl rfl ?_
  refine V_to (fun _ _ => rfl) ?_
  obtain rfl := Option.some.inj hm
  refine C_ret ?_
  try simp only [↓inBlock_ret, ↓then_ret]
  exact retQ rfl (Res.one Try.results39 rfl) ⟨rfl, hK.kp⟩
 ·rw [if_neg (nt hc3)] at hm
  refine C_skip_to (fun _ _ => rfl) ?_
  refine C_seq ?_
  refine C_seq ?_
  refine C_region ?_
  refine V_y (Y_move rfl) rfl rfl rfl ?_
  refine V_y (Y_lenSl h_cals rfl Try.underlying23 rfl) rfl rfl rfl ?_
  refine V_y (Y_move rfl) rfl rfl rfl ?_
  refine V_to (fun _ _ => rfl) ?_
  have hn25 := Sl.le h_cals
  obtain ⟨o4, ho4, hm⟩ := Option.bind_eq_some_iff.1 hm
  refine C_cutG (ι := (Unit × (Nat → Prop))) (fun ⟨s5, A12⟩ => []) (fun ⟨s5, A12⟩ => fun w' => o4 = .fin s5 ∧ Hp w.heap.size A12 w' ([]) ∧ Tr Dw w.heap.size A w A12 w') ?_ ?_
  ·refine C_block ?_
   refine C_range ho4 (fun k7 _ a w' => ∃ i : (Nat → Prop), Has ⟨24, [], none⟩ a ([(12, v_cals), (13, .int .i64 (cals.length : Int)), (14, .int .i64 (k7 : Int))]) ∧ Hp w.heap.size i w' ([]) ∧ Tr Dw w.heap.size A w i w') (fun a ha => ⟨A, ha.sub ⟨rfl, rfl, rfl, trivial⟩, ⟨hH, Tr.refl (Dw := Dw) hA⟩⟩) ?_
   rintro K k7 _ a w15 ⟨A16, ha69, hH17, hr6⟩ hle21 K24 h23
   refine C_of ?_ ha69
   replace h_cals := Sl.tr (Dw := Dw) h_cals hr6
   replace hK := Tr.trans (Dw := Dw) hK hr6
   replace hB := Nat.le_trans hB hr6.ex.size
   replace hA := hr6.new
   replace hH : Hp w.heap.size A16 w15 ([]) := hH17
   refine C_seq (C_region (V_y (Y_lss rfl rfl) rfl rfl rfl (V_to (fun _ _ => rfl) ?_)))
   refine C_seq ?_
   refine C_cond rfl (fun hc26 => ?_) (fun hc26 => ?_)
   ·have hlt22 := lt_of_dec hc26
    obtain ⟨x18, h19, h20⟩ := K24 hlt22
    refine C_skip_to (fun _ _ => rfl) ?_
    refine C_seq ?_
    refine C_block ?_
    refine C_seq ?_
    refine C_region ?_
    obtain ⟨x27, hx27, h19⟩ := Option.bind_eq_some_iff.1 h19
    refine V_indexAddr h_cals hx27 Try.underlying23 Try.sizeOf58 rfl rfl rfl ?_
    intro b28 o29 h30
    obtain ⟨v31, v33, v35, h37, h32, h34, h36⟩ := El_cal_Calendar h30
    refine V_y (Y_loadA h37 Try.isAgg58 Try.sizeOf58 rfl) rfl rfl rfl ?_
    refine V_alloc Try.zeroValue58 rfl ?_
    intro b38 w39 h40
    have h45 : (v31).oneCell' = true := by obtain ⟨_, _, e, _⟩ := Sl.form h32; rw [e]; rfl
    have h48 : (v33).oneCell' = true := by obtain ⟨_, _, e, _⟩ := Sl.form h34; rw [e]; rfl
    have h51 : (v35).oneCell' = true := by obtain ⟨_, _, e, _⟩ := Sl.form h36; rw [e]; rfl
    refine V_storeNew h40 Try.sizeOf58 rfl rfl rfl rfl (by exact (List.forall_mem_cons.2 ⟨rfl, (List.forall_mem_cons.2 ⟨h45, (List.forall_mem_cons.2 ⟨h48, (List.forall_mem_cons.2 ⟨h51, (fun _ h => nomatch h)⟩)⟩)⟩)⟩)) ?_
    intro w41 h42
    have hk53 := h42.kp (Dw := Dw)
    have h52 : El (α := cal_Calendar) A16 w41 b38 0 x27 := h42.el hA ⟨[.int .i64 x27.zone.offset, v31], _, rfl, ⟨[.int .i64 x27.zone.offset], _, rfl, rfl, ⟨_, rfl, h32⟩⟩, ⟨[v33], _, rfl, ⟨_, rfl, h34⟩, ⟨_, rfl, h36⟩⟩⟩
    have ht54 := Kp.tr (Dw := Dw) hk53 hA hB
    replace hH := Hp.kp (Dw := Dw) hH hk53
    replace hK := Tr.trans (Dw := Dw) hK ht54
    replace hr6 := Tr.trans (Dw := Dw) hr6 ht54
    replace hB := Nat.le_trans hB ht54.ex.size
    replace hA := ht54.new
    refine V_to (fun _ _ => rfl) ?_
    refine C_seq ?_
    refine C_region ?_
    obtain ⟨v55, v57, v59, h61, h56, h58, h60⟩ := El_cal_Calendar h52
    refine V_y (Y_loadA h61 Try.isAgg58 Try.sizeOf58 rfl) rfl rfl rfl ?_
    obtain ⟨x62, hx62, h19⟩ := Option.bind_eq_some_iff.1 h19
    refine V_call Try.call62 rfl rfl rfl rfl (portref2_CalendarFault_c (Dw := Dw) w41 hA x27 v55 h56 v57 h58 v59 h60 hx62) ?_
    rintro _ w63 ⟨rfl, hk64⟩
    have ht65 := Kp.tr (Dw := Dw) hk64 hA hB
    replace hH := Hp.kp (Dw := Dw) hH hk64
    replace hK := Tr.trans (Dw := Dw) hK ht65
    replace hr6 := Tr.trans (Dw := Dw) hr6 ht65
    refine V_y (Y_assign rfl) rfl rfl rfl ?_
    refine V_to (fun _ _ => rfl) ?_
    refine C_seq ?_
    refine C_region ?_
    refine V_y (Y_move rfl) rfl rfl rfl ?_
    refine V_y (Y_neq rfl rfl) rfl rfl rfl ?_
    refine V_to (fun _ _ => rfl) ?_
    refine C_cond rfl (fun hc66 => ?_) (fun hc66 => ?_)
    ·rw [if_pos hc66] at h19
     refine C_seq ?_
     refine C_region ?_
     refine V_y (Y_move rfl) rfl rfl rfl ?_
     refine V_y (Y_assign rfl) rfl rfl rfl ?_
     refine V_to (fun _ _ => rfl) ?_
     obtain rfl := Option.some.inj h19
     obtain rfl := (h20 : Lp.rt _ = _)
     rw [Lp.andThen_rt] at hm
     obtain rfl := Option.some.inj hm
     refine C_ret ?_
     try simp only [↓inBlock_ret, ↓then_ret]
     exact retQ rfl (Res.one Try.results39 rfl) ⟨rfl, hK.kp⟩
    ·rw [if_neg (nt hc66)] at h19
     refine C_skip_to (fun _ _ => rfl) ?_
     refine C_region ?_
     refine V_y (Y_addI rfl rfl) rfl rfl rfl ?_
     refine V_y (Y_move rfl) rfl rfl rfl ?_
     obtain rfl := Option.some.inj h19
     refine V_end (fun a ha67 => ?_)
     exact ⟨(), hlt22, h20, ⟨A16, ha67.sub ⟨rfl, rfl, (congrArg (fun z => some (Value.int .i64 z)) (w64_succ hlt22 hn25)), trivial⟩, ⟨hH, hr6⟩⟩⟩
   ·refine C_exit (fun a ha68 => ?_)
    exact ⟨((), A16), ha68.sub trivial, ⟨(h23 (eq_of_dec hle21 hc26)).symm, hH, hr6⟩⟩
  rintro ⟨s5, A12⟩ w9 ⟨rfl, hH13, hk10⟩ a ha11
  rw [Lp.andThen_fin] at hm
  replace hK := Tr.trans (Dw := Dw) hK hk10
  replace hA := hk10.new
  replace hH : Hp w.heap.size A12 w9 ([]) := hH13
  refine C_at (n := ⟨24, [], none⟩) (fun _ _ => rfl) ?_ ha11
  refine C_seq ?_
  refine C_region ?_
  refine V_y (Y_assign rfl) rfl rfl rfl ?_
  refine V_to (fun _ _ => rfl) ?_
  obtain rfl := Option.some.inj hm
  refine C_ret ?_
  try simp only [↓inBlock_ret, ↓then_ret]
  exact retQ rfl (Res.one Try.results39 rfl) ⟨rfl, hK.kp⟩
set_option maxRecDepth 4000 in
set_option maxHeartbeats 4000000 in
theorem portref2_clocksFault_1_c (w : World) {A : Nat → Prop} (hA : ∀ b, w.heap.size ≤ b → A b) (p : level_Piece) (p1 : (List cal_Calendar)) (b_p1 : Nat) (h_p1 : El A w b_p1 0 p1) {r : Bool} (hm : portref2_clocksFault_1 p p1 = some r) : Ret Try.prog 40 #[.agg #[.int .i64 p.from_, .int .i64 p.to_, .int .i64 p.calendar], .pointer (some ⟨b_p1, 0, none⟩)] w fun v w' => v = .bool r ∧ Kp Dw w w' := by
 unfold portref2_clocksFault_1 at hm
 refine enter Try.func40 rfl Try.ntmps40 rfl ?_
 have hA0 := hA
 have hB := Nat.le_refl w.heap.size
 have hK : Tr Dw w.heap.size A w A w := Tr.refl (Dw := Dw) hA
 have hH : Hp w.heap.size A w [] := Hp.nil
 refine C_seq ?_
 refine C_region ?_
 refine V_box rfl rfl ?_
 intro b1 w2 h3
 have hk5 := h3.kp (Dw := Dw)
 have h4 : El (α := level_Piece) A w2 b1 0 p := h3.el hA ⟨[.int .i64 p.from_], _, rfl, rfl, ⟨[.int .i64 p.to_], _, rfl, rfl, rfl⟩⟩
 have ht6 := Kp.tr (Dw := Dw) hk5 hA hB
 replace h_p1 := El.tr (Dw := Dw) h_p1 ht6
 replace hK := Tr.trans (Dw := Dw) hK ht6
 refine V_y (Y_assign rfl) rfl rfl rfl ?_
 refine V_to (fun _ _ => rfl) ?_
 refine C_seq ?_
 refine C_region ?_
 have h7 := El_level_Piece_2 h4
 refine V_y (Y_fieldAddr Try.underlying62 rfl Try.sizeOf3 (by decide) rfl) rfl rfl rfl ?_
 refine V_y (Y_load (El.int h7) Try.isAgg3 rfl) rfl rfl rfl ?_
 obtain ⟨v8, h9, h10⟩ := El.list h_p1
 refine V_y (Y_load h9 Try.isAgg23 rfl) rfl rfl rfl ?_
 refine V_y (Y_lenSl h10 rfl Try.underlying23 rfl) rfl rfl rfl ?_
 refine V_y (Y_geq rfl rfl) rfl rfl rfl ?_
 refine V_y (Y_assign rfl) rfl rfl rfl ?_
 refine V_to (fun _ _ => rfl) ?_
 obtain rfl := Option.some.inj hm
 refine C_ret ?_
 try simp only [↓inBlock_ret, ↓then_ret]
 exact retQ rfl (Res.one Try.results40 rfl) ⟨rfl, hK.kp⟩
set_option maxRecDepth 4000 in
set_option maxHeartbeats 4000000 in
theorem portref2_clocksFault_c (w : World) {A : Nat → Prop} (hA : ∀ b, w.heap.size ≤ b → A b) (l : (List level_Clock)) (v_l : Value) (h_l : Sl A w v_l l) (cals : (List cal_Calendar)) (v_cals : Value) (h_cals : Sl A w v_cals cals) {r : Int} (hm : portref2_clocksFault l cals = some r) : Ret Try.prog 19 #[v_l, v_cals] w fun v w' => v = .int .i64 r ∧ Kp Dw w w' := by
 unfold portref2_clocksFault at hm
 refine enter Try.func19 rfl Try.ntmps19 rfl ?_
 have hA0 := hA
 have hB := Nat.le_refl w.heap.size
 have hK : Tr Dw w.heap.size A w A w := Tr.refl (Dw := Dw) hA
 have hH : Hp w.heap.size A w [] := Hp.nil
 refine C_seq ?_
 refine C_region ?_
 refine V_box rfl rfl ?_
 intro b5 w6 h7
 have h12 : (v_cals).oneCell' = true := by obtain ⟨_, _, e, _⟩ := Sl.form h_cals; rw [e]; rfl
 have hk9 := h7.kp (Dw := Dw)
 have h8 : El (α := (List cal_Calendar)) A w6 b5 0 cals := h7.el hA (by rw [Value.cells_one h12]; exact ⟨_, rfl, h_cals⟩)
 have ht13 := Kp.tr (Dw := Dw) hk9 hA hB
 replace hH := Hp.kp (Dw := Dw) hH hk9
 replace h_l := Sl.tr (Dw := Dw) h_l ht13
 replace hK := Tr.trans (Dw := Dw) hK ht13
 replace hB := Nat.le_trans hB ht13.ex.size
 replace hA := ht13.new
 refine V_y (Y_assign rfl) rfl rfl rfl ?_
 refine V_to (fun _ _ => rfl) ?_
 refine C_seq ?_
 refine C_seq ?_
 refine C_region ?_
 refine V_y (Y_move rfl) rfl rfl rfl ?_
 refine V_y (Y_lenSl h_l rfl Try.underlying22 rfl) rfl rfl rfl ?_
 refine V_y (Y_gtr rfl rfl) rfl rfl rfl ?_
 refine V_to (fun _ _ => rfl) ?_
 refine C_cond rfl (fun hc14 => ?_) (fun hc14 => ?_)
 ·rw [if_pos hc14] at hm
  refine C_seq ?_
  refine C_region ?_
  refine V_y (Y_assign rfl) rfl rfl rfl ?_
  refine V_to (fun _ _ => rfl) ?_
  obtain rfl := Option.some.inj hm
  refine C_ret ?_
  try simp only [↓inBlock_ret, ↓then_ret]
  exact retQ rfl (Res.one Try.results19 rfl) ⟨rfl, hK.kp⟩
 ·rw [if_neg (nt hc14)] at hm
  refine C_skip_to (fun _ _ => rfl) ?_
  refine C_seq ?_
  refine C_seq ?_
  refine C_region ?_
  refine V_y (Y_move rfl) rfl rfl rfl ?_
  refine V_y (Y_lenSl h_l rfl Try.underlying22 rfl) rfl rfl rfl ?_
  refine V_y (Y_move rfl) rfl rfl rfl ?_
  refine V_to (fun _ _ => rfl) ?_
  have hn35 := Sl.le h_l
  obtain ⟨o15, ho15, hm⟩ := Option.bind_eq_some_iff.1 hm
  refine C_cutG (ι := (Unit × (Nat → Prop))) (fun ⟨s16, A22⟩ => [(0, v_l), (3, .pointer (some ⟨b5, 0, none⟩))]) (fun ⟨s16, A22⟩ => fun w' => o15 = .fin s16 ∧ Hp w.heap.size A22 w' ([]) ∧ Tr Dw w.heap.size A w6 A22 w') ?_ ?_
  ·refine C_block ?_
   refine C_range ho15 (fun k18 _ a w' => ∃ i : (Nat → Prop), Has ⟨42, [], none⟩ a ([(0, v_l), (3, .pointer (some ⟨b5, 0, none⟩)), (14, v_l), (15, .int .i64 (l.length : Int)), (16, .int .i64 (k18 : Int))]) ∧ Hp w.heap.size i w' ([]) ∧ Tr Dw w.heap.size A w6 i w') (fun a ha => ⟨A, ha.sub ⟨rfl, rfl, rfl, rfl, rfl, trivial⟩, ⟨hH, Tr.refl (Dw := Dw) hA⟩⟩) ?_
   rintro K k18 _ a w25 ⟨A26, ha65, hH27, hr17⟩ hle31 K34 h33
   refine C_of ?_ ha65
   replace h_l := Sl.tr (Dw := Dw) h_l hr17
   replace hK := Tr.trans (Dw := Dw) hK hr17
   replace hB := Nat.le_trans hB hr17.ex.size
   replace hA := hr17.new
   replace hH : Hp w.heap.size A26 w25 ([]) := hH27
   refine C_seq (C_region (V_y (Y_lss rfl rfl) rfl rfl rfl (V_to (fun _ _ => rfl) ?_)))
   refine C_seq ?_
   refine C_cond rfl (fun hc36 => ?_) (fun hc36 => ?_)
   ·have hlt32 := lt_of_dec hc36
    obtain ⟨x28, h29, h30⟩ := K34 hlt32
    refine C_skip_to (fun _ _ => rfl) ?_
    refine C_seq ?_
    refine C_block ?_
    refine C_seq ?_
    refine C_region ?_
    obtain ⟨x37, hx37, h29⟩ := Option.bind_eq_some_iff.1 h29
    refine V_indexAddr h_l hx37 Try.underlying22 Try.sizeOf37 rfl rfl rfl ?_
    intro b38 o39 h40
    obtain ⟨v41, h43, h42⟩ := El_level_Clock h40
    refine V_y (Y_loadA h43 Try.isAgg37 Try.sizeOf37 rfl) rfl rfl rfl ?_
    refine V_alloc Try.zeroValue37 rfl ?_
    intro b44 w45 h46
    have h51 : (v41).oneCell' = true := by obtain ⟨_, _, e, _⟩ := Sl.form h42; rw [e]; rfl
    refine V_storeNew h46 Try.sizeOf37 rfl rfl rfl rfl (by exact (List.forall_mem_cons.2 ⟨rfl, (List.forall_mem_cons.2 ⟨rfl, (List.forall_mem_cons.2 ⟨rfl, (List.forall_mem_cons.2 ⟨rfl, (List.forall_mem_cons.2 ⟨rfl, (List.forall_mem_cons.2 ⟨rfl, (List.forall_mem_cons.2 ⟨h51, (fun _ h => nomatch h)⟩)⟩)⟩)⟩)⟩)⟩)⟩)) ?_
    intro w47 h48
    have hk53 := h48.kp (Dw := Dw)
    have h52 : El (α := level_Clock) A26 w47 b44 0 x37 := h48.el hA ⟨[.int .i64 x37.kind], _, rfl, rfl, ⟨[.int .i64 x37.level], _, rfl, rfl, ⟨[.int .i64 x37.minutes], _, rfl, rfl, ⟨[.int .i64 x37.start], _, rfl, rfl, ⟨[.int .i64 x37.stop], _, rfl, rfl, ⟨[.int .i64 x37.end_], _, rfl, rfl, ⟨_, rfl, h42⟩⟩⟩⟩⟩⟩⟩
    have ht54 := Kp.tr (Dw := Dw) hk53 hA hB
    replace hH := Hp.kp (Dw := Dw) hH hk53
    replace hK := Tr.trans (Dw := Dw) hK ht54
    replace hr17 := Tr.trans (Dw := Dw) hr17 ht54
    replace hB := Nat.le_trans hB ht54.ex.size
    replace hA := ht54.new
    refine V_to (fun _ _ => rfl) ?_
    refine C_seq ?_
    refine C_region ?_
    obtain ⟨v55, h57, h56⟩ := El_level_Clock h52
    refine V_y (Y_loadA h57 Try.isAgg37 Try.sizeOf37 rfl) rfl rfl rfl ?_
    obtain ⟨x58, hx58, h29⟩ := Option.bind_eq_some_iff.1 h29
    refine V_call Try.call38 rfl rfl rfl rfl (portref2_ClockFault_c (Dw := Dw) w47 hA x37 v55 h56 hx58) ?_
    rintro _ w59 ⟨rfl, hk60⟩
    have ht61 := Kp.tr (Dw := Dw) hk60 hA hB
    replace hH := Hp.kp (Dw := Dw) hH hk60
    replace hK := Tr.trans (Dw := Dw) hK ht61
    replace hr17 := Tr.trans (Dw := Dw) hr17 ht61
    refine V_y (Y_assign rfl) rfl rfl rfl ?_
    refine V_to (fun _ _ => rfl) ?_
    refine C_seq ?_
    refine C_region ?_
    refine V_y (Y_move rfl) rfl rfl rfl ?_
    refine V_y (Y_neq rfl rfl) rfl rfl rfl ?_
    refine V_to (fun _ _ => rfl) ?_
    refine C_cond rfl (fun hc62 => ?_) (fun hc62 => ?_)
    ·rw [if_pos hc62] at h29
     refine C_seq ?_
     refine C_region ?_
     refine V_y (Y_move rfl) rfl rfl rfl ?_
     refine V_y (Y_assign rfl) rfl rfl rfl ?_
     refine V_to (fun _ _ => rfl) ?_
     obtain rfl := Option.some.inj h29
     obtain rfl := (h30 : Lp.rt _ = _)
     rw [Lp.andThen_rt] at hm
     obtain rfl := Option.some.inj hm
     refine C_ret ?_
     try simp only [↓inBlock_ret, ↓then_ret]
     exact retQ rfl (Res.one Try.results19 rfl) ⟨rfl, hK.kp⟩
    ·rw [if_neg (nt hc62)] at h29
     refine C_skip_to (fun _ _ => rfl) ?_
     refine C_region ?_
     refine V_y (Y_addI rfl rfl) rfl rfl rfl ?_
     refine V_y (Y_move rfl) rfl rfl rfl ?_
     obtain rfl := Option.some.inj h29
     refine V_end (fun a ha63 => ?_)
     exact ⟨(), hlt32, h30, ⟨A26, ha63.sub ⟨rfl, rfl, rfl, rfl, (congrArg (fun z => some (Value.int .i64 z)) (w64_succ hlt32 hn35)), trivial⟩, ⟨hH, hr17⟩⟩⟩
   ·refine C_exit (fun a ha64 => ?_)
    exact ⟨((), A26), ha64.sub ⟨rfl, rfl, trivial⟩, ⟨(h33 (eq_of_dec hle31 hc36)).symm, hH, hr17⟩⟩
  rintro ⟨s16, A22⟩ w19 ⟨rfl, hH23, hk20⟩ a ha21
  rw [Lp.andThen_fin] at hm
  replace h_l := Sl.tr (Dw := Dw) h_l hk20
  replace h8 := El.tr (Dw := Dw) h8 hk20
  replace hK := Tr.trans (Dw := Dw) hK hk20
  replace hB := Nat.le_trans hB hk20.ex.size
  replace hA := hk20.new
  replace hH : Hp w.heap.size A22 w19 ([]) := hH23
  refine C_at (n := ⟨42, [], none⟩) (fun _ _ => rfl) ?_ ha21
  refine C_seq ?_
  refine C_seq ?_
  refine C_region ?_
  obtain ⟨v66, h67, h68⟩ := El.list h8
  refine V_y (Y_load h67 Try.isAgg23 rfl) rfl rfl rfl ?_
  obtain ⟨x69, hx69, hm⟩ := Option.bind_eq_some_iff.1 hm
  refine V_call Try.call39 rfl rfl rfl rfl (portref2_CalsFault_c (Dw := Dw) w19 hA cals v66 h68 20 hx69) ?_
  rintro _ w70 ⟨rfl, hk71⟩
  have ht72 := Kp.tr (Dw := Dw) hk71 hA hB
  replace hH := Hp.kp (Dw := Dw) hH hk71
  replace h_l := Sl.tr (Dw := Dw) h_l ht72
  replace h8 := El.tr (Dw := Dw) h8 ht72
  replace hK := Tr.trans (Dw := Dw) hK ht72
  replace hB := Nat.le_trans hB ht72.ex.size
  replace hA := ht72.new
  refine V_y (Y_assign rfl) rfl rfl rfl ?_
  refine V_to (fun _ _ => rfl) ?_
  refine C_seq ?_
  refine C_region ?_
  refine V_y (Y_move rfl) rfl rfl rfl ?_
  refine V_y (Y_neq rfl rfl) rfl rfl rfl ?_
  refine V_to (fun _ _ => rfl) ?_
  refine C_cond rfl (fun hc73 => ?_) (fun hc73 => ?_)
  ·rw [if_pos hc73] at hm
   refine C_seq ?_
   refine C_region ?_
   refine V_y (Y_move rfl) rfl rfl rfl ?_
   refine V_y (Y_assign rfl) rfl rfl rfl ?_
   refine V_to (fun _ _ => rfl) ?_
   obtain rfl := Option.some.inj hm
   refine C_ret ?_
   try simp only [↓inBlock_ret, ↓then_ret]
   exact retQ rfl (Res.one Try.results19 rfl) ⟨rfl, hK.kp⟩
  ·rw [if_neg (nt hc73)] at hm
   refine C_skip_to (fun _ _ => rfl) ?_
   refine C_seq ?_
   refine C_seq ?_
   refine C_region ?_
   refine V_y (Y_move rfl) rfl rfl rfl ?_
   refine V_y (Y_lenSl h_l rfl Try.underlying22 rfl) rfl rfl rfl ?_
   refine V_y (Y_move rfl) rfl rfl rfl ?_
   refine V_to (fun _ _ => rfl) ?_
   have hn94 := Sl.le h_l
   obtain ⟨o74, ho74, hm⟩ := Option.bind_eq_some_iff.1 hm
   refine C_cutG (ι := (Unit × (Nat → Prop))) (fun ⟨s75, A81⟩ => []) (fun ⟨s75, A81⟩ => fun w' => o74 = .fin s75 ∧ Hp w.heap.size A81 w' ([]) ∧ Tr Dw w.heap.size A22 w70 A81 w') ?_ ?_
   ·refine C_block ?_
    refine C_range ho74 (fun k77 _ a w' => ∃ i : (Nat → Prop), Has ⟨42, [], none⟩ a ([(3, .pointer (some ⟨b5, 0, none⟩)), (31, v_l), (32, .int .i64 (l.length : Int)), (33, .int .i64 (k77 : Int))]) ∧ Hp w.heap.size i w' ([]) ∧ Tr Dw w.heap.size A22 w70 i w') (fun a ha => ⟨A22, ha.sub ⟨rfl, rfl, rfl, rfl, trivial⟩, ⟨hH, Tr.refl (Dw := Dw) hA⟩⟩) ?_
    rintro K k77 _ a w84 ⟨A85, ha134, hH86, hr76⟩ hle90 K93 h92
    refine C_of ?_ ha134
    replace h8 := El.tr (Dw := Dw) h8 hr76
    replace h_l := Sl.tr (Dw := Dw) h_l hr76
    replace hK := Tr.trans (Dw := Dw) hK hr76
    replace hB := Nat.le_trans hB hr76.ex.size
    replace hA := hr76.new
    replace hH : Hp w.heap.size A85 w84 ([]) := hH86
    refine C_seq (C_region (V_y (Y_lss rfl rfl) rfl rfl rfl (V_to (fun _ _ => rfl) ?_)))
    refine C_seq ?_
    refine C_cond rfl (fun hc95 => ?_) (fun hc95 => ?_)
    ·have hlt91 := lt_of_dec hc95
     obtain ⟨x87, h88, h89⟩ := K93 hlt91
     refine C_skip_to (fun _ _ => rfl) ?_
     refine C_seq ?_
     refine C_block ?_
     refine C_seq ?_
     refine C_region ?_
     obtain ⟨x96, hx96, h88⟩ := Option.bind_eq_some_iff.1 h88
     refine V_indexAddr h_l hx96 Try.underlying22 Try.sizeOf37 rfl rfl rfl ?_
     intro b97 o98 h99
     obtain ⟨v100, h102, h101⟩ := El_level_Clock h99
     refine V_y (Y_loadA h102 Try.isAgg37 Try.sizeOf37 rfl) rfl rfl rfl ?_
     refine V_alloc Try.zeroValue37 rfl ?_
     intro b103 w104 h105
     have h110 : (v100).oneCell' = true := by obtain ⟨_, _, e, _⟩ := Sl.form h101; rw [e]; rfl
     refine V_storeNew h105 Try.sizeOf37 rfl rfl rfl rfl (by exact (List.forall_mem_cons.2 ⟨rfl, (List.forall_mem_cons.2 ⟨rfl, (List.forall_mem_cons.2 ⟨rfl, (List.forall_mem_cons.2 ⟨rfl, (List.forall_mem_cons.2 ⟨rfl, (List.forall_mem_cons.2 ⟨rfl, (List.forall_mem_cons.2 ⟨h110, (fun _ h => nomatch h)⟩)⟩)⟩)⟩)⟩)⟩)⟩)) ?_
     intro w106 h107
     have hk112 := h107.kp (Dw := Dw)
     have h111 : El (α := level_Clock) A85 w106 b103 0 x96 := h107.el hA ⟨[.int .i64 x96.kind], _, rfl, rfl, ⟨[.int .i64 x96.level], _, rfl, rfl, ⟨[.int .i64 x96.minutes], _, rfl, rfl, ⟨[.int .i64 x96.start], _, rfl, rfl, ⟨[.int .i64 x96.stop], _, rfl, rfl, ⟨[.int .i64 x96.end_], _, rfl, rfl, ⟨_, rfl, h101⟩⟩⟩⟩⟩⟩⟩
     have ht113 := Kp.tr (Dw := Dw) hk112 hA hB
     replace hH := Hp.kp (Dw := Dw) hH hk112
     replace h8 := El.tr (Dw := Dw) h8 ht113
     replace hK := Tr.trans (Dw := Dw) hK ht113
     replace hr76 := Tr.trans (Dw := Dw) hr76 ht113
     replace hB := Nat.le_trans hB ht113.ex.size
     replace hA := ht113.new
     refine V_to (fun _ _ => rfl) ?_
     refine C_seq ?_
     refine C_region ?_
     have h114 := El_level_Clock_6 h111
     refine V_y (Y_fieldAddr Try.underlying37 rfl Try.sizeOf35 (by decide) rfl) rfl rfl rfl ?_
     obtain ⟨v115, h116, h117⟩ := El.list h114
     refine V_y (Y_load h116 Try.isAgg35 rfl) rfl rfl rfl ?_
     refine V_y (Y_makeFunc rfl rfl) rfl rfl rfl ?_
     obtain ⟨x119, hx119, h88⟩ := Option.bind_eq_some_iff.1 h88
     refine V_call Try.call30 rfl rfl rfl rfl (slices_ContainsFunc_Llevel_Piece_level_Piece_c (Dw := Dw) w106 hA x96.pieces v115 h117 (fun y127 => portref2_clocksFault_1 y127 cals) 40 #[] #[.pointer (some ⟨b5, 0, none⟩)] Try.call40 (fun w123 A124 ht125 h126 y120 r121 h122 => (portref2_clocksFault_1_c (Dw := Dw) w123 h126 y120 cals b5 (El.tr (Dw := Dw) h8 ht125) h122).mono (fun _ _ h => ⟨h.1, h.2⟩)) hx119) ?_
     rintro _ w128 ⟨rfl, hk129⟩
     have ht130 := Kp.tr (Dw := Dw) hk129 hA hB
     replace hH := Hp.kp (Dw := Dw) hH hk129
     replace hK := Tr.trans (Dw := Dw) hK ht130
     replace hr76 := Tr.trans (Dw := Dw) hr76 ht130
     refine V_to (fun _ _ => rfl) ?_
     refine C_cond rfl (fun hc131 => ?_) (fun hc131 => ?_)
     ·rw [if_pos hc131] at h88
      refine C_seq ?_
      refine C_region ?_
      refine V_y (Y_assign rfl) rfl rfl rfl ?_
      refine V_to (fun _ _ => rfl) ?_
      obtain rfl := Option.some.inj h88
      obtain rfl := (h89 : Lp.rt _ = _)
      rw [Lp.andThen_rt] at hm
      obtain rfl := Option.some.inj hm
      refine C_ret ?_
      try simp only [↓inBlock_ret, ↓then_ret]
      exact retQ rfl (Res.one Try.results19 rfl) ⟨rfl, hK.kp⟩
     ·rw [if_neg (nt hc131)] at h88
      refine C_skip_to (fun _ _ => rfl) ?_
      refine C_region ?_
      refine V_y (Y_addI rfl rfl) rfl rfl rfl ?_
      refine V_y (Y_move rfl) rfl rfl rfl ?_
      obtain rfl := Option.some.inj h88
      refine V_end (fun a ha132 => ?_)
      exact ⟨(), hlt91, h89, ⟨A85, ha132.sub ⟨rfl, rfl, rfl, (congrArg (fun z => some (Value.int .i64 z)) (w64_succ hlt91 hn94)), trivial⟩, ⟨hH, hr76⟩⟩⟩
    ·refine C_exit (fun a ha133 => ?_)
     exact ⟨((), A85), ha133.sub trivial, ⟨(h92 (eq_of_dec hle90 hc95)).symm, hH, hr76⟩⟩
   rintro ⟨s75, A81⟩ w78 ⟨rfl, hH82, hk79⟩ a ha80
   rw [Lp.andThen_fin] at hm
   replace hK := Tr.trans (Dw := Dw) hK hk79
   replace hA := hk79.new
   replace hH : Hp w.heap.size A81 w78 ([]) := hH82
   refine C_at (n := ⟨42, [], none⟩) (fun _ _ => rfl) ?_ ha80
   refine C_seq ?_
   refine C_region ?_
   refine V_y (Y_assign rfl) rfl rfl rfl ?_
   refine V_to (fun _ _ => rfl) ?_
   obtain rfl := Option.some.inj hm
   refine C_ret ?_
   try simp only [↓inBlock_ret, ↓then_ret]
   exact retQ rfl (Res.one Try.results19 rfl) ⟨rfl, hK.kp⟩
set_option maxRecDepth 4000 in
set_option maxHeartbeats 4000000 in
theorem portref2_floorDiv_c (w : World) {A : Nat → Prop} (hA : ∀ b, w.heap.size ≤ b → A b) (a_ : Int) (b : Int) {r : (Int × Int)} (hm : portref2_floorDiv a_ b = some r) : Ret Try.prog 87 #[.int .i64 a_, .int .i64 b] w fun v w' => v = .tuple #[.int .i64 r.1, .int .i64 r.2] ∧ Kp Dw w w' := by
 unfold portref2_floorDiv at hm
 refine enter Try.func87 rfl Try.ntmps87 rfl ?_
 have hA0 := hA
 have hB := Nat.le_refl w.heap.size
 have hK : Tr Dw w.heap.size A w A w := Tr.refl (Dw := Dw) hA
 have hH : Hp w.heap.size A w [] := Hp.nil
 refine C_seq ?_
 refine C_region ?_
 refine V_y (Y_assign rfl) rfl rfl rfl ?_
 refine V_y (Y_assign rfl) rfl rfl rfl ?_
 refine V_to (fun _ _ => rfl) ?_
 refine C_seq ?_
 refine C_region_q (Dw := Dw) Try_mixed (by kernel_rfl) ?_
 refine VQ_y (fun w' hw' => Y_move rfl) rfl rfl rfl ?_
 refine VQ_y (fun w' hw' => Y_move rfl) rfl rfl rfl ?_
 obtain ⟨x1, hx1, hm⟩ := Option.bind_eq_some_iff.1 hm
 refine VQ_y (fun w' hw' => Y_quo hx1 rfl rfl) rfl rfl rfl ?_
 refine VQ_y (fun w' hw' => Y_move rfl) rfl rfl rfl ?_
 refine VQ_y (fun w' hw' => Y_move rfl) rfl rfl rfl ?_
 obtain ⟨x2, hx2, hm⟩ := Option.bind_eq_some_iff.1 hm
 refine VQ_y (fun w' hw' => Y_rem hx2 rfl rfl) rfl rfl rfl ?_
 refine VQ_y (fun w' hw' => Y_assign rfl) rfl rfl rfl ?_
 refine VQ_y (fun w' hw' => Y_assign rfl) rfl rfl rfl ?_
 refine VQ_to (fun _ _ => rfl) (fun w3 hk4 => ?_)
 have ht5 := Kp.tr (Dw := Dw) hk4 hA hB
 replace hK := Tr.trans (Dw := Dw) hK ht5
 refine C_seq ?_
 refine C_seq ?_
 refine C_region ?_
 refine V_y (Y_move rfl) rfl rfl rfl ?_
 refine V_y (Y_lss rfl rfl) rfl rfl rfl ?_
 refine V_to (fun _ _ => rfl) ?_
 obtain ⟨s7, ho6, hm⟩ := Option.bind_eq_some_iff.1 hm
 refine C_cutG (ι := Unit) (fun (_ : Unit) => [(6, .int .i64 s7.1), (7, .int .i64 s7.2)]) (fun (_ : Unit) => fun w' => w3 = w') ?_ ?_
 ·refine C_cond rfl (fun hc12 => ?_) (fun hc12 => ?_)
  ·rw [if_pos hc12] at ho6
   refine C_region ?_
   refine V_y (Y_move rfl) rfl rfl rfl ?_
   refine V_y (Y_subI rfl rfl) rfl rfl rfl ?_
   refine V_y (Y_move rfl) rfl rfl rfl ?_
   refine V_y (Y_move rfl) rfl rfl rfl ?_
   refine V_y (Y_addI rfl rfl) rfl rfl rfl ?_
   refine V_y (Y_assign rfl) rfl rfl rfl ?_
   refine V_y (Y_assign rfl) rfl rfl rfl ?_
   obtain rfl := Option.some.inj ho6
   refine V_end (fun a ha13 => ?_)
   exact ⟨(), ha13.sub ⟨rfl, rfl, trivial⟩, rfl⟩
  ·rw [if_neg (nt hc12)] at ho6
   obtain rfl := Option.some.inj ho6
   refine C_skip (fun a ha14 => ?_)
   exact ⟨(), ha14.sub ⟨rfl, rfl, trivial⟩, rfl⟩
 rintro _ _ rfl a ha11
 refine C_at (n := ⟨23, [], none⟩) (fun _ _ => rfl) ?_ ha11
 refine C_seq ?_
 refine C_region ?_
 refine V_y (Y_move rfl) rfl rfl rfl ?_
 refine V_y (Y_move rfl) rfl rfl rfl ?_
 refine V_y (Y_assign rfl) rfl rfl rfl ?_
 refine V_y (Y_assign rfl) rfl rfl rfl ?_
 refine V_to (fun _ _ => rfl) ?_
 obtain rfl := Option.some.inj hm
 refine C_ret ?_
 try simp only [↓inBlock_ret, ↓then_ret]
 exact retQ rfl (Res.two Try.results87 rfl rfl) ⟨rfl, hK.kp⟩
set_option maxRecDepth 4000 in
set_option maxHeartbeats 4000000 in
theorem portref2_ShiftsIn_c (w : World) {A : Nat → Prop} (hA : ∀ b, w.heap.size ≤ b → A b) (c : cal_Calendar) (v_c0 : Value) (h_c0 : Sl A w v_c0 c.zone.changes) (v_c1 : Value) (h_c1 : Sl A w v_c1 c.week) (v_c2 : Value) (h_c2 : Sl A w v_c2 c.specials) (day : Int) {r : (List cal_Shift)} (hm : portref2_ShiftsIn c day = some r) : Ret Try.prog 89 #[.agg #[.int .i64 c.zone.offset, v_c0, v_c1, v_c2], .int .i64 day] w fun v w' => ∃ s0, v = s0 ∧ Sl A w' s0 r ∧ Kp Dw w w' := by
 unfold portref2_ShiftsIn at hm
 refine enter Try.func89 rfl Try.ntmps89 rfl ?_
 have hA0 := hA
 have hB := Nat.le_refl w.heap.size
 have hK : Tr Dw w.heap.size A w A w := Tr.refl (Dw := Dw) hA
 have hH : Hp w.heap.size A w [] := Hp.nil
 refine C_seq ?_
 refine C_region ?_
 refine V_box rfl rfl ?_
 intro b7 w9 h10
 have hk12 := h10.kp (Dw := Dw)
 have h11 : El (α := cal_Calendar) A w9 b7 0 c := h10.el hA ⟨[.int .i64 c.zone.offset, v_c0], _, rfl, ⟨[.int .i64 c.zone.offset], _, rfl, rfl, ⟨_, rfl, h_c0⟩⟩, ⟨[v_c1], _, rfl, ⟨_, rfl, h_c1⟩, ⟨_, rfl, h_c2⟩⟩⟩
 have ht13 := Kp.tr (Dw := Dw) hk12 hA hB
 replace hH := Hp.kp (Dw := Dw) hH hk12
 replace hK := Tr.trans (Dw := Dw) hK ht13
 replace hB := Nat.le_trans hB ht13.ex.size
 replace hA := ht13.new
 refine V_y (Y_assign rfl) rfl rfl rfl ?_
 refine V_to (fun _ _ => rfl) ?_
 refine C_seq ?_
 refine C_seq ?_
 refine C_region ?_
 have h14 := El_cal_Calendar_2 h11
 refine V_y (Y_fieldAddr Try.underlying58 rfl Try.sizeOf56 (by decide) rfl) rfl rfl rfl ?_
 obtain ⟨v15, h16, h17⟩ := El.list h14
 refine V_y (Y_load h16 Try.isAgg56 rfl) rfl rfl rfl ?_
 refine V_y (Y_lenSl h17 rfl Try.underlying56 rfl) rfl rfl rfl ?_
 refine V_y (Y_move rfl) rfl rfl rfl ?_
 refine V_to (fun _ _ => rfl) ?_
 have hn38 := Sl.le h17
 obtain ⟨o18, ho18, hm⟩ := Option.bind_eq_some_iff.1 hm
 refine C_cutG (ι := (Unit × (Nat → Prop))) (fun ⟨s19, A25⟩ => [(1, .int .i64 day), (2, .pointer (some ⟨b7, 0, none⟩))]) (fun ⟨s19, A25⟩ => fun w' => o18 = .fin s19 ∧ Hp w.heap.size A25 w' ([]) ∧ Tr Dw w.heap.size A w9 A25 w') ?_ ?_
 ·refine C_block ?_
  refine C_range ho18 (fun k21 _ a w' => ∃ i : (Nat → Prop), Has ⟨52, [], none⟩ a ([(1, .int .i64 day), (2, .pointer (some ⟨b7, 0, none⟩)), (13, v15), (14, .int .i64 (c.specials.length : Int)), (15, .int .i64 (k21 : Int))]) ∧ Hp w.heap.size i w' ([]) ∧ Tr Dw w.heap.size A w9 i w') (fun a ha => ⟨A, ha.sub ⟨rfl, rfl, rfl, rfl, rfl, trivial⟩, ⟨hH, Tr.refl (Dw := Dw) hA⟩⟩) ?_
  rintro K k21 _ a w28 ⟨A29, ha66, hH30, hr20⟩ hle34 K37 h36
  refine C_of ?_ ha66
  replace h17 := Sl.tr (Dw := Dw) h17 hr20
  replace hK := Tr.trans (Dw := Dw) hK hr20
  replace hB := Nat.le_trans hB hr20.ex.size
  replace hA := hr20.new
  replace hH : Hp w.heap.size A29 w28 ([]) := hH30
  refine C_seq (C_region (V_y (Y_lss rfl rfl) rfl rfl rfl (V_to (fun _ _ => rfl) ?_)))
  refine C_seq ?_
  refine C_cond rfl (fun hc39 => ?_) (fun hc39 => ?_)
  ·have hlt35 := lt_of_dec hc39
   obtain ⟨x31, h32, h33⟩ := K37 hlt35
   refine C_skip_to (fun _ _ => rfl) ?_
   refine C_seq ?_
   refine C_block ?_
   refine C_seq ?_
   refine C_region ?_
   obtain ⟨x40, hx40, h32⟩ := Option.bind_eq_some_iff.1 h32
   refine V_indexAddr h17 hx40 Try.underlying56 Try.sizeOf82 rfl rfl rfl ?_
   intro b41 o42 h43
   obtain ⟨v44, h46, h45⟩ := El_cal_Special h43
   refine V_y (Y_loadA h46 Try.isAgg82 Try.sizeOf82 rfl) rfl rfl rfl ?_
   refine V_alloc Try.zeroValue82 rfl ?_
   intro b47 w48 h49
   have h54 : (v44).oneCell' = true := by obtain ⟨_, _, e, _⟩ := Sl.form h45; rw [e]; rfl
   refine V_storeNew h49 Try.sizeOf82 rfl rfl rfl rfl (by exact (List.forall_mem_cons.2 ⟨rfl, (List.forall_mem_cons.2 ⟨h54, (fun _ h => nomatch h)⟩)⟩)) ?_
   intro w50 h51
   have hk56 := h51.kp (Dw := Dw)
   have h55 : El (α := cal_Special) A29 w50 b47 0 x40 := h51.el hA ⟨[.int .i64 x40.day], _, rfl, rfl, ⟨_, rfl, h45⟩⟩
   have ht57 := Kp.tr (Dw := Dw) hk56 hA hB
   replace hH := Hp.kp (Dw := Dw) hH hk56
   replace hK := Tr.trans (Dw := Dw) hK ht57
   replace hr20 := Tr.trans (Dw := Dw) hr20 ht57
   refine V_to (fun _ _ => rfl) ?_
   refine C_seq ?_
   refine C_region ?_
   have h58 := El_cal_Special_0 h55
   refine V_y (Y_fieldAddr Try.underlying82 rfl Try.sizeOf3 (by decide) rfl) rfl rfl rfl ?_
   refine V_y (Y_load (El.int h58) Try.isAgg3 rfl) rfl rfl rfl ?_
   refine V_y (Y_move rfl) rfl rfl rfl ?_
   refine V_y (Y_eql rfl rfl) rfl rfl rfl ?_
   refine V_to (fun _ _ => rfl) ?_
   refine C_cond rfl (fun hc59 => ?_) (fun hc59 => ?_)
   ·rw [if_pos hc59] at h32
    refine C_seq ?_
    refine C_region ?_
    have h60 := El_cal_Special_1 h55
    refine V_y (Y_fieldAddr Try.underlying82 rfl Try.sizeOf55 (by decide) rfl) rfl rfl rfl ?_
    obtain ⟨v61, h62, h63⟩ := El.list h60
    refine V_y (Y_load h62 Try.isAgg55 rfl) rfl rfl rfl ?_
    refine V_y (Y_assign rfl) rfl rfl rfl ?_
    refine V_to (fun _ _ => rfl) ?_
    obtain rfl := Option.some.inj h32
    obtain rfl := (h33 : Lp.rt _ = _)
    rw [Lp.andThen_rt] at hm
    obtain rfl := Option.some.inj hm
    refine C_ret ?_
    try simp only [↓inBlock_ret, ↓then_ret]
    exact retQ rfl (Res.one Try.results89 rfl) ⟨v61, rfl, (Sl.out (Dw := Dw) h63 hA0 hK), hK.kp⟩
   ·rw [if_neg (nt hc59)] at h32
    refine C_skip_to (fun _ _ => rfl) ?_
    refine C_region ?_
    refine V_y (Y_addI rfl rfl) rfl rfl rfl ?_
    refine V_y (Y_move rfl) rfl rfl rfl ?_
    obtain rfl := Option.some.inj h32
    refine V_end (fun a ha64 => ?_)
    exact ⟨(), hlt35, h33, ⟨A29, ha64.sub ⟨rfl, rfl, rfl, rfl, (congrArg (fun z => some (Value.int .i64 z)) (w64_succ hlt35 hn38)), trivial⟩, ⟨hH, hr20⟩⟩⟩
  ·refine C_exit (fun a ha65 => ?_)
   exact ⟨((), A29), ha65.sub ⟨rfl, rfl, trivial⟩, ⟨(h36 (eq_of_dec hle34 hc39)).symm, hH, hr20⟩⟩
 rintro ⟨s19, A25⟩ w22 ⟨rfl, hH26, hk23⟩ a ha24
 rw [Lp.andThen_fin] at hm
 replace h11 := El.tr (Dw := Dw) h11 hk23
 replace hK := Tr.trans (Dw := Dw) hK hk23
 replace hB := Nat.le_trans hB hk23.ex.size
 replace hA := hk23.new
 replace hH : Hp w.heap.size A25 w22 ([]) := hH26
 refine C_at (n := ⟨52, [], none⟩) (fun _ _ => rfl) ?_ ha24
 refine C_seq ?_
 refine C_region ?_
 refine V_y (Y_assign rfl) rfl rfl rfl ?_
 refine V_to (fun _ _ => rfl) ?_
 refine C_seq ?_
 refine C_region ?_
 refine V_y (Y_move rfl) rfl rfl rfl ?_
 obtain ⟨x67, hx67, hm⟩ := Option.bind_eq_some_iff.1 hm
 refine V_call Try.call87 rfl rfl rfl rfl (portref2_floorDiv_c (Dw := Dw) w22 hA day 7 hx67) ?_
 rintro _ w68 ⟨rfl, hk69⟩
 have ht70 := Kp.tr (Dw := Dw) hk69 hA hB
 replace hH := Hp.kp (Dw := Dw) hH hk69
 replace h11 := El.tr (Dw := Dw) h11 ht70
 replace hK := Tr.trans (Dw := Dw) hK ht70
 replace hB := Nat.le_trans hB ht70.ex.size
 replace hA := ht70.new
 refine V_y (Y_move rfl) rfl rfl rfl ?_
 refine V_y (Y_extract rfl rfl) rfl rfl rfl ?_
 refine V_y (Y_extract rfl rfl) rfl rfl rfl ?_
 refine V_y (Y_assign rfl) rfl rfl rfl ?_
 refine V_y (Y_assign rfl) rfl rfl rfl ?_
 refine V_to (fun _ _ => rfl) ?_
 refine C_seq ?_
 refine C_seq ?_
 refine C_region ?_
 have h71 := El_cal_Calendar_1 h11
 refine V_y (Y_fieldAddr Try.underlying58 rfl Try.sizeOf55 (by decide) rfl) rfl rfl rfl ?_
 obtain ⟨v72, h73, h74⟩ := El.list h71
 refine V_y (Y_load h73 Try.isAgg55 rfl) rfl rfl rfl ?_
 refine V_y (Y_lenSl h74 rfl Try.underlying55 rfl) rfl rfl rfl ?_
 refine V_y (Y_move rfl) rfl rfl rfl ?_
 refine V_to (fun _ _ => rfl) ?_
 replace hH : Hp w.heap.size A25 w68 (obS (α := cal_Shift) 106 (.slice none 0 0) ([] : (List cal_Shift)) :: []) := Hp.addNil (α := cal_Shift) (e := 106) hH
 have hn99 := Sl.le h74
 obtain ⟨o75, ho75, hm⟩ := Option.bind_eq_some_iff.1 hm
 refine C_cutG (ι := ((List cal_Shift) × Value × (Nat → Prop))) (fun ⟨s76, v82, A84⟩ => [(7, v82)]) (fun ⟨s76, v82, A84⟩ => fun w' => o75 = .fin s76 ∧ Hp w.heap.size A84 w' (obS (α := cal_Shift) 106 v82 s76 :: []) ∧ Tr Dw w.heap.size A25 w68 A84 w') ?_ ?_
 ·refine C_block ?_
  refine C_range ho75 (fun k78 s86 a w' => ∃ i : (Value × (Nat → Prop)), Has ⟨52, [], none⟩ a ([(7, i.1), (9, .int .i64 x67.2), (32, v72), (33, .int .i64 (c.week.length : Int)), (34, .int .i64 (k78 : Int))]) ∧ Hp w.heap.size i.2 w' (obS (α := cal_Shift) 106 i.1 s86 :: []) ∧ Tr Dw w.heap.size A25 w68 i.2 w') (fun a ha => ⟨(.slice none 0 0, A25), ha.sub ⟨rfl, rfl, rfl, rfl, rfl, trivial⟩, ⟨hH, Tr.refl (Dw := Dw) hA⟩⟩) ?_
  rintro K k78 s86 a w87 ⟨⟨v88, A90⟩, ha154, hH91, hr77⟩ hle95 K98 h97
  refine C_of ?_ ha154
  replace h74 := Sl.tr (Dw := Dw) h74 hr77
  replace hB := Nat.le_trans hB hr77.ex.size
  replace hA := hr77.new
  replace hH : Hp w.heap.size A90 w87 (obS (α := cal_Shift) 106 v88 s86 :: []) := hH91
  refine C_seq (C_region (V_y (Y_lss rfl rfl) rfl rfl rfl (V_to (fun _ _ => rfl) ?_)))
  refine C_seq ?_
  refine C_cond rfl (fun hc100 => ?_) (fun hc100 => ?_)
  ·have hlt96 := lt_of_dec hc100
   obtain ⟨x92, h93, h94⟩ := K98 hlt96
   refine C_skip_to (fun _ _ => rfl) ?_
   refine C_seq ?_
   obtain ⟨s102, ho101, h93⟩ := Option.bind_eq_some_iff.1 h93
   refine C_cutG (ι := (Value × (Nat → Prop))) (fun ⟨v104, A109⟩ => [(7, v104), (9, .int .i64 x67.2), (32, v72), (33, .int .i64 (c.week.length : Int)), (34, .int .i64 (k78 : Int))]) (fun ⟨v104, A109⟩ => fun w' => Hp w.heap.size A109 w' (obS (α := cal_Shift) 106 v104 s102 :: []) ∧ Tr Dw w.heap.size A90 w87 A109 w') ?_ ?_
   ·have hr103 : Tr Dw w.heap.size A90 w87 A90 w87 := Tr.refl (Dw := Dw) hA
    refine C_block ?_
    refine C_seq ?_
    refine C_region ?_
    obtain ⟨x111, hx111, ho101⟩ := Option.bind_eq_some_iff.1 ho101
    refine V_indexAddr h74 hx111 Try.underlying55 Try.sizeOf106 rfl rfl rfl ?_
    intro b112 o113 h114
    obtain ⟨h115, _⟩ := El_cal_Shift h114
    refine V_y (Y_loadA h115 Try.isAgg106 Try.sizeOf106 rfl) rfl rfl rfl ?_
    refine V_alloc Try.zeroValue106 rfl ?_
    intro b116 w117 h118
    refine V_storeNew h118 Try.sizeOf106 rfl rfl rfl rfl (by exact (List.forall_mem_cons.2 ⟨rfl, (List.forall_mem_cons.2 ⟨rfl, (List.forall_mem_cons.2 ⟨rfl, (fun _ h => nomatch h)⟩)⟩)⟩)) ?_
    intro w119 h120
    have hk122 := h120.kp (Dw := Dw)
    have h121 : El (α := cal_Shift) A90 w119 b116 0 x111 := h120.el hA ⟨[.int .i64 x111.day], _, rfl, rfl, ⟨[.int .i64 x111.from_], _, rfl, rfl, rfl⟩⟩
    have ht123 := Kp.tr (Dw := Dw) hk122 hA hB
    replace hH := Hp.kp (Dw := Dw) hH hk122
    replace hr103 := Tr.trans (Dw := Dw) hr103 ht123
    replace hB := Nat.le_trans hB ht123.ex.size
    replace hA := ht123.new
    refine V_to (fun _ _ => rfl) ?_
    refine C_seq ?_
    refine C_region ?_
    have h124 := El_cal_Shift_0 h121
    refine V_y (Y_fieldAddr Try.underlying106 rfl Try.sizeOf3 (by decide) rfl) rfl rfl rfl ?_
    refine V_y (Y_load (El.int h124) Try.isAgg3 rfl) rfl rfl rfl ?_
    refine V_y (Y_move rfl) rfl rfl rfl ?_
    refine V_y (Y_eql rfl rfl) rfl rfl rfl ?_
    refine V_to (fun _ _ => rfl) ?_
    obtain ⟨s126, ho125, ho101⟩ := Option.bind_eq_some_iff.1 ho101
    refine C_cutG (ι := (Value × (Nat → Prop))) (fun ⟨v128, A133⟩ => [(7, v128), (9, .int .i64 x67.2), (32, v72), (33, .int .i64 (c.week.length : Int)), (34, .int .i64 (k78 : Int))]) (fun ⟨v128, A133⟩ => fun w' => Hp w.heap.size A133 w' (obS (α := cal_Shift) 106 v128 s126 :: []) ∧ Tr Dw w.heap.size A90 w119 A133 w') ?_ ?_
    ·have hr127 : Tr Dw w.heap.size A90 w119 A90 w119 := Tr.refl (Dw := Dw) hA
     refine C_cond rfl (fun hc135 => ?_) (fun hc135 => ?_)
     ·rw [if_pos hc135] at ho125
      refine C_region ?_
      refine V_y (Y_move rfl) rfl rfl rfl ?_
      have h136 := El_cal_Shift_1 h121
      refine V_y (Y_fieldAddr Try.underlying106 rfl Try.sizeOf3 (by decide) rfl) rfl rfl rfl ?_
      refine V_y (Y_load (El.int h136) Try.isAgg3 rfl) rfl rfl rfl ?_
      have h137 := El_cal_Shift_2 h121
      refine V_y (Y_fieldAddr Try.underlying106 rfl Try.sizeOf3 (by decide) rfl) rfl rfl rfl ?_
      refine V_y (Y_load (El.int h137) Try.isAgg3 rfl) rfl rfl rfl ?_
      refine V_y (Y_build Try.underlying106 Try.zeroValue106 (Try_places106 _ Try.underlying106) rfl (by with_unfolding_all rfl)) rfl rfl rfl ?_
      refine V_buildSlice (Dw := Dw) (cells := #[.int .i64 0, .int .i64 x111.from_, .int .i64 x111.to_]) (l := ([(⟨0, x111.from_, x111.to_⟩ : cal_Shift)] : List cal_Shift)) (len := 1) Try.underlying55 Try.sizeOf106 Try.zeroValue106 rfl (by kernel_rfl) (show (1 * 3 : Nat) ≠ 0 by decide) (show (1 * 3 : Nat) ≤ 2 ^ 24 by decide) hA ⟨[.int .i64 0, .int .i64 x111.from_, .int .i64 x111.to_], _, rfl, ⟨[.int .i64 0], _, rfl, rfl, ⟨[.int .i64 x111.from_], _, rfl, rfl, rfl⟩⟩, rfl⟩ rfl rfl ?_
      intro v138 w139 hk141 h140
      have ht142 := Kp.tr (Dw := Dw) hk141 hA hB
      replace hH := Hp.kp (Dw := Dw) hH hk141
      replace hr127 := Tr.trans (Dw := Dw) hr127 ht142
      replace hB := Nat.le_trans hB ht142.ex.size
      replace hA := ht142.new
      obtain ⟨x143, hx143, ho125⟩ := Option.bind_eq_some_iff.1 ho125
      refine V_appendH (Dw := Dw) (e := 106) (v := v88) (l := s86) (ti := Try.t106) (bytes := 24) (lim := 5864062014805) hH (i := 0) rfl h140 hx143 Try.underlying55 Try_info106 rfl rfl rfl rfl (by decide) (by decide) (by decide) hB hA rfl rfl rfl ?_
      intro v144 w145 A146 hH147 ht148
      replace hr127 := Tr.trans (Dw := Dw) hr127 ht148
      replace hH : Hp w.heap.size A146 w145 (obS (α := cal_Shift) 106 v144 x143 :: []) := hH147
      refine V_y (Y_assign rfl) rfl rfl rfl ?_
      obtain rfl := Option.some.inj ho125
      refine V_end (fun a ha149 => ?_)
      exact ⟨(v144, A146), ha149.sub ⟨rfl, rfl, rfl, rfl, rfl, trivial⟩, ⟨hH, hr127⟩⟩
     ·rw [if_neg (nt hc135)] at ho125
      obtain rfl := Option.some.inj ho125
      refine C_skip (fun a ha150 => ?_)
      exact ⟨(v88, A90), ha150.sub ⟨rfl, rfl, rfl, rfl, rfl, trivial⟩, ⟨hH, hr127⟩⟩
    rintro ⟨v128, A133⟩ w130 ⟨hH134, hk131⟩ a ha132
    replace hr103 := Tr.trans (Dw := Dw) hr103 hk131
    replace hA := hk131.new
    replace hH : Hp w.heap.size A133 w130 (obS (α := cal_Shift) 106 v128 s126 :: []) := hH134
    obtain rfl := Option.some.inj ho101
    exact ⟨(v128, A133), ha132.sub ⟨rfl, rfl, rfl, rfl, rfl, trivial⟩, ⟨hH, hr103⟩⟩
   rintro ⟨v104, A109⟩ w106 ⟨hH110, hk107⟩ a ha108
   replace hr77 := Tr.trans (Dw := Dw) hr77 hk107
   replace hA := hk107.new
   replace hH : Hp w.heap.size A109 w106 (obS (α := cal_Shift) 106 v104 s102 :: []) := hH110
   refine C_at (n := ⟨52, [], none⟩) (fun _ _ => rfl) ?_ ha108
   refine C_region ?_
   refine V_y (Y_addI rfl rfl) rfl rfl rfl ?_
   refine V_y (Y_move rfl) rfl rfl rfl ?_
   obtain rfl := Option.some.inj h93
   refine V_end (fun a ha152 => ?_)
   exact ⟨s102, hlt96, h94, ⟨(v104, A109), ha152.sub ⟨rfl, rfl, rfl, rfl, (congrArg (fun z => some (Value.int .i64 z)) (w64_succ hlt96 hn99)), trivial⟩, ⟨hH, hr77⟩⟩⟩
  ·refine C_exit (fun a ha153 => ?_)
   exact ⟨(s86, v88, A90), ha153.sub ⟨rfl, trivial⟩, ⟨(h97 (eq_of_dec hle95 hc100)).symm, hH, hr77⟩⟩
 rintro ⟨s76, v82, A84⟩ w79 ⟨rfl, hH85, hk80⟩ a ha81
 rw [Lp.andThen_fin] at hm
 replace hK := Tr.trans (Dw := Dw) hK hk80
 replace hA := hk80.new
 replace hH : Hp w.heap.size A84 w79 (obS (α := cal_Shift) 106 v82 s76 :: []) := hH85
 refine C_at (n := ⟨52, [], none⟩) (fun _ _ => rfl) ?_ ha81
 refine C_seq ?_
 refine C_region ?_
 refine V_y (Y_move rfl) rfl rfl rfl ?_
 refine V_y (Y_assign rfl) rfl rfl rfl ?_
 refine V_to (fun _ _ => rfl) ?_
 obtain rfl := Option.some.inj hm
 obtain ⟨A155, ht156, h157, hH158⟩ := Hp.freeze (Dw := Dw) (α := cal_Shift) (v := v82) (l := s76) hH (i := 0) rfl hA
 replace hK := Tr.trans (Dw := Dw) hK ht156
 replace hH : Hp w.heap.size A155 w79 ([]) := hH158
 refine C_ret ?_
 try simp only [↓inBlock_ret, ↓then_ret]
 exact retQ rfl (Res.one Try.results89 rfl) ⟨v82, rfl, (Sl.out (Dw := Dw) h157 hA0 hK), hK.kp⟩
set_option maxRecDepth 4000 in
set_option maxHeartbeats 4000000 in
theorem portref2_NewClock_c (w : World) {A : Nat → Prop} {B : Nat} (hB : B ≤ w.heap.size) (hA : ∀ b, w.heap.size ≤ b → A b) (c : cal_Calendar) (v0 : Value) (h0 : Sl A w v0 c.zone.changes) (v1 : Value) (h1 : Sl A w v1 c.week) (v2 : Value) (h2 : Sl A w v2 c.specials) {L : List Ob} (hH : Hp B A w L) {r : cal_Calendar} (hm : portref2_NewClock c = some r) : Ret Try.prog 41 #[.agg #[.int .i64 c.zone.offset, v0, v1, v2]] w fun v w' => ∃ b, ∃ A1 : Nat → Prop, v = .pointer (some ⟨b, 0, none⟩) ∧ Hp B A1 w' (obCk 102 portref2_ShiftsIn b r :: L) ∧ Tr Dw B A w A1 w' := by
 obtain rfl := Option.some.inj hm
 refine enter Try.func41 rfl Try.ntmps41 rfl ?_
 have hK : Tr Dw B A w A w := Tr.refl (Dw := Dw) hA
 refine C_seq ?_
 refine C_region ?_
 refine V_box rfl rfl ?_
 intro b1 w1 n1
 have e1 : El (α := cal_Calendar) A w1 b1 0 c := n1.el hA ⟨[.int .i64 c.zone.offset, v0], _, rfl, ⟨[.int .i64 c.zone.offset], _, rfl, rfl, ⟨_, rfl, h0⟩⟩, ⟨[v1], _, rfl, ⟨_, rfl, h1⟩, ⟨_, rfl, h2⟩⟩⟩
 have t1 := Kp.tr (Dw := Dw) n1.kp hA hB
 replace hH := Hp.kp (Dw := Dw) hH n1.kp
 replace hK := Tr.trans (Dw := Dw) hK t1
 replace hB := Nat.le_trans hB t1.ex.size
 replace hA := t1.new
 refine V_y (Y_assign rfl) rfl rfl rfl ?_
 refine V_to (fun _ _ => rfl) ?_
 refine C_seq ?_
 refine C_region ?_
 obtain ⟨_, _, cs, hr, hat⟩ := e1
 have hr0 := hr
 obtain ⟨u0, u1, u2, rfl, s0, s1, s2⟩ := Rep_cal_Calendar hr0
 refine V_y (Y_loadA hat Try.isAgg58 Try.sizeOf58 rfl) rfl rfl rfl ?_
 refine V_makeMapF (Dw := Dw) (portref2_ShiftsIn c) hH hB hA rfl ?_
 intro mb w2 A2 h2 t2
 replace hr := GoT.keep hr t2.ex
 replace hK := Tr.trans (Dw := Dw) hK t2
 replace hB := Nat.le_trans hB t2.ex.size
 replace hA := t2.new
 refine V_y (Y_build Try.underlying102 Try.zeroValue102 (Try_places102 _ Try.underlying102) rfl (by with_unfolding_all rfl)) rfl rfl rfl ?_
 refine V_boxH (Dw := Dw) h2 rfl hB hA rfl ?_
 intro b3 w3 A3 h3 t3
 replace hr := GoT.keep hr t3.ex
 replace hK := Tr.trans (Dw := Dw) hK t3
 refine V_y (Y_assign rfl) rfl rfl rfl ?_
 refine V_to (fun _ _ => rfl) ?_
 have h4 : Hp B A3 w3 (ckL 102 portref2_ShiftsIn b3 c (mb, [.int .i64 c.zone.offset, u0, u1, u2]) ++ L) := h3.free (O' := obF (fun A w => GoT.rep A w [.int .i64 c.zone.offset, u0, u1, u2] c) (fun h he => GoT.keep h he)) ⟨rfl, hr⟩
 refine C_ret ?_
 try simp only [↓inBlock_ret, ↓then_ret]
 exact retQ rfl (Res.one Try.results41 rfl) ⟨b3, A3, rfl, Hp.pack _ h4, hK⟩
set_option maxRecDepth 4000 in
set_option maxHeartbeats 4000000 in
theorem portref2_newMeter_c (w : World) {A : Nat → Prop} {B : Nat} (hB : B ≤ w.heap.size) (hA : ∀ b, w.heap.size ≤ b → A b) (cals : (List cal_Calendar)) (v_cals : Value) (h_cals : Sl A w v_cals cals) {L : List Ob} (hH : Hp B A w (L)) {r : portref2_meter} (hm : portref2_newMeter cals = some r) : Ret Try.prog 21 #[v_cals] w fun v w' => ∃ b0, ∃ p0, ∃ A1 : Nat → Prop, v = .pointer (some ⟨b0, 0, none⟩) ∧ Hp B A1 w' (obC b0 [p0] 75 :: obPS (obCk 102 portref2_ShiftsIn) 76 p0 r.clocks :: L) ∧ Tr Dw B A w A1 w' := by
 unfold portref2_newMeter at hm
 refine enter Try.func21 rfl Try.ntmps21 rfl ?_
 have hK : Tr Dw B A w A w := Tr.refl (Dw := Dw) hA
 refine C_seq ?_
 refine C_region ?_
 refine V_y (Y_assign rfl) rfl rfl rfl ?_
 refine V_to (fun _ _ => rfl) ?_
 refine C_seq ?_
 refine C_region ?_
 refine V_y (Y_build Try.underlying75 Try.zeroValue75 (Try_places75 _ Try.underlying75) rfl (by with_unfolding_all rfl)) rfl rfl rfl ?_
 refine V_boxH (Dw := Dw) (B := B) hH rfl hB hA rfl ?_
 intro b3 w4 A5 hH6 ht7
 replace h_cals := Sl.tr (Dw := Dw) h_cals ht7
 replace hK := Tr.trans (Dw := Dw) hK ht7
 replace hB := Nat.le_trans hB ht7.ex.size
 replace hA := ht7.new
 replace hH : Hp B A5 w4 (obC b3 [.slice none 0 0] 75 :: L) := hH6
 refine V_y (Y_assign rfl) rfl rfl rfl ?_
 refine V_to (fun _ _ => rfl) ?_
 refine C_seq ?_
 refine C_seq ?_
 refine C_region ?_
 refine V_y (Y_move rfl) rfl rfl rfl ?_
 refine V_y (Y_lenSl h_cals rfl Try.underlying23 rfl) rfl rfl rfl ?_
 refine V_y (Y_move rfl) rfl rfl rfl ?_
 refine V_to (fun _ _ => rfl) ?_
 replace hH : Hp B A5 w4 (obPS (obCk 102 portref2_ShiftsIn) 76 (.slice none 0 0) ([] : (List cal_Calendar)) :: obC b3 [.slice none 0 0] 75 :: L) := Hp.psNil hH
 have hn32 := Sl.le h_cals
 obtain ⟨o8, ho8, hm⟩ := Option.bind_eq_some_iff.1 hm
 refine C_cutG (ι := (portref2_meter × Value × (Nat → Prop))) (fun ⟨s9, v15, A17⟩ => [(3, .pointer (some ⟨b3, 0, none⟩))]) (fun ⟨s9, v15, A17⟩ => fun w' => o8 = .fin s9 ∧ Hp B A17 w' (obPS (obCk 102 portref2_ShiftsIn) 76 v15 s9.clocks :: obC b3 [v15] 75 :: L) ∧ Tr Dw B A5 w4 A17 w') ?_ ?_
 ·refine C_block ?_
  refine C_range ho8 (fun k11 s19 a w' => ∃ i : (Value × (Nat → Prop)), Has ⟨27, [], none⟩ a ([(3, .pointer (some ⟨b3, 0, none⟩)), (8, v_cals), (9, .int .i64 (cals.length : Int)), (10, .int .i64 (k11 : Int))]) ∧ Hp B i.2 w' (obPS (obCk 102 portref2_ShiftsIn) 76 i.1 s19.clocks :: obC b3 [i.1] 75 :: L) ∧ Tr Dw B A5 w4 i.2 w') (fun a ha => ⟨(.slice none 0 0, A5), ha.sub ⟨rfl, rfl, rfl, rfl, trivial⟩, ⟨hH, Tr.refl (Dw := Dw) hA⟩⟩) ?_
  rintro K k11 s19 a w20 ⟨⟨v21, A23⟩, ha100, hH24, hr10⟩ hle28 K31 h30
  refine C_of ?_ ha100
  replace h_cals := Sl.tr (Dw := Dw) h_cals hr10
  replace hB := Nat.le_trans hB hr10.ex.size
  replace hA := hr10.new
  replace hH : Hp B A23 w20 (obPS (obCk 102 portref2_ShiftsIn) 76 v21 s19.clocks :: obC b3 [v21] 75 :: L) := hH24
  refine C_seq (C_region (V_y (Y_lss rfl rfl) rfl rfl rfl (V_to (fun _ _ => rfl) ?_)))
  refine C_seq ?_
  refine C_cond rfl (fun hc33 => ?_) (fun hc33 => ?_)
  ·have hlt29 := lt_of_dec hc33
   obtain ⟨x25, h26, h27⟩ := K31 hlt29
   refine C_skip_to (fun _ _ => rfl) ?_
   refine C_seq ?_
   refine C_block ?_
   refine C_seq ?_
   refine C_region ?_
   obtain ⟨x34, hx34, h26⟩ := Option.bind_eq_some_iff.1 h26
   refine V_indexAddr h_cals hx34 Try.underlying23 Try.sizeOf58 rfl rfl rfl ?_
   intro b35 o36 h37
   obtain ⟨v38, v40, v42, h44, h39, h41, h43⟩ := El_cal_Calendar h37
   refine V_y (Y_loadA h44 Try.isAgg58 Try.sizeOf58 rfl) rfl rfl rfl ?_
   refine V_alloc Try.zeroValue58 rfl ?_
   intro b45 w46 h47
   have h52 : (v38).oneCell' = true := by obtain ⟨_, _, e, _⟩ := Sl.form h39; rw [e]; rfl
   have h55 : (v40).oneCell' = true := by obtain ⟨_, _, e, _⟩ := Sl.form h41; rw [e]; rfl
   have h58 : (v42).oneCell' = true := by obtain ⟨_, _, e, _⟩ := Sl.form h43; rw [e]; rfl
   refine V_storeNew h47 Try.sizeOf58 rfl rfl rfl rfl (by exact (List.forall_mem_cons.2 ⟨rfl, (List.forall_mem_cons.2 ⟨h52, (List.forall_mem_cons.2 ⟨h55, (List.forall_mem_cons.2 ⟨h58, (fun _ h => nomatch h)⟩)⟩)⟩)⟩)) ?_
   intro w48 h49
   have hk60 := h49.kp (Dw := Dw)
   have h59 : El (α := cal_Calendar) A23 w48 b45 0 x34 := h49.el hA ⟨[.int .i64 x34.zone.offset, v38], _, rfl, ⟨[.int .i64 x34.zone.offset], _, rfl, rfl, ⟨_, rfl, h39⟩⟩, ⟨[v40], _, rfl, ⟨_, rfl, h41⟩, ⟨_, rfl, h43⟩⟩⟩
   have ht61 := Kp.tr (Dw := Dw) hk60 hA hB
   replace hH := Hp.kp (Dw := Dw) hH hk60
   replace hr10 := Tr.trans (Dw := Dw) hr10 ht61
   replace hB := Nat.le_trans hB ht61.ex.size
   replace hA := ht61.new
   refine V_to (fun _ _ => rfl) ?_
   refine C_region_ch (Dw := Dw) A23 12 [(1, 0), (1, 1), (1, 2), (1, 3), (0, 4), (1, 5), (2, 6), (2, 7), (4, 8), (1, 9), (1, 10), (4, 11)] Try_mixed (by kernel_rfl) (fun w62 hk63 => ?_)
   have ht64 := Kp.tr (Dw := Dw) hk63 hA hB
   replace hH := Hp.kp (Dw := Dw) hH hk63
   replace h59 := El.tr (Dw := Dw) h59 ht64
   replace hr10 := Tr.trans (Dw := Dw) hr10 ht64
   replace hB := Nat.le_trans hB ht64.ex.size
   replace hA := ht64.new
   refine CH_q2 (Dw := Dw) rfl ?_
   refine VQ_y (fun w' hw' => Y_move rfl) rfl rfl rfl ?_
   refine VQ_CH (Dw := Dw) ?_
   refine CH_q2 (Dw := Dw) rfl ?_
   refine VQ_y (fun w' hw' => Y_move rfl) rfl rfl rfl ?_
   refine VQ_CH (Dw := Dw) ?_
   refine CH_q2 (Dw := Dw) rfl ?_
   refine VQ_y (fun w' hw' => Y_nilCheck rfl) rfl rfl rfl ?_
   refine VQ_CH (Dw := Dw) ?_
   refine CH_q2 (Dw := Dw) rfl ?_
   refine VQ_y (fun w' hw' => Y_fieldAddrC (off2 := 0) Try.underlying75 rfl Try.sizeOf73 (by decide) rfl rfl) rfl rfl rfl ?_
   refine VQ_CH (Dw := Dw) ?_
   refine CH_q1 (Dw := Dw) rfl ?_
   refine VQ_y (fun w' hw' => Y_load ((World.cell?_of_block (hw'.block _ (World.block_lt_of_cell? _ _ (Hp.cell (j := 0) hH (i := 1) rfl rfl)))).trans (Hp.cell (j := 0) hH (i := 1) rfl rfl)) Try.isAgg73 rfl) rfl rfl rfl ?_
   refine VQ_CH (Dw := Dw) ?_
   refine CH_q2 (Dw := Dw) rfl ?_
   obtain ⟨v65, v67, v69, h71, h66, h68, h70⟩ := El_cal_Calendar h59
   refine VQ_y (fun w' hw' => Y_loadA (At.same h71 (hw'.2 _ h59.2.1 h59.1)) Try.isAgg58 Try.sizeOf58 rfl) rfl rfl rfl ?_
   refine VQ_CH (Dw := Dw) ?_
   refine CH_l1 (Dw := Dw) (k := 0) rfl ?_
   obtain ⟨x72, hx72, h26⟩ := Option.bind_eq_some_iff.1 h26
   refine V_call Try.call41 rfl rfl rfl rfl (portref2_NewClock_c (Dw := Dw) w62 (B := w62.heap.size) (Nat.le_refl _) hA x34 v65 h66 v67 h68 v69 h70 Hp.nil hx72) ?_
   rintro _ w74 ⟨b73, A75, rfl, hH76, ht77⟩
   have hk78 : Kp Dw w62 w74 := ht77.below
   have hH79 := Hp.join (Dw := Dw) hH hB ht77 hH76
   have ht80 := Tr.lower (Dw := Dw) ht77 hB
   replace hr10 := Tr.trans (Dw := Dw) hr10 ht80
   replace hB := Nat.le_trans hB ht80.ex.size
   replace hA := ht80.new
   replace hH : Hp B A75 w74 (obCk 102 portref2_ShiftsIn b73 x72 :: obPS (obCk 102 portref2_ShiftsIn) 76 v21 s19.clocks :: obC b3 [v21] 75 :: L) := hH79
   refine V_CH (Dw := Dw) (hk78) ?_
   refine CH_l1 (Dw := Dw) (k := 0) rfl ?_
   refine V_buildSlice (Dw := Dw) (l := [(⟨b73⟩ : Ptr)]) (len := 1) Try.underlying73 Try.sizeOf76 Try.zeroValue76 rfl (by with_unfolding_all rfl) (by decide) (by decide) hA ⟨[.pointer (some ⟨b73, 0, none⟩)], _, rfl, rfl, rfl⟩ rfl rfl ?_
   intro v81 w82 hk84 h83
   have ht85 := Kp.tr (Dw := Dw) hk84 hA hB
   replace hH := Hp.kp (Dw := Dw) hH hk84
   replace hr10 := Tr.trans (Dw := Dw) hr10 ht85
   replace hB := Nat.le_trans hB ht85.ex.size
   replace hA := ht85.new
   refine V_CH (Dw := Dw) (hk84) ?_
   refine CH_l1 (Dw := Dw) (k := 2) rfl ?_
   obtain ⟨x86, hx86, h26⟩ := Option.bind_eq_some_iff.1 h26
   refine V_appendPS (Dw := Dw) (f := obCk 102 portref2_ShiftsIn) (e := 76) (v := v21) (cs := s19.clocks) (c := x72) (ti := Try.t76) (bytes := 8) (lim := 17592186044416) hH (i := 0) rfl h83 hx86 Try.underlying73 Try_info76 rfl rfl rfl rfl (by decide) (by decide) hB hA rfl rfl rfl ?_
   intro v87 w88 A89 hH90 ht91
   replace hr10 := Tr.trans (Dw := Dw) hr10 ht91
   replace hB := Nat.le_trans hB ht91.ex.size
   replace hA := ht91.new
   replace hH : Hp B A89 w88 (obPS (obCk 102 portref2_ShiftsIn) 76 v87 x86 :: obC b3 [v21] 75 :: L) := hH90
   refine V_CHw (Dw := Dw) ?_
   refine CH_q2 (Dw := Dw) rfl ?_
   refine VQ_y (fun w' hw' => Y_nilCheck rfl) rfl rfl rfl ?_
   refine VQ_CH (Dw := Dw) ?_
   refine CH_q2 (Dw := Dw) rfl ?_
   refine VQ_y (fun w' hw' => Y_fieldAddrC (off2 := 0) Try.underlying75 rfl Try.sizeOf73 (by decide) rfl rfl) rfl rfl rfl ?_
   refine VQ_CH (Dw := Dw) ?_
   refine CH_l1 (Dw := Dw) (k := 2) rfl ?_
   have h97 : (v87).oneCell' = true := Hp.psOne (f := obCk 102 portref2_ShiftsIn) (e := 76) (v := v87) (cs := x86) hH (i := 0) rfl
   refine V_storeC (Dw := Dw) (off := 0) (ds := [v87]) hH (i := 1) rfl Try.sizeOf73 (by rw [← Array.length_toList, Value.cells_one h97]; rfl) (Nat.le_of_ble_eq_true rfl) (by intro u hu; rw [Value.cells_one h97] at hu; simp at hu; subst hu; assumption) (by rw [Value.cells_one h97]; rfl) hB hA rfl rfl ?_
   intro w92 hH93 ht94
   replace hr10 := Tr.trans (Dw := Dw) hr10 ht94
   replace hH : Hp B A89 w92 (obPS (obCk 102 portref2_ShiftsIn) 76 v87 x86 :: obC b3 [v87] 75 :: L) := hH93
   refine V_CHw (Dw := Dw) ?_
   refine CH_tail (Dw := Dw) ?_
   show V _ _ _ _ [] _ _
   refine V_to (fun _ _ => rfl) ?_
   refine C_region ?_
   refine V_y (Y_addI rfl rfl) rfl rfl rfl ?_
   refine V_y (Y_move rfl) rfl rfl rfl ?_
   obtain rfl := Option.some.inj h26
   refine V_end (fun a ha98 => ?_)
   exact ⟨(⟨x86⟩ : portref2_meter), hlt29, h27, ⟨(v87, A89), ha98.sub ⟨rfl, rfl, rfl, (congrArg (fun z => some (Value.int .i64 z)) (w64_succ hlt29 hn32)), trivial⟩, ⟨hH, hr10⟩⟩⟩
  ·refine C_exit (fun a ha99 => ?_)
   exact ⟨(s19, v21, A23), ha99.sub ⟨rfl, trivial⟩, ⟨(h30 (eq_of_dec hle28 hc33)).symm, hH, hr10⟩⟩
 rintro ⟨s9, v15, A17⟩ w12 ⟨rfl, hH18, hk13⟩ a ha14
 rw [Lp.andThen_fin] at hm
 replace hK := Tr.trans (Dw := Dw) hK hk13
 replace hA := hk13.new
 replace hH : Hp B A17 w12 (obPS (obCk 102 portref2_ShiftsIn) 76 v15 s9.clocks :: obC b3 [v15] 75 :: L) := hH18
 refine C_at (n := ⟨27, [], none⟩) (fun _ _ => rfl) ?_ ha14
 refine C_seq ?_
 refine C_region ?_
 refine V_y (Y_move rfl) rfl rfl rfl ?_
 refine V_y (Y_assign rfl) rfl rfl rfl ?_
 refine V_to (fun _ _ => rfl) ?_
 obtain rfl := Option.some.inj hm
 replace hH : Hp B A17 w12 (obC b3 [v15] 75 :: obPS (obCk 102 portref2_ShiftsIn) 76 v15 s9.clocks :: L) := Hp.front hH (i := 1) rfl
 refine C_ret ?_
 try simp only [↓inBlock_ret, ↓then_ret]
 exact retQ rfl (Res.one Try.results21 rfl) ⟨b3, v15, A17, rfl, hH, hK⟩
set_option maxRecDepth 4000 in
set_option maxHeartbeats 4000000 in
theorem portref2_goesOn_c (w : World) {A : Nat → Prop} (hA : ∀ b, w.heap.size ≤ b → A b) (c : level_Clock) (v_c : Value) (h_c : Sl A w v_c c.pieces) {r : Bool} (hm : portref2_goesOn c = some r) : Ret Try.prog 22 #[.agg #[.int .i64 c.kind, .int .i64 c.level, .int .i64 c.minutes, .int .i64 c.start, .int .i64 c.stop, .int .i64 c.end_, v_c]] w fun v w' => v = .bool r ∧ Kp Dw w w' := by
 unfold portref2_goesOn at hm
 refine enter Try.func22 rfl Try.ntmps22 rfl ?_
 have hA0 := hA
 have hB := Nat.le_refl w.heap.size
 have hK : Tr Dw w.heap.size A w A w := Tr.refl (Dw := Dw) hA
 have hH : Hp w.heap.size A w [] := Hp.nil
 refine C_seq ?_
 refine C_region ?_
 refine V_box rfl rfl ?_
 intro b3 w4 h5
 have hk7 := h5.kp (Dw := Dw)
 have h6 : El (α := level_Clock) A w4 b3 0 c := h5.el hA ⟨[.int .i64 c.kind], _, rfl, rfl, ⟨[.int .i64 c.level], _, rfl, rfl, ⟨[.int .i64 c.minutes], _, rfl, rfl, ⟨[.int .i64 c.start], _, rfl, rfl, ⟨[.int .i64 c.stop], _, rfl, rfl, ⟨[.int .i64 c.end_], _, rfl, rfl, ⟨_, rfl, h_c⟩⟩⟩⟩⟩⟩⟩
 have ht8 := Kp.tr (Dw := Dw) hk7 hA hB
 replace hK := Tr.trans (Dw := Dw) hK ht8
 refine V_y (Y_assign rfl) rfl rfl rfl ?_
 refine V_to (fun _ _ => rfl) ?_
 refine C_seq ?_
 refine C_region ?_
 have h9 := El_level_Clock_4 h6
 refine V_y (Y_fieldAddr Try.underlying37 rfl Try.sizeOf3 (by decide) rfl) rfl rfl rfl ?_
 refine V_y (Y_load (El.int h9) Try.isAgg3 rfl) rfl rfl rfl ?_
 refine V_y (Y_lss rfl rfl) rfl rfl rfl ?_
 refine V_y (Y_move rfl) rfl rfl rfl ?_
 refine V_cut 5 (fun _ : Unit => [(1, .pointer (some ⟨b3, 0, none⟩)), (11, .bool ((decide (c.stop < 0)) && (decide ((0 : Int) < (c.pieces.length : Int)))))]) (fun _ w' => w4 = w') ?_ ?_
 ·simp only [List.take, List.drop]
  rcases Bool.eq_false_or_eq_true (decide (c.stop < 0)) with hc10 | hc10
  ·refine V_ge rfl rfl rfl hc10 ?_
   have h12 := El_level_Clock_6 h6
   refine V_y (Y_fieldAddr Try.underlying37 rfl Try.sizeOf35 (by decide) rfl) rfl rfl rfl ?_
   refine V_ge rfl rfl rfl hc10 ?_
   obtain ⟨v13, h14, h15⟩ := El.list h12
   refine V_y (Y_load h14 Try.isAgg35 rfl) rfl rfl rfl ?_
   refine V_ge rfl rfl rfl hc10 ?_
   refine V_y (Y_lenSl h15 rfl Try.underlying35 rfl) rfl rfl rfl ?_
   refine V_ge rfl rfl rfl hc10 ?_
   refine V_y (Y_gtr rfl rfl) rfl rfl rfl ?_
   refine V_y (Y_pick_te rfl hc10 rfl) rfl rfl rfl ?_
   exact V_end fun a ha => ⟨(), ha.sub ⟨rfl, (by rw [hc10]; rfl), trivial⟩, rfl⟩
  ·refine V_gn rfl rfl rfl hc10 rfl rfl rfl ?_
   refine V_gn rfl rfl rfl hc10 rfl rfl rfl ?_
   refine V_gn rfl rfl rfl hc10 rfl rfl rfl ?_
   refine V_gn rfl rfl rfl hc10 rfl rfl rfl ?_
   refine V_y (Y_pick_fe rfl hc10 rfl) rfl rfl rfl ?_
   exact V_end fun a ha => ⟨(), ha.sub ⟨rfl, (by rw [hc10]; rfl), trivial⟩, rfl⟩
 simp only [List.take, List.drop]
 rintro _ _ rfl
 refine V_y (Y_move rfl) rfl rfl rfl ?_
 obtain ⟨s17, hs17, hm⟩ := Option.bind_eq_some_iff.1 hm
 refine V_cut 11 (fun _ : Unit => [(23, .bool s17)]) (fun _ w' => w4 = w') ?_ ?_
 ·simp only [List.take, List.drop]
  rcases Bool.eq_false_or_eq_true (((decide (c.stop < 0)) && (decide ((0 : Int) < (c.pieces.length : Int))))) with hc16 | hc16
  ·rw [if_pos hc16] at hs17
   refine V_ge rfl rfl rfl hc16 ?_
   have h18 := El_level_Clock_6 h6
   refine V_y (Y_fieldAddr Try.underlying37 rfl Try.sizeOf35 (by decide) rfl) rfl rfl rfl ?_
   refine V_ge rfl rfl rfl hc16 ?_
   obtain ⟨v19, h20, h21⟩ := El.list h18
   refine V_y (Y_load h20 Try.isAgg35 rfl) rfl rfl rfl ?_
   refine V_ge rfl rfl rfl hc16 ?_
   have h22 := El_level_Clock_6 h6
   refine V_y (Y_fieldAddr Try.underlying37 rfl Try.sizeOf35 (by decide) rfl) rfl rfl rfl ?_
   refine V_ge rfl rfl rfl hc16 ?_
   obtain ⟨v23, h24, h25⟩ := El.list h22
   refine V_y (Y_load h24 Try.isAgg35 rfl) rfl rfl rfl ?_
   refine V_ge rfl rfl rfl hc16 ?_
   refine V_y (Y_lenSl h25 rfl Try.underlying35 rfl) rfl rfl rfl ?_
   refine V_ge rfl rfl rfl hc16 ?_
   refine V_y (Y_subI rfl rfl) rfl rfl rfl ?_
   refine V_ge rfl rfl rfl hc16 ?_
   obtain ⟨x26, hx26, hs17⟩ := Option.bind_eq_some_iff.1 hs17
   refine V_indexAddr h21 hx26 Try.underlying35 Try.sizeOf62 rfl rfl rfl ?_
   intro b27 o28 h29
   refine V_ge rfl rfl rfl hc16 ?_
   have h30 := El_level_Piece_1 h29
   refine V_y (Y_fieldAddr Try.underlying62 rfl Try.sizeOf3 (by decide) rfl) rfl rfl rfl ?_
   refine V_ge rfl rfl rfl hc16 ?_
   refine V_y (Y_load (El.int h30) Try.isAgg3 rfl) rfl rfl rfl ?_
   refine V_ge rfl rfl rfl hc16 ?_
   refine V_y (Y_lss rfl rfl) rfl rfl rfl ?_
   refine V_y (Y_pick_te rfl hc16 rfl) rfl rfl rfl ?_
   obtain rfl := Option.some.inj hs17
   exact V_end fun a ha => ⟨(), ha.sub ⟨rfl, trivial⟩, rfl⟩
  ·rw [if_neg (nt hc16)] at hs17
   refine V_gn rfl rfl rfl hc16 rfl rfl rfl ?_
   refine V_gn rfl rfl rfl hc16 rfl rfl rfl ?_
   refine V_gn rfl rfl rfl hc16 rfl rfl rfl ?_
   refine V_gn rfl rfl rfl hc16 rfl rfl rfl ?_
   refine V_gn rfl rfl rfl hc16 rfl rfl rfl ?_
   refine V_gn rfl rfl rfl hc16 rfl rfl rfl ?_
   refine V_gn rfl rfl rfl hc16 rfl rfl rfl ?_
   refine V_gn rfl rfl rfl hc16 rfl rfl rfl ?_
   refine V_gn rfl rfl rfl hc16 rfl rfl rfl ?_
   refine V_gn rfl rfl rfl hc16 rfl rfl rfl ?_
   refine V_y (Y_pick_fe rfl hc16 rfl) rfl rfl rfl ?_
   obtain rfl := Option.some.inj hs17
   exact V_end fun a ha => ⟨(), ha.sub ⟨rfl, trivial⟩, rfl⟩
 simp only [List.take, List.drop]
 rintro _ _ rfl
 refine V_y (Y_assign rfl) rfl rfl rfl ?_
 refine V_to (fun _ _ => rfl) ?_
 obtain rfl := Option.some.inj hm
 refine C_ret ?_
 try simp only [↓inBlock_ret, ↓then_ret]
 exact retQ rfl (Res.one Try.results22 rfl) ⟨rfl, hK.kp⟩
set_option maxRecDepth 4000 in
set_option maxHeartbeats 4000000 in
theorem portref2_OffsetIn_c (w : World) {A : Nat → Prop} (hA : ∀ b, w.heap.size ≤ b → A b) (z : cal_Zone) (v_z : Value) (h_z : Sl A w v_z z.changes) (m : Int) {r : Int} (hm : portref2_OffsetIn z m = some r) : Ret Try.prog 88 #[.agg #[.int .i64 z.offset, v_z], .int .i64 m] w fun v w' => v = .int .i64 r ∧ Kp Dw w w' := by
 unfold portref2_OffsetIn at hm
 refine enter Try.func88 rfl Try.ntmps88 rfl ?_
 have hA0 := hA
 have hB := Nat.le_refl w.heap.size
 have hK : Tr Dw w.heap.size A w A w := Tr.refl (Dw := Dw) hA
 have hH : Hp w.heap.size A w [] := Hp.nil
 refine C_seq ?_
 refine C_region ?_
 refine V_box rfl rfl ?_
 intro b3 w4 h5
 have hk7 := h5.kp (Dw := Dw)
 have h6 : El (α := cal_Zone) A w4 b3 0 z := h5.el hA ⟨[.int .i64 z.offset], _, rfl, rfl, ⟨_, rfl, h_z⟩⟩
 have ht8 := Kp.tr (Dw := Dw) hk7 hA hB
 replace hH := Hp.kp (Dw := Dw) hH hk7
 replace hK := Tr.trans (Dw := Dw) hK ht8
 replace hB := Nat.le_trans hB ht8.ex.size
 replace hA := ht8.new
 refine V_y (Y_assign rfl) rfl rfl rfl ?_
 refine V_to (fun _ _ => rfl) ?_
 refine C_seq ?_
 refine C_region ?_
 have h9 := El_cal_Zone_0 h6
 refine V_y (Y_fieldAddr Try.underlying54 rfl Try.sizeOf3 (by decide) rfl) rfl rfl rfl ?_
 refine V_y (Y_load (El.int h9) Try.isAgg3 rfl) rfl rfl rfl ?_
 refine V_y (Y_assign rfl) rfl rfl rfl ?_
 refine V_to (fun _ _ => rfl) ?_
 refine C_seq ?_
 refine C_seq ?_
 refine C_region ?_
 have h10 := El_cal_Zone_1 h6
 refine V_y (Y_fieldAddr Try.underlying54 rfl Try.sizeOf52 (by decide) rfl) rfl rfl rfl ?_
 obtain ⟨v11, h12, h13⟩ := El.list h10
 refine V_y (Y_load h12 Try.isAgg52 rfl) rfl rfl rfl ?_
 refine V_y (Y_lenSl h13 rfl Try.underlying52 rfl) rfl rfl rfl ?_
 refine V_y (Y_move rfl) rfl rfl rfl ?_
 refine V_to (fun _ _ => rfl) ?_
 have hn34 := Sl.le h13
 obtain ⟨o14, ho14, hm⟩ := Option.bind_eq_some_iff.1 hm
 refine C_cutG (ι := (Int × (Nat → Prop))) (fun ⟨s15, A21⟩ => [(5, .int .i64 s15)]) (fun ⟨s15, A21⟩ => fun w' => o14 = .fin s15 ∧ Hp w.heap.size A21 w' ([]) ∧ Tr Dw w.heap.size A w4 A21 w') ?_ ?_
 ·refine C_block ?_
  refine C_range ho14 (fun k17 s23 a w' => ∃ i : (Nat → Prop), Has ⟨25, [], none⟩ a ([(1, .int .i64 m), (5, .int .i64 s23), (11, v11), (12, .int .i64 (z.changes.length : Int)), (13, .int .i64 (k17 : Int))]) ∧ Hp w.heap.size i w' ([]) ∧ Tr Dw w.heap.size A w4 i w') (fun a ha => ⟨A, ha.sub ⟨rfl, rfl, rfl, rfl, rfl, trivial⟩, ⟨hH, Tr.refl (Dw := Dw) hA⟩⟩) ?_
  rintro K k17 s23 a w24 ⟨A25, ha71, hH26, hr16⟩ hle30 K33 h32
  refine C_of ?_ ha71
  replace h13 := Sl.tr (Dw := Dw) h13 hr16
  replace hB := Nat.le_trans hB hr16.ex.size
  replace hA := hr16.new
  replace hH : Hp w.heap.size A25 w24 ([]) := hH26
  refine C_seq (C_region (V_y (Y_lss rfl rfl) rfl rfl rfl (V_to (fun _ _ => rfl) ?_)))
  refine C_seq ?_
  refine C_cond rfl (fun hc35 => ?_) (fun hc35 => ?_)
  ·have hlt31 := lt_of_dec hc35
   obtain ⟨x27, h28, h29⟩ := K33 hlt31
   refine C_skip_to (fun _ _ => rfl) ?_
   refine C_seq ?_
   obtain ⟨s37, ho36, h28⟩ := Option.bind_eq_some_iff.1 h28
   refine C_cutG (ι := (Nat → Prop)) (fun (A42 : (Nat → Prop)) => [(1, .int .i64 m), (5, .int .i64 s37), (11, v11), (12, .int .i64 (z.changes.length : Int)), (13, .int .i64 (k17 : Int))]) (fun (A42 : (Nat → Prop)) => fun w' => Hp w.heap.size A42 w' ([]) ∧ Tr Dw w.heap.size A25 w24 A42 w') ?_ ?_
   ·have hr38 : Tr Dw w.heap.size A25 w24 A25 w24 := Tr.refl (Dw := Dw) hA
    refine C_block ?_
    refine C_seq ?_
    refine C_region ?_
    obtain ⟨x44, hx44, ho36⟩ := Option.bind_eq_some_iff.1 ho36
    refine V_indexAddr h13 hx44 Try.underlying52 Try.sizeOf104 rfl rfl rfl ?_
    intro b45 o46 h47
    obtain ⟨h48, _⟩ := El_cal_Change h47
    refine V_y (Y_loadA h48 Try.isAgg104 Try.sizeOf104 rfl) rfl rfl rfl ?_
    refine V_alloc Try.zeroValue104 rfl ?_
    intro b49 w50 h51
    refine V_storeNew h51 Try.sizeOf104 rfl rfl rfl rfl (by exact (List.forall_mem_cons.2 ⟨rfl, (List.forall_mem_cons.2 ⟨rfl, (fun _ h => nomatch h)⟩)⟩)) ?_
    intro w52 h53
    have hk55 := h53.kp (Dw := Dw)
    have h54 : El (α := cal_Change) A25 w52 b49 0 x44 := h53.el hA ⟨[.int .i64 x44.at_], _, rfl, rfl, rfl⟩
    have ht56 := Kp.tr (Dw := Dw) hk55 hA hB
    replace hH := Hp.kp (Dw := Dw) hH hk55
    replace hr38 := Tr.trans (Dw := Dw) hr38 ht56
    refine V_to (fun _ _ => rfl) ?_
    refine C_seq ?_
    refine C_region ?_
    have h57 := El_cal_Change_0 h54
    refine V_y (Y_fieldAddr Try.underlying104 rfl Try.sizeOf3 (by decide) rfl) rfl rfl rfl ?_
    refine V_y (Y_load (El.int h57) Try.isAgg3 rfl) rfl rfl rfl ?_
    refine V_y (Y_move rfl) rfl rfl rfl ?_
    refine V_y (Y_leq rfl rfl) rfl rfl rfl ?_
    refine V_to (fun _ _ => rfl) ?_
    obtain ⟨s59, ho58, ho36⟩ := Option.bind_eq_some_iff.1 ho36
    refine C_cutG (ι := Unit) (fun (_ : Unit) => [(1, .int .i64 m), (5, .int .i64 s59), (11, v11), (12, .int .i64 (z.changes.length : Int)), (13, .int .i64 (k17 : Int))]) (fun (_ : Unit) => fun w' => w52 = w') ?_ ?_
    ·refine C_cond rfl (fun hc64 => ?_) (fun hc64 => ?_)
     ·rw [if_pos hc64] at ho58
      refine C_region ?_
      have h65 := El_cal_Change_1 h54
      refine V_y (Y_fieldAddr Try.underlying104 rfl Try.sizeOf3 (by decide) rfl) rfl rfl rfl ?_
      refine V_y (Y_load (El.int h65) Try.isAgg3 rfl) rfl rfl rfl ?_
      refine V_y (Y_assign rfl) rfl rfl rfl ?_
      obtain rfl := Option.some.inj ho58
      refine V_end (fun a ha66 => ?_)
      exact ⟨(), ha66.sub ⟨rfl, rfl, rfl, rfl, rfl, trivial⟩, rfl⟩
     ·rw [if_neg (nt hc64)] at ho58
      obtain rfl := Option.some.inj ho58
      refine C_skip (fun a ha67 => ?_)
      exact ⟨(), ha67.sub ⟨rfl, rfl, rfl, rfl, rfl, trivial⟩, rfl⟩
    rintro _ _ rfl a ha63
    obtain rfl := Option.some.inj ho36
    exact ⟨A25, ha63.sub ⟨rfl, rfl, rfl, rfl, rfl, trivial⟩, ⟨hH, hr38⟩⟩
   rintro A42 w39 ⟨hH43, hk40⟩ a ha41
   replace hr16 := Tr.trans (Dw := Dw) hr16 hk40
   replace hA := hk40.new
   replace hH : Hp w.heap.size A42 w39 ([]) := hH43
   refine C_at (n := ⟨25, [], none⟩) (fun _ _ => rfl) ?_ ha41
   refine C_region ?_
   refine V_y (Y_addI rfl rfl) rfl rfl rfl ?_
   refine V_y (Y_move rfl) rfl rfl rfl ?_
   obtain rfl := Option.some.inj h28
   refine V_end (fun a ha69 => ?_)
   exact ⟨s37, hlt31, h29, ⟨A42, ha69.sub ⟨rfl, rfl, rfl, rfl, (congrArg (fun z => some (Value.int .i64 z)) (w64_succ hlt31 hn34)), trivial⟩, ⟨hH, hr16⟩⟩⟩
  ·refine C_exit (fun a ha70 => ?_)
   exact ⟨(s23, A25), ha70.sub ⟨rfl, trivial⟩, ⟨(h32 (eq_of_dec hle30 hc35)).symm, hH, hr16⟩⟩
 rintro ⟨s15, A21⟩ w18 ⟨rfl, hH22, hk19⟩ a ha20
 rw [Lp.andThen_fin] at hm
 replace hK := Tr.trans (Dw := Dw) hK hk19
 replace hA := hk19.new
 replace hH : Hp w.heap.size A21 w18 ([]) := hH22
 refine C_at (n := ⟨25, [], none⟩) (fun _ _ => rfl) ?_ ha20
 refine C_seq ?_
 refine C_region ?_
 refine V_y (Y_move rfl) rfl rfl rfl ?_
 refine V_y (Y_assign rfl) rfl rfl rfl ?_
 refine V_to (fun _ _ => rfl) ?_
 obtain rfl := Option.some.inj hm
 refine C_ret ?_
 try simp only [↓inBlock_ret, ↓then_ret]
 exact retQ rfl (Res.one Try.results88 rfl) ⟨rfl, hK.kp⟩
set_option maxRecDepth 4000 in
set_option maxHeartbeats 4000000 in
theorem portref2_LocalIn_c (w : World) {A : Nat → Prop} (hA : ∀ b, w.heap.size ≤ b → A b) (z : cal_Zone) (v_z : Value) (h_z : Sl A w v_z z.changes) (m : Int) {r : (Int × Int)} (hm : portref2_LocalIn z m = some r) : Ret Try.prog 77 #[.agg #[.int .i64 z.offset, v_z], .int .i64 m] w fun v w' => v = .tuple #[.int .i64 r.1, .int .i64 r.2] ∧ Kp Dw w w' := by
 unfold portref2_LocalIn at hm
 refine enter Try.func77 rfl Try.ntmps77 rfl ?_
 have hA0 := hA
 have hB := Nat.le_refl w.heap.size
 have hK : Tr Dw w.heap.size A w A w := Tr.refl (Dw := Dw) hA
 have hH : Hp w.heap.size A w [] := Hp.nil
 refine C_seq ?_
 refine C_region ?_
 refine V_box rfl rfl ?_
 intro b3 w4 h5
 have hk7 := h5.kp (Dw := Dw)
 have h6 : El (α := cal_Zone) A w4 b3 0 z := h5.el hA ⟨[.int .i64 z.offset], _, rfl, rfl, ⟨_, rfl, h_z⟩⟩
 have ht8 := Kp.tr (Dw := Dw) hk7 hA hB
 replace hK := Tr.trans (Dw := Dw) hK ht8
 replace hB := Nat.le_trans hB ht8.ex.size
 replace hA := ht8.new
 refine V_y (Y_assign rfl) rfl rfl rfl ?_
 refine V_y (Y_assign rfl) rfl rfl rfl ?_
 refine V_to (fun _ _ => rfl) ?_
 refine C_seq ?_
 refine C_region ?_
 refine V_y (Y_move rfl) rfl rfl rfl ?_
 obtain ⟨v9, h11, h10⟩ := El_cal_Zone h6
 refine V_y (Y_loadA h11 Try.isAgg54 Try.sizeOf54 rfl) rfl rfl rfl ?_
 refine V_y (Y_move rfl) rfl rfl rfl ?_
 obtain ⟨x12, hx12, hm⟩ := Option.bind_eq_some_iff.1 hm
 refine V_call Try.call88 rfl rfl rfl rfl (portref2_OffsetIn_c (Dw := Dw) w4 hA z v9 h10 m hx12) ?_
 rintro _ w13 ⟨rfl, hk14⟩
 have ht15 := Kp.tr (Dw := Dw) hk14 hA hB
 replace hK := Tr.trans (Dw := Dw) hK ht15
 replace hB := Nat.le_trans hB ht15.ex.size
 replace hA := ht15.new
 refine V_y (Y_addI rfl rfl) rfl rfl rfl ?_
 obtain ⟨x16, hx16, hm⟩ := Option.bind_eq_some_iff.1 hm
 refine V_call Try.call87 rfl rfl rfl rfl (portref2_floorDiv_c (Dw := Dw) w13 hA (w64 (m + x12)) 1440 hx16) ?_
 rintro _ w17 ⟨rfl, hk18⟩
 have ht19 := Kp.tr (Dw := Dw) hk18 hA hB
 replace hK := Tr.trans (Dw := Dw) hK ht19
 refine V_y (Y_extract rfl rfl) rfl rfl rfl ?_
 refine V_y (Y_extract rfl rfl) rfl rfl rfl ?_
 refine V_y (Y_assign rfl) rfl rfl rfl ?_
 refine V_y (Y_assign rfl) rfl rfl rfl ?_
 refine V_to (fun _ _ => rfl) ?_
 obtain rfl := Option.some.inj hm
 refine C_ret ?_
 try simp only [↓inBlock_ret, ↓then_ret]
 exact retQ rfl (Res.two Try.results77 rfl rfl) ⟨rfl, hK.kp⟩
set_option maxRecDepth 4000 in
set_option maxHeartbeats 4000000 in
theorem portref2_Clock_shifts_c (w : World) {A : Nat → Prop} {B : Nat} (hB : B ≤ w.heap.size) (hA : ∀ b, w.heap.size ≤ b → A b) (k : cal_Calendar) (b_k : Nat) (day : Int) {L : List Ob} (hH : Hp B A w (obCk 102 portref2_ShiftsIn b_k k :: L)) {r : (List cal_Shift)} (hm : portref2_Clock_shifts k day = some r) : Ret Try.prog 78 #[.pointer (some ⟨b_k, 0, none⟩), .int .i64 day] w fun v w' => ∃ s0, ∃ A1 : Nat → Prop, v = s0 ∧ Sl A1 w' s0 r ∧ Hp B A1 w' (obCk 102 portref2_ShiftsIn b_k k :: L) ∧ Tr Dw B A w A1 w' := by
 unfold portref2_Clock_shifts at hm
 refine enter Try.func78 rfl Try.ntmps78 rfl ?_
 have hK : Tr Dw B A w A w := Tr.refl (Dw := Dw) hA
 obtain ⟨⟨mb, cs⟩, hH⟩ := Hp.open hH
 have hr : GoT.rep A w cs k := by
  obtain ⟨_, ⟨_, hr⟩, _⟩ := hH.at (i := 0) rfl
  exact hr
 have hr0 := hr
 obtain ⟨u0, u1, u2, rfl, s0, s1, s2⟩ := Rep_cal_Calendar hr0
 replace hH : Hp B A w (obC b_k [.int .i64 k.zone.offset, u0, u1, u2, .map (some mb)] 102 :: obMF (portref2_ShiftsIn k) mb :: L) := hH.drops (L := [_])
 refine C_seq ?_
 refine C_region ?_
 refine V_y (Y_assign rfl) rfl rfl rfl ?_
 refine V_to (fun _ _ => rfl) ?_
 refine C_seq ?_
 refine C_region ?_
 refine V_y (Y_move rfl) rfl rfl rfl ?_
 refine V_y (Y_nilCheck rfl) rfl rfl rfl ?_
 refine V_y (Y_fieldAddrC (off2 := 4) Try.underlying102 rfl Try.sizeOf100 (by decide) rfl rfl) rfl rfl rfl ?_
 refine V_y (Y_load (Hp.cell (j := 4) hH (i := 0) rfl rfl) Try.isAgg100 rfl) rfl rfl rfl ?_
 refine V_y (Y_move rfl) rfl rfl rfl ?_
 refine V_lookupF hH (i := 1) rfl Try.underlying100 Try.underlying3 Try.zeroValue55 rfl rfl rfl ?_ ?_
 ·intro v l hl hs
  rw [hm] at hl
  obtain rfl := Option.some.inj hl
  refine V_y (Y_move rfl) rfl rfl rfl ?_
  refine V_y (Y_extract rfl rfl) rfl rfl rfl ?_
  refine V_y (Y_extract rfl rfl) rfl rfl rfl ?_
  refine V_y (Y_assign rfl) rfl rfl rfl ?_
  refine V_y (Y_assign rfl) rfl rfl rfl ?_
  refine V_to (fun _ _ => rfl) ?_
  refine C_seq ?_
  refine C_seq ?_
  refine C_region ?_
  refine V_y (Y_move rfl) rfl rfl rfl ?_
  refine V_y (Y_not rfl) rfl rfl rfl ?_
  refine V_to (fun _ _ => rfl) ?_
  refine C_cond rfl (fun hc => by cases hc) (fun hc => ?_)
  refine C_skip_to (fun _ _ => rfl) ?_
  have h4 : Hp B A w (ckL 102 portref2_ShiftsIn b_k k (mb, [.int .i64 k.zone.offset, u0, u1, u2]) ++ L) := hH.free (O' := obF (fun A w => GoT.rep A w [.int .i64 k.zone.offset, u0, u1, u2] k) (fun h he => GoT.keep h he)) ⟨rfl, hr⟩
  refine C_seq ?_
  refine C_region ?_
  refine V_y (Y_move rfl) rfl rfl rfl ?_
  refine V_y (Y_assign rfl) rfl rfl rfl ?_
  refine V_to (fun _ _ => rfl) ?_
  refine C_ret ?_
  try simp only [↓inBlock_ret, ↓then_ret]
  exact retQ rfl (Res.one Try.results78 rfl) ⟨_, A, rfl, hs, Hp.pack _ h4, hK⟩
 ·refine V_y (Y_move rfl) rfl rfl rfl ?_
  refine V_y (Y_extract rfl rfl) rfl rfl rfl ?_
  refine V_y (Y_extract rfl rfl) rfl rfl rfl ?_
  refine V_y (Y_assign rfl) rfl rfl rfl ?_
  refine V_y (Y_assign rfl) rfl rfl rfl ?_
  refine V_to (fun _ _ => rfl) ?_
  refine C_seq ?_
  refine C_seq ?_
  refine C_region ?_
  refine V_y (Y_move rfl) rfl rfl rfl ?_
  refine V_y (Y_not rfl) rfl rfl rfl ?_
  refine V_to (fun _ _ => rfl) ?_
  refine C_cond rfl (fun hc => ?_) (fun hc => by cases hc)
  refine C_seq ?_
  refine C_region ?_
  refine V_y (Y_move rfl) rfl rfl rfl ?_
  refine V_y (Y_nilCheck rfl) rfl rfl rfl ?_
  refine V_y (Y_fieldAddrC (off2 := 0) Try.underlying102 rfl Try.sizeOf58 (by decide) rfl rfl) rfl rfl rfl ?_
  have hat : At w b_k 0 [.int .i64 k.zone.offset, u0, u1, u2] := Hp.part (n := 4) (i := 0) hH rfl rfl
  refine V_y (Y_loadA hat Try.isAgg58 Try.sizeOf58 rfl) rfl rfl rfl ?_
  refine V_y (Y_move rfl) rfl rfl rfl ?_
  refine V_call Try.call89 rfl rfl rfl rfl (portref2_ShiftsIn_c (Dw := Dw) w hA k u0 s0 u1 s1 u2 s2 day hm) ?_
  rintro s1 w1 ⟨_, rfl, hs, hk⟩
  have t1 := Kp.tr (Dw := Dw) hk hA hB
  replace hH := Hp.kp (Dw := Dw) hH hk
  replace hr := GoT.keep hr t1.ex
  replace hK := Tr.trans (Dw := Dw) hK t1
  replace hB := Nat.le_trans hB t1.ex.size
  replace hA := t1.new
  refine V_y (Y_assign rfl) rfl rfl rfl ?_
  refine V_to (fun _ _ => rfl) ?_
  refine C_region ?_
  refine V_y (Y_move rfl) rfl rfl rfl ?_
  refine V_y (Y_nilCheck rfl) rfl rfl rfl ?_
  refine V_y (Y_fieldAddrC (off2 := 4) Try.underlying102 rfl Try.sizeOf100 (by decide) rfl rfl) rfl rfl rfl ?_
  refine V_y (Y_load (Hp.cell (j := 4) hH (i := 0) rfl rfl) Try.isAgg100 rfl) rfl rfl rfl ?_
  refine V_y (Y_move rfl) rfl rfl rfl ?_
  refine V_y (Y_move rfl) rfl rfl rfl ?_
  refine V_mapUpdateF (Dw := Dw) hH (i := 1) rfl Try.underlying100 Try.underlying3 hm hs rfl rfl rfl hB hA ?_
  intro w2 h2 t2
  replace hH : Hp B A w2 (obC b_k [.int .i64 k.zone.offset, u0, u1, u2, .map (some mb)] 102 :: obMF (portref2_ShiftsIn k) mb :: L) := h2
  replace hs := Sl.tr (Dw := Dw) hs t2
  replace hr := GoT.keep hr t2.ex
  replace hK := Tr.trans (Dw := Dw) hK t2
  refine V_to (fun _ _ => rfl) ?_
  have h4 : Hp B A w2 (ckL 102 portref2_ShiftsIn b_k k (mb, [.int .i64 k.zone.offset, u0, u1, u2]) ++ L) := hH.free (O' := obF (fun A w => GoT.rep A w [.int .i64 k.zone.offset, u0, u1, u2] k) (fun h he => GoT.keep h he)) ⟨rfl, hr⟩
  refine C_seq ?_
  refine C_region ?_
  refine V_y (Y_move rfl) rfl rfl rfl ?_
  refine V_y (Y_assign rfl) rfl rfl rfl ?_
  refine V_to (fun _ _ => rfl) ?_
  refine C_ret ?_
  try simp only [↓inBlock_ret, ↓then_ret]
  exact retQ rfl (Res.one Try.results78 rfl) ⟨_, A, rfl, hs, Hp.pack _ h4, hK⟩
set_option maxRecDepth 4000 in
set_option maxHeartbeats 4000000 in
theorem portref2_Clock_Open_c (w : World) {A : Nat → Prop} {B : Nat} (hB : B ≤ w.heap.size) (hA : ∀ b, w.heap.size ≤ b → A b) (k_ : cal_Calendar) (b_k_ : Nat) (m : Int) {L : List Ob} (hH : Hp B A w (obCk 102 portref2_ShiftsIn b_k_ k_ :: L)) {r : Bool} (hm : portref2_Clock_Open k_ m = some r) : Ret Try.prog 63 #[.pointer (some ⟨b_k_, 0, none⟩), .int .i64 m] w fun v w' => ∃ A1 : Nat → Prop, v = .bool r ∧ Hp B A1 w' (obCk 102 portref2_ShiftsIn b_k_ k_ :: L) ∧ Tr Dw B A w A1 w' := by
 unfold portref2_Clock_Open at hm
 refine enter Try.func63 rfl Try.ntmps63 rfl ?_
 have hK : Tr Dw B A w A w := Tr.refl (Dw := Dw) hA
 refine C_seq ?_
 refine C_region ?_
 refine V_y (Y_assign rfl) rfl rfl rfl ?_
 refine V_to (fun _ _ => rfl) ?_
 refine C_seq ?_
 refine C_region ?_
 refine V_y (Y_move rfl) rfl rfl rfl ?_
 refine V_y (Y_nilCheck rfl) rfl rfl rfl ?_
 have h1 := Hp.ck (tb := 102) (F := portref2_ShiftsIn) (b := b_k_) (c := k_) hH (i := 0) rfl
 refine V_y (Y_fieldAddrC (off2 := 0) Try.underlying102 rfl Try.sizeOf58 (by decide) rfl rfl) rfl rfl rfl ?_
 have h2 := El_cal_Calendar_0 h1
 refine V_y (Y_fieldAddr Try.underlying58 rfl Try.sizeOf54 (by decide) rfl) rfl rfl rfl ?_
 obtain ⟨v3, h5, h4⟩ := El_cal_Zone h2
 refine V_y (Y_loadA h5 Try.isAgg54 Try.sizeOf54 rfl) rfl rfl rfl ?_
 refine V_y (Y_move rfl) rfl rfl rfl ?_
 obtain ⟨x6, hx6, hm⟩ := Option.bind_eq_some_iff.1 hm
 refine V_call Try.call77 rfl rfl rfl rfl (portref2_LocalIn_c (Dw := Dw) w (A := fun _ => True) (fun _ _ => trivial) k_.zone v3 (Sl.any h4) m hx6) ?_
 rintro _ w7 ⟨rfl, hk8⟩
 have ht9 := Kp.tr (Dw := Dw) hk8 hA hB
 replace hH := Hp.kp (Dw := Dw) hH hk8
 replace hK := Tr.trans (Dw := Dw) hK ht9
 replace hB := Nat.le_trans hB ht9.ex.size
 replace hA := ht9.new
 refine V_y (Y_move rfl) rfl rfl rfl ?_
 refine V_y (Y_extract rfl rfl) rfl rfl rfl ?_
 refine V_y (Y_extract rfl rfl) rfl rfl rfl ?_
 refine V_y (Y_assign rfl) rfl rfl rfl ?_
 refine V_y (Y_assign rfl) rfl rfl rfl ?_
 refine V_to (fun _ _ => rfl) ?_
 refine C_seq ?_
 refine C_seq ?_
 refine C_region ?_
 refine V_y (Y_move rfl) rfl rfl rfl ?_
 refine V_y (Y_move rfl) rfl rfl rfl ?_
 obtain ⟨x10, hx10, hm⟩ := Option.bind_eq_some_iff.1 hm
 refine V_call Try.call78 rfl rfl rfl rfl (portref2_Clock_shifts_c (Dw := Dw) w7 hB hA k_ b_k_ x6.1 hH hx10) ?_
 rintro v11 w13 ⟨_, A14, rfl, h12, hH15, ht16⟩
 replace hK := Tr.trans (Dw := Dw) hK ht16
 replace hB := Nat.le_trans hB ht16.ex.size
 replace hA := ht16.new
 replace hH : Hp B A14 w13 (obCk 102 portref2_ShiftsIn b_k_ k_ :: L) := hH15
 refine V_y (Y_lenSl h12 rfl Try.underlying55 rfl) rfl rfl rfl ?_
 refine V_y (Y_move rfl) rfl rfl rfl ?_
 refine V_to (fun _ _ => rfl) ?_
 have hn37 := Sl.le h12
 obtain ⟨o17, ho17, hm⟩ := Option.bind_eq_some_iff.1 hm
 refine C_cutG (ι := (Unit × (Nat → Prop))) (fun ⟨s18, A24⟩ => [(0, .pointer (some ⟨b_k_, 0, none⟩)), (5, .int .i64 x6.1), (6, .int .i64 x6.2)]) (fun ⟨s18, A24⟩ => fun w' => o17 = .fin s18 ∧ Hp B A24 w' (obCk 102 portref2_ShiftsIn b_k_ k_ :: L) ∧ Tr Dw B A14 w13 A24 w') ?_ ?_
 ·refine C_block ?_
  refine C_range ho17 (fun k20 _ a w' => ∃ i : (Nat → Prop), Has ⟨62, [], none⟩ a ([(0, .pointer (some ⟨b_k_, 0, none⟩)), (5, .int .i64 x6.1), (6, .int .i64 x6.2), (23, v11), (24, .int .i64 (x10.length : Int)), (25, .int .i64 (k20 : Int))]) ∧ Hp B i w' (obCk 102 portref2_ShiftsIn b_k_ k_ :: L) ∧ Tr Dw B A14 w13 i w') (fun a ha => ⟨A14, ha.sub ⟨rfl, rfl, rfl, rfl, rfl, rfl, trivial⟩, ⟨hH, Tr.refl (Dw := Dw) hA⟩⟩) ?_
  rintro K k20 _ a w27 ⟨A28, ha59, hH29, hr19⟩ hle33 K36 h35
  refine C_of ?_ ha59
  replace h12 := Sl.tr (Dw := Dw) h12 hr19
  replace hK := Tr.trans (Dw := Dw) hK hr19
  replace hB := Nat.le_trans hB hr19.ex.size
  replace hA := hr19.new
  replace hH : Hp B A28 w27 (obCk 102 portref2_ShiftsIn b_k_ k_ :: L) := hH29
  refine C_seq (C_region (V_y (Y_lss rfl rfl) rfl rfl rfl (V_to (fun _ _ => rfl) ?_)))
  refine C_seq ?_
  refine C_cond rfl (fun hc38 => ?_) (fun hc38 => ?_)
  ·have hlt34 := lt_of_dec hc38
   obtain ⟨x30, h31, h32⟩ := K36 hlt34
   refine C_skip_to (fun _ _ => rfl) ?_
   refine C_seq ?_
   refine C_block ?_
   refine C_seq ?_
   refine C_region ?_
   obtain ⟨x39, hx39, h31⟩ := Option.bind_eq_some_iff.1 h31
   refine V_indexAddr h12 hx39 Try.underlying55 Try.sizeOf106 rfl rfl rfl ?_
   intro b40 o41 h42
   obtain ⟨h43, _⟩ := El_cal_Shift h42
   refine V_y (Y_loadA h43 Try.isAgg106 Try.sizeOf106 rfl) rfl rfl rfl ?_
   refine V_alloc Try.zeroValue106 rfl ?_
   intro b44 w45 h46
   refine V_storeNew h46 Try.sizeOf106 rfl rfl rfl rfl (by exact (List.forall_mem_cons.2 ⟨rfl, (List.forall_mem_cons.2 ⟨rfl, (List.forall_mem_cons.2 ⟨rfl, (fun _ h => nomatch h)⟩)⟩)⟩)) ?_
   intro w47 h48
   have hk50 := h48.kp (Dw := Dw)
   have h49 : El (α := cal_Shift) A28 w47 b44 0 x39 := h48.el hA ⟨[.int .i64 x39.day], _, rfl, rfl, ⟨[.int .i64 x39.from_], _, rfl, rfl, rfl⟩⟩
   have ht51 := Kp.tr (Dw := Dw) hk50 hA hB
   replace hH := Hp.kp (Dw := Dw) hH hk50
   replace hK := Tr.trans (Dw := Dw) hK ht51
   replace hr19 := Tr.trans (Dw := Dw) hr19 ht51
   refine V_to (fun _ _ => rfl) ?_
   refine C_seq ?_
   refine C_region ?_
   have h52 := El_cal_Shift_1 h49
   refine V_y (Y_fieldAddr Try.underlying106 rfl Try.sizeOf3 (by decide) rfl) rfl rfl rfl ?_
   refine V_y (Y_load (El.int h52) Try.isAgg3 rfl) rfl rfl rfl ?_
   refine V_y (Y_move rfl) rfl rfl rfl ?_
   refine V_y (Y_leq rfl rfl) rfl rfl rfl ?_
   refine V_y (Y_move rfl) rfl rfl rfl ?_
   refine V_cut 5 (fun _ : Unit => [(0, .pointer (some ⟨b_k_, 0, none⟩)), (5, .int .i64 x6.1), (6, .int .i64 x6.2), (23, v11), (24, .int .i64 (x10.length : Int)), (25, .int .i64 (k20 : Int)), (38, .bool ((decide (x39.from_ ≤ x6.2)) && (decide (x6.2 < x39.to_))))]) (fun _ w' => w47 = w') ?_ ?_
   ·simp only [List.take, List.drop]
    rcases Bool.eq_false_or_eq_true (decide (x39.from_ ≤ x6.2)) with hc53 | hc53
    ·refine V_ge rfl rfl rfl hc53 ?_
     refine V_y (Y_move rfl) rfl rfl rfl ?_
     refine V_ge rfl rfl rfl hc53 ?_
     have h55 := El_cal_Shift_2 h49
     refine V_y (Y_fieldAddr Try.underlying106 rfl Try.sizeOf3 (by decide) rfl) rfl rfl rfl ?_
     refine V_ge rfl rfl rfl hc53 ?_
     refine V_y (Y_load (El.int h55) Try.isAgg3 rfl) rfl rfl rfl ?_
     refine V_ge rfl rfl rfl hc53 ?_
     refine V_y (Y_lss rfl rfl) rfl rfl rfl ?_
     refine V_y (Y_pick_te rfl hc53 rfl) rfl rfl rfl ?_
     exact V_end fun a ha => ⟨(), ha.sub ⟨rfl, rfl, rfl, rfl, rfl, rfl, (by rw [hc53]; rfl), trivial⟩, rfl⟩
    ·refine V_gn rfl rfl rfl hc53 rfl rfl rfl ?_
     refine V_gn rfl rfl rfl hc53 rfl rfl rfl ?_
     refine V_gn rfl rfl rfl hc53 rfl rfl rfl ?_
     refine V_gn rfl rfl rfl hc53 rfl rfl rfl ?_
     refine V_y (Y_pick_fe rfl hc53 rfl) rfl rfl rfl ?_
     exact V_end fun a ha => ⟨(), ha.sub ⟨rfl, rfl, rfl, rfl, rfl, rfl, (by rw [hc53]; rfl), trivial⟩, rfl⟩
   simp only [List.take, List.drop]
   rintro _ _ rfl
   refine V_to (fun _ _ => rfl) ?_
   refine C_cond rfl (fun hc56 => ?_) (fun hc56 => ?_)
   ·rw [if_pos hc56] at h31
    refine C_seq ?_
    refine C_region ?_
    refine V_y (Y_assign rfl) rfl rfl rfl ?_
    refine V_to (fun _ _ => rfl) ?_
    obtain rfl := Option.some.inj h31
    obtain rfl := (h32 : Lp.rt _ = _)
    rw [Lp.andThen_rt] at hm
    obtain rfl := Option.some.inj hm
    refine C_ret ?_
    try simp only [↓inBlock_ret, ↓then_ret]
    exact retQ rfl (Res.one Try.results63 rfl) ⟨A28, rfl, hH, hK⟩
   ·rw [if_neg (nt hc56)] at h31
    refine C_skip_to (fun _ _ => rfl) ?_
    refine C_region ?_
    refine V_y (Y_addI rfl rfl) rfl rfl rfl ?_
    refine V_y (Y_move rfl) rfl rfl rfl ?_
    obtain rfl := Option.some.inj h31
    refine V_end (fun a ha57 => ?_)
    exact ⟨(), hlt34, h32, ⟨A28, ha57.sub ⟨rfl, rfl, rfl, rfl, rfl, (congrArg (fun z => some (Value.int .i64 z)) (w64_succ hlt34 hn37)), trivial⟩, ⟨hH, hr19⟩⟩⟩
  ·refine C_exit (fun a ha58 => ?_)
   exact ⟨((), A28), ha58.sub ⟨rfl, rfl, rfl, trivial⟩, ⟨(h35 (eq_of_dec hle33 hc38)).symm, hH, hr19⟩⟩
 rintro ⟨s18, A24⟩ w21 ⟨rfl, hH25, hk22⟩ a ha23
 rw [Lp.andThen_fin] at hm
 replace hK := Tr.trans (Dw := Dw) hK hk22
 replace hB := Nat.le_trans hB hk22.ex.size
 replace hA := hk22.new
 replace hH : Hp B A24 w21 (obCk 102 portref2_ShiftsIn b_k_ k_ :: L) := hH25
 refine C_at (n := ⟨62, [], none⟩) (fun _ _ => rfl) ?_ ha23
 refine C_seq ?_
 refine C_seq ?_
 refine C_region ?_
 refine V_y (Y_move rfl) rfl rfl rfl ?_
 refine V_y (Y_move rfl) rfl rfl rfl ?_
 refine V_y (Y_subI rfl rfl) rfl rfl rfl ?_
 obtain ⟨x60, hx60, hm⟩ := Option.bind_eq_some_iff.1 hm
 refine V_call Try.call78 rfl rfl rfl rfl (portref2_Clock_shifts_c (Dw := Dw) w21 hB hA k_ b_k_ (w64 (x6.1 - 1)) hH hx60) ?_
 rintro v61 w63 ⟨_, A64, rfl, h62, hH65, ht66⟩
 replace hK := Tr.trans (Dw := Dw) hK ht66
 replace hB := Nat.le_trans hB ht66.ex.size
 replace hA := ht66.new
 replace hH : Hp B A64 w63 (obCk 102 portref2_ShiftsIn b_k_ k_ :: L) := hH65
 refine V_y (Y_lenSl h62 rfl Try.underlying55 rfl) rfl rfl rfl ?_
 refine V_y (Y_move rfl) rfl rfl rfl ?_
 refine V_to (fun _ _ => rfl) ?_
 have hn87 := Sl.le h62
 obtain ⟨o67, ho67, hm⟩ := Option.bind_eq_some_iff.1 hm
 refine C_cutG (ι := (Unit × (Nat → Prop))) (fun ⟨s68, A74⟩ => []) (fun ⟨s68, A74⟩ => fun w' => o67 = .fin s68 ∧ Hp B A74 w' (obCk 102 portref2_ShiftsIn b_k_ k_ :: L) ∧ Tr Dw B A64 w63 A74 w') ?_ ?_
 ·refine C_block ?_
  refine C_range ho67 (fun k70 _ a w' => ∃ i : (Nat → Prop), Has ⟨62, [], none⟩ a ([(6, .int .i64 x6.2), (43, v61), (44, .int .i64 (x60.length : Int)), (45, .int .i64 (k70 : Int))]) ∧ Hp B i w' (obCk 102 portref2_ShiftsIn b_k_ k_ :: L) ∧ Tr Dw B A64 w63 i w') (fun a ha => ⟨A64, ha.sub ⟨rfl, rfl, rfl, rfl, trivial⟩, ⟨hH, Tr.refl (Dw := Dw) hA⟩⟩) ?_
  rintro K k70 _ a w77 ⟨A78, ha109, hH79, hr69⟩ hle83 K86 h85
  refine C_of ?_ ha109
  replace h62 := Sl.tr (Dw := Dw) h62 hr69
  replace hK := Tr.trans (Dw := Dw) hK hr69
  replace hB := Nat.le_trans hB hr69.ex.size
  replace hA := hr69.new
  replace hH : Hp B A78 w77 (obCk 102 portref2_ShiftsIn b_k_ k_ :: L) := hH79
  refine C_seq (C_region (V_y (Y_lss rfl rfl) rfl rfl rfl (V_to (fun _ _ => rfl) ?_)))
  refine C_seq ?_
  refine C_cond rfl (fun hc88 => ?_) (fun hc88 => ?_)
  ·have hlt84 := lt_of_dec hc88
   obtain ⟨x80, h81, h82⟩ := K86 hlt84
   refine C_skip_to (fun _ _ => rfl) ?_
   refine C_seq ?_
   refine C_block ?_
   refine C_seq ?_
   refine C_region ?_
   obtain ⟨x89, hx89, h81⟩ := Option.bind_eq_some_iff.1 h81
   refine V_indexAddr h62 hx89 Try.underlying55 Try.sizeOf106 rfl rfl rfl ?_
   intro b90 o91 h92
   obtain ⟨h93, _⟩ := El_cal_Shift h92
   refine V_y (Y_loadA h93 Try.isAgg106 Try.sizeOf106 rfl) rfl rfl rfl ?_
   refine V_alloc Try.zeroValue106 rfl ?_
   intro b94 w95 h96
   refine V_storeNew h96 Try.sizeOf106 rfl rfl rfl rfl (by exact (List.forall_mem_cons.2 ⟨rfl, (List.forall_mem_cons.2 ⟨rfl, (List.forall_mem_cons.2 ⟨rfl, (fun _ h => nomatch h)⟩)⟩)⟩)) ?_
   intro w97 h98
   have hk100 := h98.kp (Dw := Dw)
   have h99 : El (α := cal_Shift) A78 w97 b94 0 x89 := h98.el hA ⟨[.int .i64 x89.day], _, rfl, rfl, ⟨[.int .i64 x89.from_], _, rfl, rfl, rfl⟩⟩
   have ht101 := Kp.tr (Dw := Dw) hk100 hA hB
   replace hH := Hp.kp (Dw := Dw) hH hk100
   replace hK := Tr.trans (Dw := Dw) hK ht101
   replace hr69 := Tr.trans (Dw := Dw) hr69 ht101
   refine V_to (fun _ _ => rfl) ?_
   refine C_seq ?_
   refine C_region ?_
   have h102 := El_cal_Shift_1 h99
   refine V_y (Y_fieldAddr Try.underlying106 rfl Try.sizeOf3 (by decide) rfl) rfl rfl rfl ?_
   refine V_y (Y_load (El.int h102) Try.isAgg3 rfl) rfl rfl rfl ?_
   refine V_y (Y_move rfl) rfl rfl rfl ?_
   refine V_y (Y_addI rfl rfl) rfl rfl rfl ?_
   refine V_y (Y_leq rfl rfl) rfl rfl rfl ?_
   refine V_y (Y_move rfl) rfl rfl rfl ?_
   refine V_cut 6 (fun _ : Unit => [(6, .int .i64 x6.2), (43, v61), (44, .int .i64 (x60.length : Int)), (45, .int .i64 (k70 : Int)), (60, .bool ((decide (x89.from_ ≤ (w64 (x6.2 + 1440)))) && (decide ((w64 (x6.2 + 1440)) < x89.to_))))]) (fun _ w' => w97 = w') ?_ ?_
   ·simp only [List.take, List.drop]
    rcases Bool.eq_false_or_eq_true (decide (x89.from_ ≤ (w64 (x6.2 + 1440)))) with hc103 | hc103
    ·refine V_ge rfl rfl rfl hc103 ?_
     refine V_y (Y_move rfl) rfl rfl rfl ?_
     refine V_ge rfl rfl rfl hc103 ?_
     refine V_y (Y_addI rfl rfl) rfl rfl rfl ?_
     refine V_ge rfl rfl rfl hc103 ?_
     have h105 := El_cal_Shift_2 h99
     refine V_y (Y_fieldAddr Try.underlying106 rfl Try.sizeOf3 (by decide) rfl) rfl rfl rfl ?_
     refine V_ge rfl rfl rfl hc103 ?_
     refine V_y (Y_load (El.int h105) Try.isAgg3 rfl) rfl rfl rfl ?_
     refine V_ge rfl rfl rfl hc103 ?_
     refine V_y (Y_lss rfl rfl) rfl rfl rfl ?_
     refine V_y (Y_pick_te rfl hc103 rfl) rfl rfl rfl ?_
     exact V_end fun a ha => ⟨(), ha.sub ⟨rfl, rfl, rfl, rfl, (by rw [hc103]; rfl), trivial⟩, rfl⟩
    ·refine V_gn rfl rfl rfl hc103 rfl rfl rfl ?_
     refine V_gn rfl rfl rfl hc103 rfl rfl rfl ?_
     refine V_gn rfl rfl rfl hc103 rfl rfl rfl ?_
     refine V_gn rfl rfl rfl hc103 rfl rfl rfl ?_
     refine V_gn rfl rfl rfl hc103 rfl rfl rfl ?_
     refine V_y (Y_pick_fe rfl hc103 rfl) rfl rfl rfl ?_
     exact V_end fun a ha => ⟨(), ha.sub ⟨rfl, rfl, rfl, rfl, (by rw [hc103]; rfl), trivial⟩, rfl⟩
   simp only [List.take, List.drop]
   rintro _ _ rfl
   refine V_to (fun _ _ => rfl) ?_
   refine C_cond rfl (fun hc106 => ?_) (fun hc106 => ?_)
   ·rw [if_pos hc106] at h81
    refine C_seq ?_
    refine C_region ?_
    refine V_y (Y_assign rfl) rfl rfl rfl ?_
    refine V_to (fun _ _ => rfl) ?_
    obtain rfl := Option.some.inj h81
    obtain rfl := (h82 : Lp.rt _ = _)
    rw [Lp.andThen_rt] at hm
    obtain rfl := Option.some.inj hm
    refine C_ret ?_
    try simp only [↓inBlock_ret, ↓then_ret]
    exact retQ rfl (Res.one Try.results63 rfl) ⟨A78, rfl, hH, hK⟩
   ·rw [if_neg (nt hc106)] at h81
    refine C_skip_to (fun _ _ => rfl) ?_
    refine C_region ?_
    refine V_y (Y_addI rfl rfl) rfl rfl rfl ?_
    refine V_y (Y_move rfl) rfl rfl rfl ?_
    obtain rfl := Option.some.inj h81
    refine V_end (fun a ha107 => ?_)
    exact ⟨(), hlt84, h82, ⟨A78, ha107.sub ⟨rfl, rfl, rfl, (congrArg (fun z => some (Value.int .i64 z)) (w64_succ hlt84 hn87)), trivial⟩, ⟨hH, hr69⟩⟩⟩
  ·refine C_exit (fun a ha108 => ?_)
   exact ⟨((), A78), ha108.sub trivial, ⟨(h85 (eq_of_dec hle83 hc88)).symm, hH, hr69⟩⟩
 rintro ⟨s68, A74⟩ w71 ⟨rfl, hH75, hk72⟩ a ha73
 rw [Lp.andThen_fin] at hm
 replace hK := Tr.trans (Dw := Dw) hK hk72
 replace hA := hk72.new
 replace hH : Hp B A74 w71 (obCk 102 portref2_ShiftsIn b_k_ k_ :: L) := hH75
 refine C_at (n := ⟨62, [], none⟩) (fun _ _ => rfl) ?_ ha73
 refine C_seq ?_
 refine C_region ?_
 refine V_y (Y_assign rfl) rfl rfl rfl ?_
 refine V_to (fun _ _ => rfl) ?_
 obtain rfl := Option.some.inj hm
 refine C_ret ?_
 try simp only [↓inBlock_ret, ↓then_ret]
 exact retQ rfl (Res.one Try.results63 rfl) ⟨A74, rfl, hH, hK⟩
end Go.Proofs.Ytabkhhpkibbheaa.W
