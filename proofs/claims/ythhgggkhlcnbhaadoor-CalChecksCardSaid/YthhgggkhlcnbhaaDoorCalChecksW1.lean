/-
  Written by program (gen.py) from the IR of the dump: each function computes its model.
-/
import Derived.Test.YthhgggkhlcnbhaaDoorCalChecksW0
namespace Go.Proofs.YthhgggkhlcnbhaaDoor.W
open Go Go.RowKit Go.Pu Go.Gw Go.Proofs Go.Proofs.YthhgggkhlcnbhaaDoor.M
set_option linter.unusedVariables false
set_option linter.unusedSimpArgs false

set_option maxRecDepth 4000 in
set_option maxHeartbeats 4000000 in
theorem portref2_ZoneFault_c (w : World) {A : Nat → Prop} (hA : ∀ b, w.heap.size ≤ b → A b) (z : cal_Zone) (v_z : Value) (h_z : Sl A w v_z z.changes) {r : Int} (hm : portref2_ZoneFault z = some r) : Ret Tryd.prog 27 #[.agg #[.int .i64 z.offset, v_z]] w fun v w' => v = .int .i64 r ∧ Kp w w' := by
  unfold portref2_ZoneFault at hm
  refine enter Tryd.func27 rfl Tryd.ntmps27 rfl ?_
  have hA0 := hA
  have hB := Nat.le_refl w.heap.size
  have hK : Tr w.heap.size A w A w := Tr.refl hA
  have hH : Hp w.heap.size A w [] := Hp.nil
  refine C_seq ?_
  refine C_region ?_
  refine V_box rfl rfl ?_
  intro b3 w4 h5
  have hk7 := h5.kp
  have h6 : El (α := cal_Zone) A w4 b3 0 z := h5.el hA ⟨[.int .i64 z.offset], _, rfl, rfl, ⟨_, rfl, h_z⟩⟩
  have ht8 := Kp.tr hk7 hA hB
  replace hH := Hp.kp hH hk7
  replace h_z := Sl.tr h_z ht8
  replace hK := Tr.trans hK ht8
  replace hB := Nat.le_trans hB ht8.ex.size
  replace hA := ht8.new
  refine V_y (Y_assign rfl) rfl rfl rfl ?_
  refine V_to (fun _ _ => rfl) ?_
  refine C_seq ?_
  refine C_region ?_
  refine V_y (Y_assign rfl) rfl rfl rfl ?_
  refine V_to (fun _ _ => rfl) ?_
  refine C_seq ?_
  refine C_seq ?_
  refine C_region ?_
  refine V_y (Y_move rfl) rfl rfl rfl ?_
  have h9 := El_cal_Zone_0 h6
  refine V_y (Y_fieldAddr Tryd.underlying24 rfl Tryd.sizeOf3 (by decide) rfl) rfl rfl rfl ?_
  refine V_y (Y_load (El.int h9) Tryd.isAgg3 rfl) rfl rfl rfl ?_
  refine V_call Tryd.call40 rfl rfl rfl rfl (portref2_ZoneFault_1_c w4 z.offset) ?_
  rintro _ _ ⟨rfl, rfl⟩
  refine V_to (fun _ _ => rfl) ?_
  refine C_cond rfl (fun hc10 => ?_) (fun hc10 => ?_)
  · rw [if_pos hc10] at hm
    refine C_seq ?_
    refine C_region ?_
    refine V_y (Y_assign rfl) rfl rfl rfl ?_
    refine V_to (fun _ _ => rfl) ?_
    obtain rfl := Option.some.inj hm
    refine C_ret ?_
    try simp only [↓inBlock_ret, ↓then_ret]
    exact retQ rfl (Res.one Tryd.results27 rfl) ⟨rfl, hK.kp⟩
  · rw [if_neg (nt hc10)] at hm
    refine C_skip_to (fun _ _ => rfl) ?_
    refine C_seq ?_
    refine C_seq ?_
    refine C_region ?_
    have h11 := El_cal_Zone_1 h6
    refine V_y (Y_fieldAddr Tryd.underlying24 rfl Tryd.sizeOf22 (by decide) rfl) rfl rfl rfl ?_
    obtain ⟨v12, h13, h14⟩ := El.list h11
    refine V_y (Y_load h13 Tryd.isAgg22 rfl) rfl rfl rfl ?_
    refine V_y (Y_lenSl h14 rfl Tryd.underlying22 rfl) rfl rfl rfl ?_
    refine V_y (Y_gtr rfl rfl) rfl rfl rfl ?_
    refine V_to (fun _ _ => rfl) ?_
    refine C_cond rfl (fun hc15 => ?_) (fun hc15 => ?_)
    · rw [if_pos hc15] at hm
      refine C_seq ?_
      refine C_region ?_
      refine V_y (Y_assign rfl) rfl rfl rfl ?_
      refine V_to (fun _ _ => rfl) ?_
      obtain rfl := Option.some.inj hm
      refine C_ret ?_
      try simp only [↓inBlock_ret, ↓then_ret]
      exact retQ rfl (Res.one Tryd.results27 rfl) ⟨rfl, hK.kp⟩
    · rw [if_neg (nt hc15)] at hm
      refine C_skip_to (fun _ _ => rfl) ?_
      refine C_seq ?_
      refine C_region ?_
      have h16 := El_cal_Zone_0 h6
      refine V_y (Y_fieldAddr Tryd.underlying24 rfl Tryd.sizeOf3 (by decide) rfl) rfl rfl rfl ?_
      refine V_y (Y_load (El.int h16) Tryd.isAgg3 rfl) rfl rfl rfl ?_
      refine V_y (Y_assign rfl) rfl rfl rfl ?_
      refine V_to (fun _ _ => rfl) ?_
      refine C_seq ?_
      refine C_seq ?_
      refine C_region ?_
      have h17 := El_cal_Zone_1 h6
      refine V_y (Y_fieldAddr Tryd.underlying24 rfl Tryd.sizeOf22 (by decide) rfl) rfl rfl rfl ?_
      obtain ⟨v18, h19, h20⟩ := El.list h17
      refine V_y (Y_load h19 Tryd.isAgg22 rfl) rfl rfl rfl ?_
      refine V_y (Y_lenSl h20 rfl Tryd.underlying22 rfl) rfl rfl rfl ?_
      refine V_y (Y_move rfl) rfl rfl rfl ?_
      refine V_to (fun _ _ => rfl) ?_
      have hn41 := Sl.le h20
      obtain ⟨o21, ho21, hm⟩ := Option.bind_eq_some_iff.1 hm
      refine C_cutG (ι := (Int × (Nat → Prop))) (fun ⟨s22, A28⟩ => []) (fun ⟨s22, A28⟩ => fun w' => o21 = .fin s22 ∧ Hp w.heap.size A28 w' ([]) ∧ Tr w.heap.size A w4 A28 w') ?_ ?_
      · refine C_block ?_
        refine C_range ho21 (fun k24 s30 a w' => ∃ i : (Nat → Prop), Has ⟨63, [], none⟩ a ([(1, .pointer (some ⟨b3, 0, none⟩)), (3, .func (.func 40) #[] #[]), (4, .int .i64 s30), (18, v18), (19, .int .i64 (z.changes.length : Int)), (20, .int .i64 (k24 : Int))]) ∧ Hp w.heap.size i w' ([]) ∧ Tr w.heap.size A w4 i w') (fun a ha => ⟨A, ha.sub ⟨rfl, rfl, rfl, rfl, rfl, rfl, trivial⟩, ⟨hH, Tr.refl hA⟩⟩) ?_
        rintro K k24 s30 a w31 ⟨A32, ha97, hH33, hr23⟩ hle37 K40 h39
        refine C_of ?_ ha97
        replace h6 := El.tr h6 hr23
        replace h20 := Sl.tr h20 hr23
        replace hK := Tr.trans hK hr23
        replace hB := Nat.le_trans hB hr23.ex.size
        replace hA := hr23.new
        replace hH : Hp w.heap.size A32 w31 ([]) := hH33
        refine C_seq (C_region (V_y (Y_lss rfl rfl) rfl rfl rfl (V_to (fun _ _ => rfl) ?_)))
        refine C_seq ?_
        refine C_cond rfl (fun hc42 => ?_) (fun hc42 => ?_)
        · have hlt38 := lt_of_dec hc42
          obtain ⟨x34, h35, h36⟩ := K40 hlt38
          refine C_skip_to (fun _ _ => rfl) ?_
          refine C_seq ?_
          refine C_block ?_
          refine C_seq ?_
          refine C_region ?_
          refine V_y (Y_move rfl) rfl rfl rfl ?_
          obtain ⟨x43, hx43, h35⟩ := Option.bind_eq_some_iff.1 h35
          refine V_indexAddr h20 hx43 Tryd.underlying22 Tryd.sizeOf55 rfl rfl rfl ?_
          intro b44 o45 h46
          obtain ⟨h47, _⟩ := El_cal_Change h46
          refine V_y (Y_loadA h47 Tryd.isAgg55 Tryd.sizeOf55 rfl) rfl rfl rfl ?_
          refine V_alloc Tryd.zeroValue55 rfl ?_
          intro b48 w49 h50
          refine V_y (Y_assign rfl) rfl rfl rfl ?_
          refine V_storeNew h50 Tryd.sizeOf55 rfl rfl rfl rfl (by exact (List.forall_mem_cons.2 ⟨rfl, (List.forall_mem_cons.2 ⟨rfl, (fun _ h => nomatch h)⟩)⟩)) ?_
          intro w51 h52
          have hk54 := h52.kp
          have h53 : El (α := cal_Change) A32 w51 b48 0 x43 := h52.el hA ⟨[.int .i64 x43.at_], _, rfl, rfl, rfl⟩
          have ht55 := Kp.tr hk54 hA hB
          replace hH := Hp.kp hH hk54
          replace h6 := El.tr h6 ht55
          replace h20 := Sl.tr h20 ht55
          replace h46 := El.tr h46 ht55
          replace hK := Tr.trans hK ht55
          replace hr23 := Tr.trans hr23 ht55
          replace hB := Nat.le_trans hB ht55.ex.size
          replace hA := ht55.new
          refine V_to (fun _ _ => rfl) ?_
          refine C_seq ?_
          refine C_block ?_
          refine C_seq ?_
          obtain ⟨s57, ho56, h35⟩ := Option.bind_eq_some_iff.1 h35
          refine C_cutG (ι := (Nat → Prop)) (fun (A62 : (Nat → Prop)) => [(1, .pointer (some ⟨b3, 0, none⟩)), (3, .func (.func 40) #[] #[]), (4, .int .i64 s30), (5, .int .i64 (k24 : Int)), (6, .pointer (some ⟨b48, 0, none⟩)), (18, v18), (19, .int .i64 (z.changes.length : Int)), (20, .int .i64 (k24 : Int)), (25, .bool s57)]) (fun (A62 : (Nat → Prop)) => fun w' => Hp w.heap.size A62 w' ([]) ∧ Tr w.heap.size A32 w51 A62 w') ?_ ?_
          · have hr58 : Tr w.heap.size A32 w51 A32 w51 := Tr.refl hA
            refine C_region ?_
            have h64 := El_cal_Change_0 h53
            refine V_y (Y_fieldAddr Tryd.underlying55 rfl Tryd.sizeOf3 (by decide) rfl) rfl rfl rfl ?_
            refine V_y (Y_load (El.int h64) Tryd.isAgg3 rfl) rfl rfl rfl ?_
            refine V_y (Y_lss rfl rfl) rfl rfl rfl ?_
            refine V_y (Y_move rfl) rfl rfl rfl ?_
            rcases Bool.eq_false_or_eq_true (decide (x43.at_ < 1)) with hc65 | hc65
            · rw [if_pos hc65] at ho56
              refine V_gn rfl rfl rfl hc65 rfl rfl rfl ?_
              refine V_gn rfl rfl rfl hc65 rfl rfl rfl ?_
              refine V_gn rfl rfl rfl hc65 rfl rfl rfl ?_
              refine V_y (Y_pick_te rfl hc65 rfl) rfl rfl rfl ?_
              refine V_y (Y_move rfl) rfl rfl rfl ?_
              rcases Bool.eq_false_or_eq_true (true) with hc66 | hc66
              · rw [if_pos hc66] at ho56
                refine V_gn rfl rfl rfl hc66 rfl rfl rfl ?_
                refine V_gn rfl rfl rfl hc66 rfl rfl rfl ?_
                refine V_gn rfl rfl rfl hc66 rfl rfl rfl ?_
                refine V_gn rfl rfl rfl hc66 rfl rfl rfl ?_
                refine V_y (Y_pick_te rfl hc66 rfl) rfl rfl rfl ?_
                refine V_y (Y_assign rfl) rfl rfl rfl ?_
                obtain rfl := Option.some.inj ho56
                refine V_end (fun a ha67 => ?_)
                exact ⟨A32, ha67.sub ⟨rfl, rfl, rfl, rfl, rfl, rfl, rfl, rfl, rfl, trivial⟩, ⟨hH, hr58⟩⟩
              · rw [if_neg (nt hc66)] at ho56
                refine V_ge rfl rfl rfl hc66 ?_
                refine V_y (Y_move rfl) rfl rfl rfl ?_
                refine V_ge rfl rfl rfl hc66 ?_
                have h68 := El_cal_Change_1 h53
                refine V_y (Y_fieldAddr Tryd.underlying55 rfl Tryd.sizeOf3 (by decide) rfl) rfl rfl rfl ?_
                refine V_ge rfl rfl rfl hc66 ?_
                refine V_y (Y_load (El.int h68) Tryd.isAgg3 rfl) rfl rfl rfl ?_
                refine V_ge rfl rfl rfl hc66 ?_
                refine V_call Tryd.call40 rfl rfl rfl rfl (portref2_ZoneFault_1_c w51 x43.offset) ?_
                rintro _ _ ⟨rfl, rfl⟩
                refine V_y (Y_pick_fe rfl hc66 rfl) rfl rfl rfl ?_
                refine V_y (Y_assign rfl) rfl rfl rfl ?_
                obtain rfl := Option.some.inj ho56
                refine V_end (fun a ha69 => ?_)
                exact ⟨A32, ha69.sub ⟨rfl, rfl, rfl, rfl, rfl, rfl, rfl, rfl, rfl, trivial⟩, ⟨hH, hr58⟩⟩
            · rw [if_neg (nt hc65)] at ho56
              refine V_ge rfl rfl rfl hc65 ?_
              have h70 := El_cal_Change_0 h53
              refine V_y (Y_fieldAddr Tryd.underlying55 rfl Tryd.sizeOf3 (by decide) rfl) rfl rfl rfl ?_
              refine V_ge rfl rfl rfl hc65 ?_
              refine V_y (Y_load (El.int h70) Tryd.isAgg3 rfl) rfl rfl rfl ?_
              refine V_ge rfl rfl rfl hc65 ?_
              refine V_y (Y_gtr rfl rfl) rfl rfl rfl ?_
              refine V_y (Y_pick_fe rfl hc65 rfl) rfl rfl rfl ?_
              refine V_y (Y_move rfl) rfl rfl rfl ?_
              rcases Bool.eq_false_or_eq_true (decide ((3000000 : Int) < x43.at_)) with hc71 | hc71
              · rw [if_pos hc71] at ho56
                refine V_gn rfl rfl rfl hc71 rfl rfl rfl ?_
                refine V_gn rfl rfl rfl hc71 rfl rfl rfl ?_
                refine V_gn rfl rfl rfl hc71 rfl rfl rfl ?_
                refine V_gn rfl rfl rfl hc71 rfl rfl rfl ?_
                refine V_y (Y_pick_te rfl hc71 rfl) rfl rfl rfl ?_
                refine V_y (Y_assign rfl) rfl rfl rfl ?_
                obtain rfl := Option.some.inj ho56
                refine V_end (fun a ha72 => ?_)
                exact ⟨A32, ha72.sub ⟨rfl, rfl, rfl, rfl, rfl, rfl, rfl, rfl, rfl, trivial⟩, ⟨hH, hr58⟩⟩
              · rw [if_neg (nt hc71)] at ho56
                refine V_ge rfl rfl rfl hc71 ?_
                refine V_y (Y_move rfl) rfl rfl rfl ?_
                refine V_ge rfl rfl rfl hc71 ?_
                have h73 := El_cal_Change_1 h53
                refine V_y (Y_fieldAddr Tryd.underlying55 rfl Tryd.sizeOf3 (by decide) rfl) rfl rfl rfl ?_
                refine V_ge rfl rfl rfl hc71 ?_
                refine V_y (Y_load (El.int h73) Tryd.isAgg3 rfl) rfl rfl rfl ?_
                refine V_ge rfl rfl rfl hc71 ?_
                refine V_call Tryd.call40 rfl rfl rfl rfl (portref2_ZoneFault_1_c w51 x43.offset) ?_
                rintro _ _ ⟨rfl, rfl⟩
                refine V_y (Y_pick_fe rfl hc71 rfl) rfl rfl rfl ?_
                refine V_y (Y_assign rfl) rfl rfl rfl ?_
                obtain rfl := Option.some.inj ho56
                refine V_end (fun a ha74 => ?_)
                exact ⟨A32, ha74.sub ⟨rfl, rfl, rfl, rfl, rfl, rfl, rfl, rfl, rfl, trivial⟩, ⟨hH, hr58⟩⟩
          rintro A62 w59 ⟨hH63, hk60⟩ a ha61
          replace h6 := El.tr h6 hk60
          replace h20 := Sl.tr h20 hk60
          replace h53 := El.tr h53 hk60
          replace hK := Tr.trans hK hk60
          replace hr23 := Tr.trans hr23 hk60
          replace hB := Nat.le_trans hB hk60.ex.size
          replace hA := hk60.new
          replace hH : Hp w.heap.size A62 w59 ([]) := hH63
          refine C_at (n := ⟨63, [], none⟩) (fun _ _ => rfl) ?_ ha61
          refine C_cond rfl (fun hc75 => ?_) (fun hc75 => ?_)
          · rw [if_pos hc75] at h35
            refine C_seq ?_
            refine C_region ?_
            refine V_y (Y_assign rfl) rfl rfl rfl ?_
            refine V_to (fun _ _ => rfl) ?_
            obtain rfl := Option.some.inj h35
            obtain rfl := (h36 : Lp.rt _ = _)
            rw [Lp.andThen_rt] at hm
            obtain rfl := Option.some.inj hm
            refine C_ret ?_
            try simp only [↓inBlock_ret, ↓then_ret]
            exact retQ rfl (Res.one Tryd.results27 rfl) ⟨rfl, hK.kp⟩
          · rw [if_neg (nt hc75)] at h35
            refine C_seq ?_
            refine C_region_q Tryd_mixed (by kernel_rfl) ?_
            refine VQ_y (fun w' hw' => Y_move rfl) rfl rfl rfl ?_
            refine VQ_y (fun w' hw' => Y_gtr rfl rfl) rfl rfl rfl ?_
            refine VQ_y (fun w' hw' => Y_move rfl) rfl rfl rfl ?_
            obtain ⟨s77, hs77, h35⟩ := Option.bind_eq_some_iff.1 h35
            refine VQ_cut 11 (fun _ : Unit => [(1, .pointer (some ⟨b3, 0, none⟩)), (3, .func (.func 40) #[] #[]), (4, .int .i64 s30), (6, .pointer (some ⟨b48, 0, none⟩)), (18, v18), (19, .int .i64 (z.changes.length : Int)), (20, .int .i64 (k24 : Int)), (54, .bool s77)]) (fun _ => True) ?_ ?_
            · simp only [List.take, List.drop]
              rcases Bool.eq_false_or_eq_true (decide ((0 : Int) < (k24 : Int))) with hc76 | hc76
              · rw [if_pos hc76] at hs77
                refine VQ_ge rfl rfl rfl hc76 ?_
                have h78 := El_cal_Change_0 h53
                refine VQ_y (fun w' hw' => Y_fieldAddr Tryd.underlying55 rfl Tryd.sizeOf3 (by decide) rfl) rfl rfl rfl ?_
                refine VQ_ge rfl rfl rfl hc76 ?_
                refine VQ_y (fun w' hw' => Y_load (El.int (El.kp h78 hw')) Tryd.isAgg3 rfl) rfl rfl rfl ?_
                refine VQ_ge rfl rfl rfl hc76 ?_
                have h79 := El_cal_Zone_1 h6
                refine VQ_y (fun w' hw' => Y_fieldAddr Tryd.underlying24 rfl Tryd.sizeOf22 (by decide) rfl) rfl rfl rfl ?_
                refine VQ_ge rfl rfl rfl hc76 ?_
                obtain ⟨v80, h81, h82⟩ := El.list h79
                refine VQ_y (fun w' hw' => Y_load ((World.cell?_of_block (hw'.block _ (World.block_lt_of_cell? _ _ h81))).trans h81) Tryd.isAgg22 rfl) rfl rfl rfl ?_
                refine VQ_ge rfl rfl rfl hc76 ?_
                refine VQ_y (fun w' hw' => Y_move rfl) rfl rfl rfl ?_
                refine VQ_ge rfl rfl rfl hc76 ?_
                refine VQ_y (fun w' hw' => Y_subI rfl rfl) rfl rfl rfl ?_
                refine VQ_ge rfl rfl rfl hc76 ?_
                obtain ⟨x83, hx83, hs77⟩ := Option.bind_eq_some_iff.1 hs77
                refine VQ_indexAddr h82 hx83 Tryd.underlying22 Tryd.sizeOf55 rfl rfl rfl ?_
                intro b84 o85 h86
                refine VQ_ge rfl rfl rfl hc76 ?_
                have h87 := El_cal_Change_0 h86
                refine VQ_y (fun w' hw' => Y_fieldAddr Tryd.underlying55 rfl Tryd.sizeOf3 (by decide) rfl) rfl rfl rfl ?_
                refine VQ_ge rfl rfl rfl hc76 ?_
                refine VQ_y (fun w' hw' => Y_load (El.int (El.kp h87 hw')) Tryd.isAgg3 rfl) rfl rfl rfl ?_
                refine VQ_ge rfl rfl rfl hc76 ?_
                refine VQ_y (fun w' hw' => Y_leq rfl rfl) rfl rfl rfl ?_
                refine VQ_y (fun _ _ => Y_pick_te rfl hc76 rfl) rfl rfl rfl ?_
                obtain rfl := Option.some.inj hs77
                exact VQ_end fun a ha => ⟨(), ha.sub ⟨rfl, rfl, rfl, rfl, rfl, rfl, rfl, rfl, trivial⟩, trivial⟩
              · rw [if_neg (nt hc76)] at hs77
                refine VQ_gn rfl rfl rfl hc76 rfl rfl rfl ?_
                refine VQ_gn rfl rfl rfl hc76 rfl rfl rfl ?_
                refine VQ_gn rfl rfl rfl hc76 rfl rfl rfl ?_
                refine VQ_gn rfl rfl rfl hc76 rfl rfl rfl ?_
                refine VQ_gn rfl rfl rfl hc76 rfl rfl rfl ?_
                refine VQ_gn rfl rfl rfl hc76 rfl rfl rfl ?_
                refine VQ_gn rfl rfl rfl hc76 rfl rfl rfl ?_
                refine VQ_gn rfl rfl rfl hc76 rfl rfl rfl ?_
                refine VQ_gn rfl rfl rfl hc76 rfl rfl rfl ?_
                refine VQ_gn rfl rfl rfl hc76 rfl rfl rfl ?_
                refine VQ_y (fun _ _ => Y_pick_fe rfl hc76 rfl) rfl rfl rfl ?_
                obtain rfl := Option.some.inj hs77
                exact VQ_end fun a ha => ⟨(), ha.sub ⟨rfl, rfl, rfl, rfl, rfl, rfl, rfl, rfl, trivial⟩, trivial⟩
            simp only [List.take, List.drop]
            rintro _ _
            refine VQ_y (fun w' hw' => Y_assign rfl) rfl rfl rfl ?_
            refine VQ_to (fun _ _ => rfl) (fun w88 hk89 => ?_)
            have ht90 := Kp.tr hk89 hA hB
            replace hH := Hp.kp hH hk89
            replace h6 := El.tr h6 ht90
            replace h20 := Sl.tr h20 ht90
            replace h53 := El.tr h53 ht90
            replace hK := Tr.trans hK ht90
            replace hr23 := Tr.trans hr23 ht90
            replace hB := Nat.le_trans hB ht90.ex.size
            replace hA := ht90.new
            refine C_cond rfl (fun hc91 => ?_) (fun hc91 => ?_)
            · rw [if_pos hc91] at h35
              refine C_seq ?_
              refine C_region ?_
              refine V_y (Y_assign rfl) rfl rfl rfl ?_
              refine V_to (fun _ _ => rfl) ?_
              obtain rfl := Option.some.inj h35
              obtain rfl := (h36 : Lp.rt _ = _)
              rw [Lp.andThen_rt] at hm
              obtain rfl := Option.some.inj hm
              refine C_ret ?_
              try simp only [↓inBlock_ret, ↓then_ret]
              exact retQ rfl (Res.one Tryd.results27 rfl) ⟨rfl, hK.kp⟩
            · rw [if_neg (nt hc91)] at h35
              refine C_seq ?_
              refine C_region ?_
              have h92 := El_cal_Change_1 h53
              refine V_y (Y_fieldAddr Tryd.underlying55 rfl Tryd.sizeOf3 (by decide) rfl) rfl rfl rfl ?_
              refine V_y (Y_load (El.int h92) Tryd.isAgg3 rfl) rfl rfl rfl ?_
              refine V_y (Y_move rfl) rfl rfl rfl ?_
              refine V_y (Y_eql rfl rfl) rfl rfl rfl ?_
              refine V_y (Y_assign rfl) rfl rfl rfl ?_
              refine V_to (fun _ _ => rfl) ?_
              refine C_cond rfl (fun hc93 => ?_) (fun hc93 => ?_)
              · rw [if_pos hc93] at h35
                refine C_seq ?_
                refine C_region ?_
                refine V_y (Y_assign rfl) rfl rfl rfl ?_
                refine V_to (fun _ _ => rfl) ?_
                obtain rfl := Option.some.inj h35
                obtain rfl := (h36 : Lp.rt _ = _)
                rw [Lp.andThen_rt] at hm
                obtain rfl := Option.some.inj hm
                refine C_ret ?_
                try simp only [↓inBlock_ret, ↓then_ret]
                exact retQ rfl (Res.one Tryd.results27 rfl) ⟨rfl, hK.kp⟩
              · rw [if_neg (nt hc93)] at h35
                refine C_skip_to (fun _ _ => rfl) ?_
                refine C_region ?_
                have h94 := El_cal_Change_1 h53
                refine V_y (Y_fieldAddr Tryd.underlying55 rfl Tryd.sizeOf3 (by decide) rfl) rfl rfl rfl ?_
                refine V_y (Y_load (El.int h94) Tryd.isAgg3 rfl) rfl rfl rfl ?_
                refine V_y (Y_assign rfl) rfl rfl rfl ?_
                refine V_to (fun _ _ => rfl) ?_
                refine C_region ?_
                refine V_y (Y_addI rfl rfl) rfl rfl rfl ?_
                refine V_y (Y_move rfl) rfl rfl rfl ?_
                obtain rfl := Option.some.inj h35
                refine V_end (fun a ha95 => ?_)
                exact ⟨x43.offset, hlt38, h36, ⟨A62, ha95.sub ⟨rfl, rfl, rfl, rfl, rfl, (congrArg (fun z => some (Value.int .i64 z)) (w64_succ hlt38 hn41)), trivial⟩, ⟨hH, hr23⟩⟩⟩
        · refine C_exit (fun a ha96 => ?_)
          exact ⟨(s30, A32), ha96.sub trivial, ⟨(h39 (eq_of_dec hle37 hc42)).symm, hH, hr23⟩⟩
      rintro ⟨s22, A28⟩ w25 ⟨rfl, hH29, hk26⟩ a ha27
      rw [Lp.andThen_fin] at hm
      replace hK := Tr.trans hK hk26
      replace hB := Nat.le_trans hB hk26.ex.size
      replace hA := hk26.new
      replace hH : Hp w.heap.size A28 w25 ([]) := hH29
      refine C_at (n := ⟨63, [], none⟩) (fun _ _ => rfl) ?_ ha27
      refine C_seq ?_
      refine C_region ?_
      refine V_y (Y_assign rfl) rfl rfl rfl ?_
      refine V_to (fun _ _ => rfl) ?_
      obtain rfl := Option.some.inj hm
      refine C_ret ?_
      try simp only [↓inBlock_ret, ↓then_ret]
      exact retQ rfl (Res.one Tryd.results27 rfl) ⟨rfl, hK.kp⟩

set_option maxRecDepth 4000 in
set_option maxHeartbeats 4000000 in
theorem portref2_shiftFault_c (w : World) {A : Nat → Prop} (hA : ∀ b, w.heap.size ≤ b → A b) (l : (List cal_Shift)) (v_l : Value) (h_l : Sl A w v_l l) (week : Bool) {r : Int} (hm : portref2_shiftFault l week = some r) : Ret Tryd.prog 28 #[v_l, .bool week] w fun v w' => v = .int .i64 r ∧ Kp w w' := by
  unfold portref2_shiftFault at hm
  refine enter Tryd.func28 rfl Tryd.ntmps28 rfl ?_
  have hA0 := hA
  have hB := Nat.le_refl w.heap.size
  have hK : Tr w.heap.size A w A w := Tr.refl hA
  have hH : Hp w.heap.size A w [] := Hp.nil
  refine C_seq ?_
  refine C_region ?_
  refine V_y (Y_assign rfl) rfl rfl rfl ?_
  refine V_to (fun _ _ => rfl) ?_
  refine C_seq ?_
  refine C_seq ?_
  refine C_region ?_
  refine V_y (Y_move rfl) rfl rfl rfl ?_
  refine V_y (Y_lenSl h_l rfl Tryd.underlying25 rfl) rfl rfl rfl ?_
  refine V_y (Y_move rfl) rfl rfl rfl ?_
  refine V_to (fun _ _ => rfl) ?_
  have hn23 := Sl.le h_l
  obtain ⟨o3, ho3, hm⟩ := Option.bind_eq_some_iff.1 hm
  refine C_cutG (ι := (Unit × (Nat → Prop))) (fun ⟨s4, A10⟩ => []) (fun ⟨s4, A10⟩ => fun w' => o3 = .fin s4 ∧ Hp w.heap.size A10 w' ([]) ∧ Tr w.heap.size A w A10 w') ?_ ?_
  · refine C_block ?_
    refine C_range ho3 (fun k6 _ a w' => ∃ i : (Nat → Prop), Has ⟨81, [], none⟩ a ([(0, v_l), (1, .bool week), (8, v_l), (9, .int .i64 (l.length : Int)), (10, .int .i64 (k6 : Int))]) ∧ Hp w.heap.size i w' ([]) ∧ Tr w.heap.size A w i w') (fun a ha => ⟨A, ha.sub ⟨rfl, rfl, rfl, rfl, rfl, trivial⟩, ⟨hH, Tr.refl hA⟩⟩) ?_
    rintro K k6 _ a w13 ⟨A14, ha112, hH15, hr5⟩ hle19 K22 h21
    refine C_of ?_ ha112
    replace h_l := Sl.tr h_l hr5
    replace hK := Tr.trans hK hr5
    replace hB := Nat.le_trans hB hr5.ex.size
    replace hA := hr5.new
    replace hH : Hp w.heap.size A14 w13 ([]) := hH15
    refine C_seq (C_region (V_y (Y_lss rfl rfl) rfl rfl rfl (V_to (fun _ _ => rfl) ?_)))
    refine C_seq ?_
    refine C_cond rfl (fun hc24 => ?_) (fun hc24 => ?_)
    · have hlt20 := lt_of_dec hc24
      obtain ⟨x16, h17, h18⟩ := K22 hlt20
      refine C_skip_to (fun _ _ => rfl) ?_
      refine C_seq ?_
      obtain ⟨o25, ho25, h17⟩ := Option.bind_eq_some_iff.1 h17
      refine C_cutG (ι := (Unit × (Nat → Prop))) (fun ⟨s26, A31⟩ => [(0, v_l), (1, .bool week), (8, v_l), (9, .int .i64 (l.length : Int)), (10, .int .i64 (k6 : Int))]) (fun ⟨s26, A31⟩ => fun w' => o25 = .fin s26 ∧ Hp w.heap.size A31 w' ([]) ∧ Tr w.heap.size A14 w13 A31 w') ?_ ?_
      · have hr27 : Tr w.heap.size A14 w13 A14 w13 := Tr.refl hA
        refine C_block ?_
        refine C_seq ?_
        refine C_region ?_
        refine V_y (Y_move rfl) rfl rfl rfl ?_
        obtain ⟨x33, hx33, ho25⟩ := Option.bind_eq_some_iff.1 ho25
        refine V_indexAddr h_l hx33 Tryd.underlying25 Tryd.sizeOf57 rfl rfl rfl ?_
        intro b34 o35 h36
        obtain ⟨h37, _⟩ := El_cal_Shift h36
        refine V_y (Y_loadA h37 Tryd.isAgg57 Tryd.sizeOf57 rfl) rfl rfl rfl ?_
        refine V_alloc Tryd.zeroValue57 rfl ?_
        intro b38 w39 h40
        refine V_y (Y_assign rfl) rfl rfl rfl ?_
        refine V_storeNew h40 Tryd.sizeOf57 rfl rfl rfl rfl (by exact (List.forall_mem_cons.2 ⟨rfl, (List.forall_mem_cons.2 ⟨rfl, (List.forall_mem_cons.2 ⟨rfl, (fun _ h => nomatch h)⟩)⟩)⟩)) ?_
        intro w41 h42
        have hk44 := h42.kp
        have h43 : El (α := cal_Shift) A14 w41 b38 0 x33 := h42.el hA ⟨[.int .i64 x33.day], _, rfl, rfl, ⟨[.int .i64 x33.from_], _, rfl, rfl, rfl⟩⟩
        have ht45 := Kp.tr hk44 hA hB
        replace hH := Hp.kp hH hk44
        replace h_l := Sl.tr h_l ht45
        replace h36 := El.tr h36 ht45
        replace hK := Tr.trans hK ht45
        replace hr5 := Tr.trans hr5 ht45
        replace hr27 := Tr.trans hr27 ht45
        replace hB := Nat.le_trans hB ht45.ex.size
        replace hA := ht45.new
        refine V_to (fun _ _ => rfl) ?_
        refine C_seq ?_
        refine C_seq ?_
        refine C_region ?_
        refine V_y (Y_move rfl) rfl rfl rfl ?_
        refine V_y (Y_not rfl) rfl rfl rfl ?_
        refine V_y (Y_move rfl) rfl rfl rfl ?_
        refine V_cut 4 (fun _ : Unit => [(0, v_l), (1, .bool week), (5, .int .i64 (k6 : Int)), (6, .pointer (some ⟨b38, 0, none⟩)), (8, v_l), (9, .int .i64 (l.length : Int)), (10, .int .i64 (k6 : Int)), (21, .bool ((!week) && (x33.day != 0)))]) (fun _ w' => w41 = w') ?_ ?_
        · simp only [List.take, List.drop]
          rcases Bool.eq_false_or_eq_true (!week) with hc46 | hc46
          · refine V_ge rfl rfl rfl hc46 ?_
            have h48 := El_cal_Shift_0 h43
            refine V_y (Y_fieldAddr Tryd.underlying57 rfl Tryd.sizeOf3 (by decide) rfl) rfl rfl rfl ?_
            refine V_ge rfl rfl rfl hc46 ?_
            refine V_y (Y_load (El.int h48) Tryd.isAgg3 rfl) rfl rfl rfl ?_
            refine V_ge rfl rfl rfl hc46 ?_
            refine V_y (Y_neq rfl rfl) rfl rfl rfl ?_
            refine V_y (Y_pick_te rfl hc46 rfl) rfl rfl rfl ?_
            exact V_end fun a ha => ⟨(), ha.sub ⟨rfl, rfl, rfl, rfl, rfl, rfl, rfl, (by rw [hc46]; rfl), trivial⟩, rfl⟩
          · refine V_gn rfl rfl rfl hc46 rfl rfl rfl ?_
            refine V_gn rfl rfl rfl hc46 rfl rfl rfl ?_
            refine V_gn rfl rfl rfl hc46 rfl rfl rfl ?_
            refine V_y (Y_pick_fe rfl hc46 rfl) rfl rfl rfl ?_
            exact V_end fun a ha => ⟨(), ha.sub ⟨rfl, rfl, rfl, rfl, rfl, rfl, rfl, (by rw [hc46]; rfl), trivial⟩, rfl⟩
        simp only [List.take, List.drop]
        rintro _ _ rfl
        refine V_to (fun _ _ => rfl) ?_
        refine C_cond rfl (fun hc49 => ?_) (fun hc49 => ?_)
        · rw [if_pos hc49] at ho25
          refine C_seq ?_
          refine C_region ?_
          refine V_y (Y_assign rfl) rfl rfl rfl ?_
          refine V_to (fun _ _ => rfl) ?_
          obtain rfl := Option.some.inj ho25
          rw [Lp.andThen_rt] at h17
          obtain rfl := Option.some.inj h17
          obtain rfl := (h18 : Lp.rt _ = _)
          rw [Lp.andThen_rt] at hm
          obtain rfl := Option.some.inj hm
          refine C_ret ?_
          try simp only [↓inBlock_ret, ↓then_ret]
          exact retQ rfl (Res.one Tryd.results28 rfl) ⟨rfl, hK.kp⟩
        · rw [if_neg (nt hc49)] at ho25
          refine C_skip_to (fun _ _ => rfl) ?_
          refine C_seq ?_
          refine C_seq ?_
          refine C_region ?_
          have h50 := El_cal_Shift_0 h43
          refine V_y (Y_fieldAddr Tryd.underlying57 rfl Tryd.sizeOf3 (by decide) rfl) rfl rfl rfl ?_
          refine V_y (Y_load (El.int h50) Tryd.isAgg3 rfl) rfl rfl rfl ?_
          refine V_y (Y_lss rfl rfl) rfl rfl rfl ?_
          refine V_y (Y_move rfl) rfl rfl rfl ?_
          refine V_cut 4 (fun _ : Unit => [(0, v_l), (1, .bool week), (5, .int .i64 (k6 : Int)), (6, .pointer (some ⟨b38, 0, none⟩)), (8, v_l), (9, .int .i64 (l.length : Int)), (10, .int .i64 (k6 : Int)), (29, .bool ((decide (x33.day < 0)) || (decide ((6 : Int) < x33.day))))]) (fun _ w' => w41 = w') ?_ ?_
          · simp only [List.take, List.drop]
            rcases Bool.eq_false_or_eq_true (decide (x33.day < 0)) with hc51 | hc51
            · refine V_gn rfl rfl rfl hc51 rfl rfl rfl ?_
              refine V_gn rfl rfl rfl hc51 rfl rfl rfl ?_
              refine V_gn rfl rfl rfl hc51 rfl rfl rfl ?_
              refine V_y (Y_pick_te rfl hc51 rfl) rfl rfl rfl ?_
              exact V_end fun a ha => ⟨(), ha.sub ⟨rfl, rfl, rfl, rfl, rfl, rfl, rfl, (by rw [hc51]; rfl), trivial⟩, rfl⟩
            · refine V_ge rfl rfl rfl hc51 ?_
              have h53 := El_cal_Shift_0 h43
              refine V_y (Y_fieldAddr Tryd.underlying57 rfl Tryd.sizeOf3 (by decide) rfl) rfl rfl rfl ?_
              refine V_ge rfl rfl rfl hc51 ?_
              refine V_y (Y_load (El.int h53) Tryd.isAgg3 rfl) rfl rfl rfl ?_
              refine V_ge rfl rfl rfl hc51 ?_
              refine V_y (Y_gtr rfl rfl) rfl rfl rfl ?_
              refine V_y (Y_pick_fe rfl hc51 rfl) rfl rfl rfl ?_
              exact V_end fun a ha => ⟨(), ha.sub ⟨rfl, rfl, rfl, rfl, rfl, rfl, rfl, (by rw [hc51]; rfl), trivial⟩, rfl⟩
          simp only [List.take, List.drop]
          rintro _ _ rfl
          refine V_y (Y_move rfl) rfl rfl rfl ?_
          refine V_cut 4 (fun _ : Unit => [(0, v_l), (1, .bool week), (5, .int .i64 (k6 : Int)), (6, .pointer (some ⟨b38, 0, none⟩)), (8, v_l), (9, .int .i64 (l.length : Int)), (10, .int .i64 (k6 : Int)), (34, .bool (((decide (x33.day < 0)) || (decide ((6 : Int) < x33.day))) || (decide (x33.from_ < 0))))]) (fun _ w' => w41 = w') ?_ ?_
          · simp only [List.take, List.drop]
            rcases Bool.eq_false_or_eq_true (((decide (x33.day < 0)) || (decide ((6 : Int) < x33.day)))) with hc54 | hc54
            · refine V_gn rfl rfl rfl hc54 rfl rfl rfl ?_
              refine V_gn rfl rfl rfl hc54 rfl rfl rfl ?_
              refine V_gn rfl rfl rfl hc54 rfl rfl rfl ?_
              refine V_y (Y_pick_te rfl hc54 rfl) rfl rfl rfl ?_
              exact V_end fun a ha => ⟨(), ha.sub ⟨rfl, rfl, rfl, rfl, rfl, rfl, rfl, (by rw [hc54]; rfl), trivial⟩, rfl⟩
            · refine V_ge rfl rfl rfl hc54 ?_
              have h56 := El_cal_Shift_1 h43
              refine V_y (Y_fieldAddr Tryd.underlying57 rfl Tryd.sizeOf3 (by decide) rfl) rfl rfl rfl ?_
              refine V_ge rfl rfl rfl hc54 ?_
              refine V_y (Y_load (El.int h56) Tryd.isAgg3 rfl) rfl rfl rfl ?_
              refine V_ge rfl rfl rfl hc54 ?_
              refine V_y (Y_lss rfl rfl) rfl rfl rfl ?_
              refine V_y (Y_pick_fe rfl hc54 rfl) rfl rfl rfl ?_
              exact V_end fun a ha => ⟨(), ha.sub ⟨rfl, rfl, rfl, rfl, rfl, rfl, rfl, (by rw [hc54]; rfl), trivial⟩, rfl⟩
          simp only [List.take, List.drop]
          rintro _ _ rfl
          refine V_y (Y_move rfl) rfl rfl rfl ?_
          refine V_cut 4 (fun _ : Unit => [(0, v_l), (1, .bool week), (5, .int .i64 (k6 : Int)), (6, .pointer (some ⟨b38, 0, none⟩)), (8, v_l), (9, .int .i64 (l.length : Int)), (10, .int .i64 (k6 : Int)), (39, .bool ((((decide (x33.day < 0)) || (decide ((6 : Int) < x33.day))) || (decide (x33.from_ < 0))) || (decide ((1440 : Int) ≤ x33.from_))))]) (fun _ w' => w41 = w') ?_ ?_
          · simp only [List.take, List.drop]
            rcases Bool.eq_false_or_eq_true ((((decide (x33.day < 0)) || (decide ((6 : Int) < x33.day))) || (decide (x33.from_ < 0)))) with hc57 | hc57
            · refine V_gn rfl rfl rfl hc57 rfl rfl rfl ?_
              refine V_gn rfl rfl rfl hc57 rfl rfl rfl ?_
              refine V_gn rfl rfl rfl hc57 rfl rfl rfl ?_
              refine V_y (Y_pick_te rfl hc57 rfl) rfl rfl rfl ?_
              exact V_end fun a ha => ⟨(), ha.sub ⟨rfl, rfl, rfl, rfl, rfl, rfl, rfl, (by rw [hc57]; rfl), trivial⟩, rfl⟩
            · refine V_ge rfl rfl rfl hc57 ?_
              have h59 := El_cal_Shift_1 h43
              refine V_y (Y_fieldAddr Tryd.underlying57 rfl Tryd.sizeOf3 (by decide) rfl) rfl rfl rfl ?_
              refine V_ge rfl rfl rfl hc57 ?_
              refine V_y (Y_load (El.int h59) Tryd.isAgg3 rfl) rfl rfl rfl ?_
              refine V_ge rfl rfl rfl hc57 ?_
              refine V_y (Y_geq rfl rfl) rfl rfl rfl ?_
              refine V_y (Y_pick_fe rfl hc57 rfl) rfl rfl rfl ?_
              exact V_end fun a ha => ⟨(), ha.sub ⟨rfl, rfl, rfl, rfl, rfl, rfl, rfl, (by rw [hc57]; rfl), trivial⟩, rfl⟩
          simp only [List.take, List.drop]
          rintro _ _ rfl
          refine V_y (Y_move rfl) rfl rfl rfl ?_
          refine V_cut 6 (fun _ : Unit => [(0, v_l), (1, .bool week), (5, .int .i64 (k6 : Int)), (6, .pointer (some ⟨b38, 0, none⟩)), (8, v_l), (9, .int .i64 (l.length : Int)), (10, .int .i64 (k6 : Int)), (46, .bool (((((decide (x33.day < 0)) || (decide ((6 : Int) < x33.day))) || (decide (x33.from_ < 0))) || (decide ((1440 : Int) ≤ x33.from_))) || (decide (x33.to_ ≤ x33.from_))))]) (fun _ w' => w41 = w') ?_ ?_
          · simp only [List.take, List.drop]
            rcases Bool.eq_false_or_eq_true (((((decide (x33.day < 0)) || (decide ((6 : Int) < x33.day))) || (decide (x33.from_ < 0))) || (decide ((1440 : Int) ≤ x33.from_)))) with hc60 | hc60
            · refine V_gn rfl rfl rfl hc60 rfl rfl rfl ?_
              refine V_gn rfl rfl rfl hc60 rfl rfl rfl ?_
              refine V_gn rfl rfl rfl hc60 rfl rfl rfl ?_
              refine V_gn rfl rfl rfl hc60 rfl rfl rfl ?_
              refine V_gn rfl rfl rfl hc60 rfl rfl rfl ?_
              refine V_y (Y_pick_te rfl hc60 rfl) rfl rfl rfl ?_
              exact V_end fun a ha => ⟨(), ha.sub ⟨rfl, rfl, rfl, rfl, rfl, rfl, rfl, (by rw [hc60]; rfl), trivial⟩, rfl⟩
            · refine V_ge rfl rfl rfl hc60 ?_
              have h62 := El_cal_Shift_2 h43
              refine V_y (Y_fieldAddr Tryd.underlying57 rfl Tryd.sizeOf3 (by decide) rfl) rfl rfl rfl ?_
              refine V_ge rfl rfl rfl hc60 ?_
              refine V_y (Y_load (El.int h62) Tryd.isAgg3 rfl) rfl rfl rfl ?_
              refine V_ge rfl rfl rfl hc60 ?_
              have h63 := El_cal_Shift_1 h43
              refine V_y (Y_fieldAddr Tryd.underlying57 rfl Tryd.sizeOf3 (by decide) rfl) rfl rfl rfl ?_
              refine V_ge rfl rfl rfl hc60 ?_
              refine V_y (Y_load (El.int h63) Tryd.isAgg3 rfl) rfl rfl rfl ?_
              refine V_ge rfl rfl rfl hc60 ?_
              refine V_y (Y_leq rfl rfl) rfl rfl rfl ?_
              refine V_y (Y_pick_fe rfl hc60 rfl) rfl rfl rfl ?_
              exact V_end fun a ha => ⟨(), ha.sub ⟨rfl, rfl, rfl, rfl, rfl, rfl, rfl, (by rw [hc60]; rfl), trivial⟩, rfl⟩
          simp only [List.take, List.drop]
          rintro _ _ rfl
          refine V_y (Y_move rfl) rfl rfl rfl ?_
          refine V_cut 7 (fun _ : Unit => [(0, v_l), (1, .bool week), (5, .int .i64 (k6 : Int)), (6, .pointer (some ⟨b38, 0, none⟩)), (8, v_l), (9, .int .i64 (l.length : Int)), (10, .int .i64 (k6 : Int)), (54, .bool ((((((decide (x33.day < 0)) || (decide ((6 : Int) < x33.day))) || (decide (x33.from_ < 0))) || (decide ((1440 : Int) ≤ x33.from_))) || (decide (x33.to_ ≤ x33.from_))) || (decide ((w64 (x33.from_ + 1440)) < x33.to_))))]) (fun _ w' => w41 = w') ?_ ?_
          · simp only [List.take, List.drop]
            rcases Bool.eq_false_or_eq_true ((((((decide (x33.day < 0)) || (decide ((6 : Int) < x33.day))) || (decide (x33.from_ < 0))) || (decide ((1440 : Int) ≤ x33.from_))) || (decide (x33.to_ ≤ x33.from_)))) with hc64 | hc64
            · refine V_gn rfl rfl rfl hc64 rfl rfl rfl ?_
              refine V_gn rfl rfl rfl hc64 rfl rfl rfl ?_
              refine V_gn rfl rfl rfl hc64 rfl rfl rfl ?_
              refine V_gn rfl rfl rfl hc64 rfl rfl rfl ?_
              refine V_gn rfl rfl rfl hc64 rfl rfl rfl ?_
              refine V_gn rfl rfl rfl hc64 rfl rfl rfl ?_
              refine V_y (Y_pick_te rfl hc64 rfl) rfl rfl rfl ?_
              exact V_end fun a ha => ⟨(), ha.sub ⟨rfl, rfl, rfl, rfl, rfl, rfl, rfl, (by rw [hc64]; rfl), trivial⟩, rfl⟩
            · refine V_ge rfl rfl rfl hc64 ?_
              have h66 := El_cal_Shift_2 h43
              refine V_y (Y_fieldAddr Tryd.underlying57 rfl Tryd.sizeOf3 (by decide) rfl) rfl rfl rfl ?_
              refine V_ge rfl rfl rfl hc64 ?_
              refine V_y (Y_load (El.int h66) Tryd.isAgg3 rfl) rfl rfl rfl ?_
              refine V_ge rfl rfl rfl hc64 ?_
              have h67 := El_cal_Shift_1 h43
              refine V_y (Y_fieldAddr Tryd.underlying57 rfl Tryd.sizeOf3 (by decide) rfl) rfl rfl rfl ?_
              refine V_ge rfl rfl rfl hc64 ?_
              refine V_y (Y_load (El.int h67) Tryd.isAgg3 rfl) rfl rfl rfl ?_
              refine V_ge rfl rfl rfl hc64 ?_
              refine V_y (Y_addI rfl rfl) rfl rfl rfl ?_
              refine V_ge rfl rfl rfl hc64 ?_
              refine V_y (Y_gtr rfl rfl) rfl rfl rfl ?_
              refine V_y (Y_pick_fe rfl hc64 rfl) rfl rfl rfl ?_
              exact V_end fun a ha => ⟨(), ha.sub ⟨rfl, rfl, rfl, rfl, rfl, rfl, rfl, (by rw [hc64]; rfl), trivial⟩, rfl⟩
          simp only [List.take, List.drop]
          rintro _ _ rfl
          refine V_to (fun _ _ => rfl) ?_
          refine C_cond rfl (fun hc68 => ?_) (fun hc68 => ?_)
          · rw [if_pos hc68] at ho25
            refine C_seq ?_
            refine C_region ?_
            refine V_y (Y_assign rfl) rfl rfl rfl ?_
            refine V_to (fun _ _ => rfl) ?_
            obtain rfl := Option.some.inj ho25
            rw [Lp.andThen_rt] at h17
            obtain rfl := Option.some.inj h17
            obtain rfl := (h18 : Lp.rt _ = _)
            rw [Lp.andThen_rt] at hm
            obtain rfl := Option.some.inj hm
            refine C_ret ?_
            try simp only [↓inBlock_ret, ↓then_ret]
            exact retQ rfl (Res.one Tryd.results28 rfl) ⟨rfl, hK.kp⟩
          · rw [if_neg (nt hc68)] at ho25
            refine C_skip_to (fun _ _ => rfl) ?_
            refine C_seq ?_
            refine C_region ?_
            refine V_y (Y_move rfl) rfl rfl rfl ?_
            refine V_y (Y_gtr rfl rfl) rfl rfl rfl ?_
            refine V_to (fun _ _ => rfl) ?_
            obtain ⟨o69, ho69, ho25⟩ := Option.bind_eq_some_iff.1 ho25
            refine C_cutG (ι := (Unit × (Nat → Prop))) (fun ⟨s70, A75⟩ => [(0, v_l), (1, .bool week), (8, v_l), (9, .int .i64 (l.length : Int)), (10, .int .i64 (k6 : Int))]) (fun ⟨s70, A75⟩ => fun w' => o69 = .fin s70 ∧ Hp w.heap.size A75 w' ([]) ∧ Tr w.heap.size A14 w41 A75 w') ?_ ?_
            · have hr71 : Tr w.heap.size A14 w41 A14 w41 := Tr.refl hA
              refine C_cond rfl (fun hc77 => ?_) (fun hc77 => ?_)
              · rw [if_pos hc77] at ho69
                refine C_seq ?_
                refine C_region ?_
                refine V_y (Y_move rfl) rfl rfl rfl ?_
                refine V_y (Y_move rfl) rfl rfl rfl ?_
                refine V_y (Y_subI rfl rfl) rfl rfl rfl ?_
                obtain ⟨x78, hx78, ho69⟩ := Option.bind_eq_some_iff.1 ho69
                refine V_indexAddr h_l hx78 Tryd.underlying25 Tryd.sizeOf57 rfl rfl rfl ?_
                intro b79 o80 h81
                obtain ⟨h82, _⟩ := El_cal_Shift h81
                refine V_y (Y_loadA h82 Tryd.isAgg57 Tryd.sizeOf57 rfl) rfl rfl rfl ?_
                refine V_alloc Tryd.zeroValue57 rfl ?_
                intro b83 w84 h85
                refine V_storeNew h85 Tryd.sizeOf57 rfl rfl rfl rfl (by exact (List.forall_mem_cons.2 ⟨rfl, (List.forall_mem_cons.2 ⟨rfl, (List.forall_mem_cons.2 ⟨rfl, (fun _ h => nomatch h)⟩)⟩)⟩)) ?_
                intro w86 h87
                have hk89 := h87.kp
                have h88 : El (α := cal_Shift) A14 w86 b83 0 x78 := h87.el hA ⟨[.int .i64 x78.day], _, rfl, rfl, ⟨[.int .i64 x78.from_], _, rfl, rfl, rfl⟩⟩
                have ht90 := Kp.tr hk89 hA hB
                replace hH := Hp.kp hH hk89
                replace h_l := Sl.tr h_l ht90
                replace h43 := El.tr h43 ht90
                replace h81 := El.tr h81 ht90
                replace hK := Tr.trans hK ht90
                replace hr5 := Tr.trans hr5 ht90
                replace hr27 := Tr.trans hr27 ht90
                replace hr71 := Tr.trans hr71 ht90
                replace hB := Nat.le_trans hB ht90.ex.size
                replace hA := ht90.new
                refine V_to (fun _ _ => rfl) ?_
                refine C_seq ?_
                refine C_region_qt 15 Tryd_mixed (by kernel_rfl) ?_
                simp only [List.take, List.drop]
                have h91 := El_cal_Shift_0 h88
                refine VQ_y (fun w' hw' => Y_fieldAddr Tryd.underlying57 rfl Tryd.sizeOf3 (by decide) rfl) rfl rfl rfl ?_
                refine VQ_y (fun w' hw' => Y_load (El.int (El.kp h91 hw')) Tryd.isAgg3 rfl) rfl rfl rfl ?_
                have h92 := El_cal_Shift_0 h43
                refine VQ_y (fun w' hw' => Y_fieldAddr Tryd.underlying57 rfl Tryd.sizeOf3 (by decide) rfl) rfl rfl rfl ?_
                refine VQ_y (fun w' hw' => Y_load (El.int (El.kp h92 hw')) Tryd.isAgg3 rfl) rfl rfl rfl ?_
                refine VQ_call (.int .i64 (cmp_Compare_int x78.day x33.day)) Tryd.call42 rfl rfl rfl rfl (fun w' hw' => (cmp_Compare_int_c w' x78.day x33.day).mono (fun _ _ h => ⟨h.1, h.2 ▸ hw'⟩)) ?_
                have h93 := El_cal_Shift_1 h88
                refine VQ_y (fun w' hw' => Y_fieldAddr Tryd.underlying57 rfl Tryd.sizeOf3 (by decide) rfl) rfl rfl rfl ?_
                refine VQ_y (fun w' hw' => Y_load (El.int (El.kp h93 hw')) Tryd.isAgg3 rfl) rfl rfl rfl ?_
                have h94 := El_cal_Shift_1 h43
                refine VQ_y (fun w' hw' => Y_fieldAddr Tryd.underlying57 rfl Tryd.sizeOf3 (by decide) rfl) rfl rfl rfl ?_
                refine VQ_y (fun w' hw' => Y_load (El.int (El.kp h94 hw')) Tryd.isAgg3 rfl) rfl rfl rfl ?_
                refine VQ_call (.int .i64 (cmp_Compare_int x78.from_ x33.from_)) Tryd.call42 rfl rfl rfl rfl (fun w' hw' => (cmp_Compare_int_c w' x78.from_ x33.from_).mono (fun _ _ h => ⟨h.1, h.2 ▸ hw'⟩)) ?_
                have h95 := El_cal_Shift_2 h88
                refine VQ_y (fun w' hw' => Y_fieldAddr Tryd.underlying57 rfl Tryd.sizeOf3 (by decide) rfl) rfl rfl rfl ?_
                refine VQ_y (fun w' hw' => Y_load (El.int (El.kp h95 hw')) Tryd.isAgg3 rfl) rfl rfl rfl ?_
                have h96 := El_cal_Shift_2 h43
                refine VQ_y (fun w' hw' => Y_fieldAddr Tryd.underlying57 rfl Tryd.sizeOf3 (by decide) rfl) rfl rfl rfl ?_
                refine VQ_y (fun w' hw' => Y_load (El.int (El.kp h96 hw')) Tryd.isAgg3 rfl) rfl rfl rfl ?_
                refine VQ_call (.int .i64 (cmp_Compare_int x78.to_ x33.to_)) Tryd.call42 rfl rfl rfl rfl (fun w' hw' => (cmp_Compare_int_c w' x78.to_ x33.to_).mono (fun _ _ h => ⟨h.1, h.2 ▸ hw'⟩)) ?_
                refine VQ_tail (fun w97 hk98 => ?_)
                try simp only [List.take, List.drop]
                have ht99 := Kp.tr hk98 hA hB
                replace hH := Hp.kp hH hk98
                replace h_l := Sl.tr h_l ht99
                replace h43 := El.tr h43 ht99
                replace h88 := El.tr h88 ht99
                replace h91 := El.tr h91 ht99
                replace h92 := El.tr h92 ht99
                replace h93 := El.tr h93 ht99
                replace h94 := El.tr h94 ht99
                replace h95 := El.tr h95 ht99
                replace h96 := El.tr h96 ht99
                replace hK := Tr.trans hK ht99
                replace hr5 := Tr.trans hr5 ht99
                replace hr27 := Tr.trans hr27 ht99
                replace hr71 := Tr.trans hr71 ht99
                replace hB := Nat.le_trans hB ht99.ex.size
                replace hA := ht99.new
                refine V_buildSlice (l := ([(cmp_Compare_int x78.day x33.day), (cmp_Compare_int x78.from_ x33.from_), (cmp_Compare_int x78.to_ x33.to_)] : List Int)) (len := 3) Tryd.underlying46 Tryd.sizeOf3 Tryd.zeroValue3 rfl (by with_unfolding_all rfl) (by decide) (by decide) hA ⟨[.int .i64 (cmp_Compare_int x78.day x33.day)], _, rfl, rfl, ⟨[.int .i64 (cmp_Compare_int x78.from_ x33.from_)], _, rfl, rfl, ⟨[.int .i64 (cmp_Compare_int x78.to_ x33.to_)], _, rfl, rfl, rfl⟩⟩⟩ rfl rfl ?_
                intro v100 w101 hk103 h102
                have ht104 := Kp.tr hk103 hA hB
                replace hH := Hp.kp hH hk103
                replace h_l := Sl.tr h_l ht104
                replace h43 := El.tr h43 ht104
                replace h88 := El.tr h88 ht104
                replace h91 := El.tr h91 ht104
                replace h92 := El.tr h92 ht104
                replace h93 := El.tr h93 ht104
                replace h94 := El.tr h94 ht104
                replace h95 := El.tr h95 ht104
                replace h96 := El.tr h96 ht104
                replace hK := Tr.trans hK ht104
                replace hr5 := Tr.trans hr5 ht104
                replace hr27 := Tr.trans hr27 ht104
                replace hr71 := Tr.trans hr71 ht104
                replace hB := Nat.le_trans hB ht104.ex.size
                replace hA := ht104.new
                obtain ⟨x105, hx105, ho69⟩ := Option.bind_eq_some_iff.1 ho69
                refine V_call Tryd.call41 rfl rfl rfl rfl (cmp_Or_int_c w101 ([(cmp_Compare_int x78.day x33.day), (cmp_Compare_int x78.from_ x33.from_), (cmp_Compare_int x78.to_ x33.to_)] : List Int) v100 h102 hx105) ?_
                rintro _ _ ⟨rfl, rfl⟩
                refine V_y (Y_geq rfl rfl) rfl rfl rfl ?_
                refine V_to (fun _ _ => rfl) ?_
                refine C_cond rfl (fun hc106 => ?_) (fun hc106 => ?_)
                · rw [if_pos hc106] at ho69
                  refine C_seq ?_
                  refine C_region ?_
                  refine V_y (Y_assign rfl) rfl rfl rfl ?_
                  refine V_to (fun _ _ => rfl) ?_
                  obtain rfl := Option.some.inj ho69
                  rw [Lp.andThen_rt] at ho25
                  obtain rfl := Option.some.inj ho25
                  rw [Lp.andThen_rt] at h17
                  obtain rfl := Option.some.inj h17
                  obtain rfl := (h18 : Lp.rt _ = _)
                  rw [Lp.andThen_rt] at hm
                  obtain rfl := Option.some.inj hm
                  refine C_ret ?_
                  try simp only [↓inBlock_ret, ↓then_ret]
                  exact retQ rfl (Res.one Tryd.results28 rfl) ⟨rfl, hK.kp⟩
                · rw [if_neg (nt hc106)] at ho69
                  obtain rfl := Option.some.inj ho69
                  refine C_skip (fun a ha107 => ?_)
                  exact ⟨((), A14), ha107.sub ⟨rfl, rfl, rfl, rfl, rfl, trivial⟩, ⟨rfl, hH, hr71⟩⟩
              · rw [if_neg (nt hc77)] at ho69
                obtain rfl := Option.some.inj ho69
                refine C_skip (fun a ha108 => ?_)
                exact ⟨((), A14), ha108.sub ⟨rfl, rfl, rfl, rfl, rfl, trivial⟩, ⟨rfl, hH, hr71⟩⟩
            rintro ⟨s70, A75⟩ w72 ⟨rfl, hH76, hk73⟩ a ha74
            rw [Lp.andThen_fin] at ho25
            replace h_l := Sl.tr h_l hk73
            replace hK := Tr.trans hK hk73
            replace hr5 := Tr.trans hr5 hk73
            replace hr27 := Tr.trans hr27 hk73
            replace hB := Nat.le_trans hB hk73.ex.size
            replace hA := hk73.new
            replace hH : Hp w.heap.size A75 w72 ([]) := hH76
            obtain rfl := Option.some.inj ho25
            exact ⟨((), A75), ha74.sub ⟨rfl, rfl, rfl, rfl, rfl, trivial⟩, ⟨rfl, hH, hr27⟩⟩
      rintro ⟨s26, A31⟩ w28 ⟨rfl, hH32, hk29⟩ a ha30
      rw [Lp.andThen_fin] at h17
      replace h_l := Sl.tr h_l hk29
      replace hK := Tr.trans hK hk29
      replace hr5 := Tr.trans hr5 hk29
      replace hB := Nat.le_trans hB hk29.ex.size
      replace hA := hk29.new
      replace hH : Hp w.heap.size A31 w28 ([]) := hH32
      refine C_at (n := ⟨81, [], none⟩) (fun _ _ => rfl) ?_ ha30
      refine C_region ?_
      refine V_y (Y_addI rfl rfl) rfl rfl rfl ?_
      refine V_y (Y_move rfl) rfl rfl rfl ?_
      obtain rfl := Option.some.inj h17
      refine V_end (fun a ha110 => ?_)
      exact ⟨(), hlt20, h18, ⟨A31, ha110.sub ⟨rfl, rfl, rfl, rfl, (congrArg (fun z => some (Value.int .i64 z)) (w64_succ hlt20 hn23)), trivial⟩, ⟨hH, hr5⟩⟩⟩
    · refine C_exit (fun a ha111 => ?_)
      exact ⟨((), A14), ha111.sub trivial, ⟨(h21 (eq_of_dec hle19 hc24)).symm, hH, hr5⟩⟩
  rintro ⟨s4, A10⟩ w7 ⟨rfl, hH11, hk8⟩ a ha9
  rw [Lp.andThen_fin] at hm
  replace hK := Tr.trans hK hk8
  replace hB := Nat.le_trans hB hk8.ex.size
  replace hA := hk8.new
  replace hH : Hp w.heap.size A10 w7 ([]) := hH11
  refine C_at (n := ⟨81, [], none⟩) (fun _ _ => rfl) ?_ ha9
  refine C_seq ?_
  refine C_region ?_
  refine V_y (Y_assign rfl) rfl rfl rfl ?_
  refine V_to (fun _ _ => rfl) ?_
  obtain rfl := Option.some.inj hm
  refine C_ret ?_
  try simp only [↓inBlock_ret, ↓then_ret]
  exact retQ rfl (Res.one Tryd.results28 rfl) ⟨rfl, hK.kp⟩

set_option maxRecDepth 4000 in
set_option maxHeartbeats 4000000 in
theorem portref2_CalendarFault_c (w : World) {A : Nat → Prop} (hA : ∀ b, w.heap.size ≤ b → A b) (c : cal_Calendar) (v_c0 : Value) (h_c0 : Sl A w v_c0 c.zone.changes) (v_c1 : Value) (h_c1 : Sl A w v_c1 c.week) (v_c2 : Value) (h_c2 : Sl A w v_c2 c.specials) {r : Int} (hm : portref2_CalendarFault c = some r) : Ret Tryd.prog 8 #[.agg #[.int .i64 c.zone.offset, v_c0, v_c1, v_c2]] w fun v w' => v = .int .i64 r ∧ Kp w w' := by
  unfold portref2_CalendarFault at hm
  refine enter Tryd.func8 rfl Tryd.ntmps8 rfl ?_
  have hA0 := hA
  have hB := Nat.le_refl w.heap.size
  have hK : Tr w.heap.size A w A w := Tr.refl hA
  have hH : Hp w.heap.size A w [] := Hp.nil
  refine C_seq ?_
  refine C_region ?_
  refine V_box rfl rfl ?_
  intro b7 w9 h10
  have hk12 := h10.kp
  have h11 : El (α := cal_Calendar) A w9 b7 0 c := h10.el hA ⟨[.int .i64 c.zone.offset, v_c0], _, rfl, ⟨[.int .i64 c.zone.offset], _, rfl, rfl, ⟨_, rfl, h_c0⟩⟩, ⟨[v_c1], _, rfl, ⟨_, rfl, h_c1⟩, ⟨_, rfl, h_c2⟩⟩⟩
  have ht13 := Kp.tr hk12 hA hB
  replace hH := Hp.kp hH hk12
  replace h_c0 := Sl.tr h_c0 ht13
  replace h_c1 := Sl.tr h_c1 ht13
  replace h_c2 := Sl.tr h_c2 ht13
  replace hK := Tr.trans hK ht13
  replace hB := Nat.le_trans hB ht13.ex.size
  replace hA := ht13.new
  refine V_y (Y_assign rfl) rfl rfl rfl ?_
  refine V_to (fun _ _ => rfl) ?_
  refine C_seq ?_
  refine C_seq ?_
  refine C_region ?_
  have h14 := El_cal_Calendar_0 h11
  refine V_y (Y_fieldAddr Tryd.underlying28 rfl Tryd.sizeOf24 (by decide) rfl) rfl rfl rfl ?_
  obtain ⟨v15, h17, h16⟩ := El_cal_Zone h14
  refine V_y (Y_loadA h17 Tryd.isAgg24 Tryd.sizeOf24 rfl) rfl rfl rfl ?_
  obtain ⟨x18, hx18, hm⟩ := Option.bind_eq_some_iff.1 hm
  refine V_call Tryd.call27 rfl rfl rfl rfl (portref2_ZoneFault_c w9 hA c.zone v15 h16 hx18) ?_
  rintro _ w19 ⟨rfl, hk20⟩
  have ht21 := Kp.tr hk20 hA hB
  replace hH := Hp.kp hH hk20
  replace h11 := El.tr h11 ht21
  replace h14 := El.tr h14 ht21
  replace h16 := Sl.tr h16 ht21
  replace hK := Tr.trans hK ht21
  replace hB := Nat.le_trans hB ht21.ex.size
  replace hA := ht21.new
  refine V_y (Y_assign rfl) rfl rfl rfl ?_
  refine V_to (fun _ _ => rfl) ?_
  refine C_seq ?_
  refine C_region ?_
  refine V_y (Y_move rfl) rfl rfl rfl ?_
  refine V_y (Y_neq rfl rfl) rfl rfl rfl ?_
  refine V_to (fun _ _ => rfl) ?_
  refine C_cond rfl (fun hc22 => ?_) (fun hc22 => ?_)
  · rw [if_pos hc22] at hm
    refine C_seq ?_
    refine C_region ?_
    refine V_y (Y_move rfl) rfl rfl rfl ?_
    refine V_y (Y_assign rfl) rfl rfl rfl ?_
    refine V_to (fun _ _ => rfl) ?_
    obtain rfl := Option.some.inj hm
    refine C_ret ?_
    try simp only [↓inBlock_ret, ↓then_ret]
    exact retQ rfl (Res.one Tryd.results8 rfl) ⟨rfl, hK.kp⟩
  · rw [if_neg (nt hc22)] at hm
    refine C_skip_to (fun _ _ => rfl) ?_
    refine C_seq ?_
    refine C_seq ?_
    refine C_region ?_
    have h23 := El_cal_Calendar_1 h11
    refine V_y (Y_fieldAddr Tryd.underlying28 rfl Tryd.sizeOf25 (by decide) rfl) rfl rfl rfl ?_
    obtain ⟨v24, h25, h26⟩ := El.list h23
    refine V_y (Y_load h25 Tryd.isAgg25 rfl) rfl rfl rfl ?_
    refine V_y (Y_lenSl h26 rfl Tryd.underlying25 rfl) rfl rfl rfl ?_
    refine V_y (Y_gtr rfl rfl) rfl rfl rfl ?_
    refine V_y (Y_move rfl) rfl rfl rfl ?_
    refine V_cut 5 (fun _ : Unit => [(1, .pointer (some ⟨b7, 0, none⟩)), (23, .bool ((decide ((60 : Int) < (c.week.length : Int))) || (decide ((200 : Int) < (c.specials.length : Int)))))]) (fun _ w' => w19 = w') ?_ ?_
    · simp only [List.take, List.drop]
      rcases Bool.eq_false_or_eq_true (decide ((60 : Int) < (c.week.length : Int))) with hc27 | hc27
      · refine V_gn rfl rfl rfl hc27 rfl rfl rfl ?_
        refine V_gn rfl rfl rfl hc27 rfl rfl rfl ?_
        refine V_gn rfl rfl rfl hc27 rfl rfl rfl ?_
        refine V_gn rfl rfl rfl hc27 rfl rfl rfl ?_
        refine V_y (Y_pick_te rfl hc27 rfl) rfl rfl rfl ?_
        exact V_end fun a ha => ⟨(), ha.sub ⟨rfl, (by rw [hc27]; rfl), trivial⟩, rfl⟩
      · refine V_ge rfl rfl rfl hc27 ?_
        have h29 := El_cal_Calendar_2 h11
        refine V_y (Y_fieldAddr Tryd.underlying28 rfl Tryd.sizeOf26 (by decide) rfl) rfl rfl rfl ?_
        refine V_ge rfl rfl rfl hc27 ?_
        obtain ⟨v30, h31, h32⟩ := El.list h29
        refine V_y (Y_load h31 Tryd.isAgg26 rfl) rfl rfl rfl ?_
        refine V_ge rfl rfl rfl hc27 ?_
        refine V_y (Y_lenSl h32 rfl Tryd.underlying26 rfl) rfl rfl rfl ?_
        refine V_ge rfl rfl rfl hc27 ?_
        refine V_y (Y_gtr rfl rfl) rfl rfl rfl ?_
        refine V_y (Y_pick_fe rfl hc27 rfl) rfl rfl rfl ?_
        exact V_end fun a ha => ⟨(), ha.sub ⟨rfl, (by rw [hc27]; rfl), trivial⟩, rfl⟩
    simp only [List.take, List.drop]
    rintro _ _ rfl
    refine V_to (fun _ _ => rfl) ?_
    refine C_cond rfl (fun hc33 => ?_) (fun hc33 => ?_)
    · rw [if_pos hc33] at hm
      refine C_seq ?_
      refine C_region ?_
      refine V_y (Y_assign rfl) rfl rfl rfl ?_
      refine V_to (fun _ _ => rfl) ?_
      obtain rfl := Option.some.inj hm
      refine C_ret ?_
      try simp only [↓inBlock_ret, ↓then_ret]
      exact retQ rfl (Res.one Tryd.results8 rfl) ⟨rfl, hK.kp⟩
    · rw [if_neg (nt hc33)] at hm
      refine C_skip_to (fun _ _ => rfl) ?_
      refine C_seq ?_
      refine C_seq ?_
      refine C_region ?_
      have h34 := El_cal_Calendar_1 h11
      refine V_y (Y_fieldAddr Tryd.underlying28 rfl Tryd.sizeOf25 (by decide) rfl) rfl rfl rfl ?_
      obtain ⟨v35, h36, h37⟩ := El.list h34
      refine V_y (Y_load h36 Tryd.isAgg25 rfl) rfl rfl rfl ?_
      obtain ⟨x38, hx38, hm⟩ := Option.bind_eq_some_iff.1 hm
      refine V_call Tryd.call28 rfl rfl rfl rfl (portref2_shiftFault_c w19 hA c.week v35 h37 true hx38) ?_
      rintro _ w39 ⟨rfl, hk40⟩
      have ht41 := Kp.tr hk40 hA hB
      replace hH := Hp.kp hH hk40
      replace h11 := El.tr h11 ht41
      replace h34 := El.tr h34 ht41
      replace h37 := Sl.tr h37 ht41
      replace hK := Tr.trans hK ht41
      replace hB := Nat.le_trans hB ht41.ex.size
      replace hA := ht41.new
      refine V_y (Y_assign rfl) rfl rfl rfl ?_
      refine V_to (fun _ _ => rfl) ?_
      refine C_seq ?_
      refine C_region ?_
      refine V_y (Y_move rfl) rfl rfl rfl ?_
      refine V_y (Y_neq rfl rfl) rfl rfl rfl ?_
      refine V_to (fun _ _ => rfl) ?_
      refine C_cond rfl (fun hc42 => ?_) (fun hc42 => ?_)
      · rw [if_pos hc42] at hm
        refine C_seq ?_
        refine C_region ?_
        refine V_y (Y_move rfl) rfl rfl rfl ?_
        refine V_y (Y_assign rfl) rfl rfl rfl ?_
        refine V_to (fun _ _ => rfl) ?_
        obtain rfl := Option.some.inj hm
        refine C_ret ?_
        try simp only [↓inBlock_ret, ↓then_ret]
        exact retQ rfl (Res.one Tryd.results8 rfl) ⟨rfl, hK.kp⟩
      · rw [if_neg (nt hc42)] at hm
        refine C_skip_to (fun _ _ => rfl) ?_
        refine C_seq ?_
        refine C_seq ?_
        refine C_region ?_
        have h43 := El_cal_Calendar_2 h11
        refine V_y (Y_fieldAddr Tryd.underlying28 rfl Tryd.sizeOf26 (by decide) rfl) rfl rfl rfl ?_
        obtain ⟨v44, h45, h46⟩ := El.list h43
        refine V_y (Y_load h45 Tryd.isAgg26 rfl) rfl rfl rfl ?_
        refine V_y (Y_lenSl h46 rfl Tryd.underlying26 rfl) rfl rfl rfl ?_
        refine V_y (Y_move rfl) rfl rfl rfl ?_
        refine V_to (fun _ _ => rfl) ?_
        have hn67 := Sl.le h46
        obtain ⟨o47, ho47, hm⟩ := Option.bind_eq_some_iff.1 hm
        refine C_cutG (ι := (Unit × (Nat → Prop))) (fun ⟨s48, A54⟩ => []) (fun ⟨s48, A54⟩ => fun w' => o47 = .fin s48 ∧ Hp w.heap.size A54 w' ([]) ∧ Tr w.heap.size A w39 A54 w') ?_ ?_
        · refine C_block ?_
          refine C_range ho47 (fun k50 _ a w' => ∃ i : (Nat → Prop), Has ⟨74, [], none⟩ a ([(1, .pointer (some ⟨b7, 0, none⟩)), (31, v44), (32, .int .i64 (c.specials.length : Int)), (33, .int .i64 (k50 : Int))]) ∧ Hp w.heap.size i w' ([]) ∧ Tr w.heap.size A w39 i w') (fun a ha => ⟨A, ha.sub ⟨rfl, rfl, rfl, rfl, trivial⟩, ⟨hH, Tr.refl hA⟩⟩) ?_
          rintro K k50 _ a w57 ⟨A58, ha124, hH59, hr49⟩ hle63 K66 h65
          refine C_of ?_ ha124
          replace h11 := El.tr h11 hr49
          replace h46 := Sl.tr h46 hr49
          replace hK := Tr.trans hK hr49
          replace hB := Nat.le_trans hB hr49.ex.size
          replace hA := hr49.new
          replace hH : Hp w.heap.size A58 w57 ([]) := hH59
          refine C_seq (C_region (V_y (Y_lss rfl rfl) rfl rfl rfl (V_to (fun _ _ => rfl) ?_)))
          refine C_seq ?_
          refine C_cond rfl (fun hc68 => ?_) (fun hc68 => ?_)
          · have hlt64 := lt_of_dec hc68
            obtain ⟨x60, h61, h62⟩ := K66 hlt64
            refine C_skip_to (fun _ _ => rfl) ?_
            refine C_seq ?_
            refine C_block ?_
            refine C_seq ?_
            refine C_region ?_
            refine V_y (Y_move rfl) rfl rfl rfl ?_
            obtain ⟨x69, hx69, h61⟩ := Option.bind_eq_some_iff.1 h61
            refine V_indexAddr h46 hx69 Tryd.underlying26 Tryd.sizeOf59 rfl rfl rfl ?_
            intro b70 o71 h72
            obtain ⟨v73, h75, h74⟩ := El_cal_Special h72
            refine V_y (Y_loadA h75 Tryd.isAgg59 Tryd.sizeOf59 rfl) rfl rfl rfl ?_
            refine V_alloc Tryd.zeroValue59 rfl ?_
            intro b76 w77 h78
            refine V_y (Y_assign rfl) rfl rfl rfl ?_
            have h83 : (v73).oneCell' = true := by obtain ⟨_, _, e, _⟩ := Sl.form h74; rw [e]; rfl
            refine V_storeNew h78 Tryd.sizeOf59 rfl rfl rfl rfl (by exact (List.forall_mem_cons.2 ⟨rfl, (List.forall_mem_cons.2 ⟨h83, (fun _ h => nomatch h)⟩)⟩)) ?_
            intro w79 h80
            have hk85 := h80.kp
            have h84 : El (α := cal_Special) A58 w79 b76 0 x69 := h80.el hA ⟨[.int .i64 x69.day], _, rfl, rfl, ⟨_, rfl, h74⟩⟩
            have ht86 := Kp.tr hk85 hA hB
            replace hH := Hp.kp hH hk85
            replace h11 := El.tr h11 ht86
            replace h46 := Sl.tr h46 ht86
            replace h72 := El.tr h72 ht86
            replace h74 := Sl.tr h74 ht86
            replace hK := Tr.trans hK ht86
            replace hr49 := Tr.trans hr49 ht86
            replace hB := Nat.le_trans hB ht86.ex.size
            replace hA := ht86.new
            refine V_to (fun _ _ => rfl) ?_
            refine C_seq ?_
            refine C_block ?_
            refine C_seq ?_
            refine C_region ?_
            have h87 := El_cal_Special_0 h84
            refine V_y (Y_fieldAddr Tryd.underlying59 rfl Tryd.sizeOf3 (by decide) rfl) rfl rfl rfl ?_
            refine V_y (Y_load (El.int h87) Tryd.isAgg3 rfl) rfl rfl rfl ?_
            refine V_y (Y_lss rfl rfl) rfl rfl rfl ?_
            refine V_y (Y_move rfl) rfl rfl rfl ?_
            refine V_cut 4 (fun _ : Unit => [(1, .pointer (some ⟨b7, 0, none⟩)), (5, .int .i64 (k50 : Int)), (6, .pointer (some ⟨b76, 0, none⟩)), (31, v44), (32, .int .i64 (c.specials.length : Int)), (33, .int .i64 (k50 : Int)), (46, .bool ((decide (x69.day < (-1))) || (decide ((2084 : Int) < x69.day))))]) (fun _ w' => w79 = w') ?_ ?_
            · simp only [List.take, List.drop]
              rcases Bool.eq_false_or_eq_true (decide (x69.day < (-1))) with hc88 | hc88
              · refine V_gn rfl rfl rfl hc88 rfl rfl rfl ?_
                refine V_gn rfl rfl rfl hc88 rfl rfl rfl ?_
                refine V_gn rfl rfl rfl hc88 rfl rfl rfl ?_
                refine V_y (Y_pick_te rfl hc88 rfl) rfl rfl rfl ?_
                exact V_end fun a ha => ⟨(), ha.sub ⟨rfl, rfl, rfl, rfl, rfl, rfl, (by rw [hc88]; rfl), trivial⟩, rfl⟩
              · refine V_ge rfl rfl rfl hc88 ?_
                have h90 := El_cal_Special_0 h84
                refine V_y (Y_fieldAddr Tryd.underlying59 rfl Tryd.sizeOf3 (by decide) rfl) rfl rfl rfl ?_
                refine V_ge rfl rfl rfl hc88 ?_
                refine V_y (Y_load (El.int h90) Tryd.isAgg3 rfl) rfl rfl rfl ?_
                refine V_ge rfl rfl rfl hc88 ?_
                refine V_y (Y_gtr rfl rfl) rfl rfl rfl ?_
                refine V_y (Y_pick_fe rfl hc88 rfl) rfl rfl rfl ?_
                exact V_end fun a ha => ⟨(), ha.sub ⟨rfl, rfl, rfl, rfl, rfl, rfl, (by rw [hc88]; rfl), trivial⟩, rfl⟩
            simp only [List.take, List.drop]
            rintro _ _ rfl
            refine V_y (Y_assign rfl) rfl rfl rfl ?_
            refine V_to (fun _ _ => rfl) ?_
            refine C_cond rfl (fun hc91 => ?_) (fun hc91 => ?_)
            · rw [if_pos hc91] at h61
              refine C_seq ?_
              refine C_region ?_
              refine V_y (Y_assign rfl) rfl rfl rfl ?_
              refine V_to (fun _ _ => rfl) ?_
              obtain rfl := Option.some.inj h61
              obtain rfl := (h62 : Lp.rt _ = _)
              rw [Lp.andThen_rt] at hm
              obtain rfl := Option.some.inj hm
              refine C_ret ?_
              try simp only [↓inBlock_ret, ↓then_ret]
              exact retQ rfl (Res.one Tryd.results8 rfl) ⟨rfl, hK.kp⟩
            · rw [if_neg (nt hc91)] at h61
              refine C_seq ?_
              refine C_region_q Tryd_mixed (by kernel_rfl) ?_
              refine VQ_y (fun w' hw' => Y_move rfl) rfl rfl rfl ?_
              refine VQ_y (fun w' hw' => Y_gtr rfl rfl) rfl rfl rfl ?_
              refine VQ_y (fun w' hw' => Y_move rfl) rfl rfl rfl ?_
              obtain ⟨s93, hs93, h61⟩ := Option.bind_eq_some_iff.1 h61
              refine VQ_cut 11 (fun _ : Unit => [(1, .pointer (some ⟨b7, 0, none⟩)), (6, .pointer (some ⟨b76, 0, none⟩)), (31, v44), (32, .int .i64 (c.specials.length : Int)), (33, .int .i64 (k50 : Int)), (61, .bool s93)]) (fun _ => True) ?_ ?_
              · simp only [List.take, List.drop]
                rcases Bool.eq_false_or_eq_true (decide ((0 : Int) < (k50 : Int))) with hc92 | hc92
                · rw [if_pos hc92] at hs93
                  refine VQ_ge rfl rfl rfl hc92 ?_
                  have h94 := El_cal_Special_0 h84
                  refine VQ_y (fun w' hw' => Y_fieldAddr Tryd.underlying59 rfl Tryd.sizeOf3 (by decide) rfl) rfl rfl rfl ?_
                  refine VQ_ge rfl rfl rfl hc92 ?_
                  refine VQ_y (fun w' hw' => Y_load (El.int (El.kp h94 hw')) Tryd.isAgg3 rfl) rfl rfl rfl ?_
                  refine VQ_ge rfl rfl rfl hc92 ?_
                  have h95 := El_cal_Calendar_2 h11
                  refine VQ_y (fun w' hw' => Y_fieldAddr Tryd.underlying28 rfl Tryd.sizeOf26 (by decide) rfl) rfl rfl rfl ?_
                  refine VQ_ge rfl rfl rfl hc92 ?_
                  obtain ⟨v96, h97, h98⟩ := El.list h95
                  refine VQ_y (fun w' hw' => Y_load ((World.cell?_of_block (hw'.block _ (World.block_lt_of_cell? _ _ h97))).trans h97) Tryd.isAgg26 rfl) rfl rfl rfl ?_
                  refine VQ_ge rfl rfl rfl hc92 ?_
                  refine VQ_y (fun w' hw' => Y_move rfl) rfl rfl rfl ?_
                  refine VQ_ge rfl rfl rfl hc92 ?_
                  refine VQ_y (fun w' hw' => Y_subI rfl rfl) rfl rfl rfl ?_
                  refine VQ_ge rfl rfl rfl hc92 ?_
                  obtain ⟨x99, hx99, hs93⟩ := Option.bind_eq_some_iff.1 hs93
                  refine VQ_indexAddr h98 hx99 Tryd.underlying26 Tryd.sizeOf59 rfl rfl rfl ?_
                  intro b100 o101 h102
                  refine VQ_ge rfl rfl rfl hc92 ?_
                  have h103 := El_cal_Special_0 h102
                  refine VQ_y (fun w' hw' => Y_fieldAddr Tryd.underlying59 rfl Tryd.sizeOf3 (by decide) rfl) rfl rfl rfl ?_
                  refine VQ_ge rfl rfl rfl hc92 ?_
                  refine VQ_y (fun w' hw' => Y_load (El.int (El.kp h103 hw')) Tryd.isAgg3 rfl) rfl rfl rfl ?_
                  refine VQ_ge rfl rfl rfl hc92 ?_
                  refine VQ_y (fun w' hw' => Y_leq rfl rfl) rfl rfl rfl ?_
                  refine VQ_y (fun _ _ => Y_pick_te rfl hc92 rfl) rfl rfl rfl ?_
                  obtain rfl := Option.some.inj hs93
                  exact VQ_end fun a ha => ⟨(), ha.sub ⟨rfl, rfl, rfl, rfl, rfl, rfl, trivial⟩, trivial⟩
                · rw [if_neg (nt hc92)] at hs93
                  refine VQ_gn rfl rfl rfl hc92 rfl rfl rfl ?_
                  refine VQ_gn rfl rfl rfl hc92 rfl rfl rfl ?_
                  refine VQ_gn rfl rfl rfl hc92 rfl rfl rfl ?_
                  refine VQ_gn rfl rfl rfl hc92 rfl rfl rfl ?_
                  refine VQ_gn rfl rfl rfl hc92 rfl rfl rfl ?_
                  refine VQ_gn rfl rfl rfl hc92 rfl rfl rfl ?_
                  refine VQ_gn rfl rfl rfl hc92 rfl rfl rfl ?_
                  refine VQ_gn rfl rfl rfl hc92 rfl rfl rfl ?_
                  refine VQ_gn rfl rfl rfl hc92 rfl rfl rfl ?_
                  refine VQ_gn rfl rfl rfl hc92 rfl rfl rfl ?_
                  refine VQ_y (fun _ _ => Y_pick_fe rfl hc92 rfl) rfl rfl rfl ?_
                  obtain rfl := Option.some.inj hs93
                  exact VQ_end fun a ha => ⟨(), ha.sub ⟨rfl, rfl, rfl, rfl, rfl, rfl, trivial⟩, trivial⟩
              simp only [List.take, List.drop]
              rintro _ _
              refine VQ_y (fun w' hw' => Y_assign rfl) rfl rfl rfl ?_
              refine VQ_to (fun _ _ => rfl) (fun w104 hk105 => ?_)
              have ht106 := Kp.tr hk105 hA hB
              replace hH := Hp.kp hH hk105
              replace h11 := El.tr h11 ht106
              replace h46 := Sl.tr h46 ht106
              replace h84 := El.tr h84 ht106
              replace hK := Tr.trans hK ht106
              replace hr49 := Tr.trans hr49 ht106
              replace hB := Nat.le_trans hB ht106.ex.size
              replace hA := ht106.new
              refine C_cond rfl (fun hc107 => ?_) (fun hc107 => ?_)
              · rw [if_pos hc107] at h61
                refine C_seq ?_
                refine C_region ?_
                refine V_y (Y_assign rfl) rfl rfl rfl ?_
                refine V_to (fun _ _ => rfl) ?_
                obtain rfl := Option.some.inj h61
                obtain rfl := (h62 : Lp.rt _ = _)
                rw [Lp.andThen_rt] at hm
                obtain rfl := Option.some.inj hm
                refine C_ret ?_
                try simp only [↓inBlock_ret, ↓then_ret]
                exact retQ rfl (Res.one Tryd.results8 rfl) ⟨rfl, hK.kp⟩
              · rw [if_neg (nt hc107)] at h61
                refine C_seq ?_
                refine C_region ?_
                have h108 := El_cal_Special_1 h84
                refine V_y (Y_fieldAddr Tryd.underlying59 rfl Tryd.sizeOf25 (by decide) rfl) rfl rfl rfl ?_
                obtain ⟨v109, h110, h111⟩ := El.list h108
                refine V_y (Y_load h110 Tryd.isAgg25 rfl) rfl rfl rfl ?_
                refine V_y (Y_lenSl h111 rfl Tryd.underlying25 rfl) rfl rfl rfl ?_
                refine V_y (Y_gtr rfl rfl) rfl rfl rfl ?_
                refine V_y (Y_assign rfl) rfl rfl rfl ?_
                refine V_to (fun _ _ => rfl) ?_
                refine C_cond rfl (fun hc112 => ?_) (fun hc112 => ?_)
                · rw [if_pos hc112] at h61
                  refine C_seq ?_
                  refine C_region ?_
                  refine V_y (Y_assign rfl) rfl rfl rfl ?_
                  refine V_to (fun _ _ => rfl) ?_
                  obtain rfl := Option.some.inj h61
                  obtain rfl := (h62 : Lp.rt _ = _)
                  rw [Lp.andThen_rt] at hm
                  obtain rfl := Option.some.inj hm
                  refine C_ret ?_
                  try simp only [↓inBlock_ret, ↓then_ret]
                  exact retQ rfl (Res.one Tryd.results8 rfl) ⟨rfl, hK.kp⟩
                · rw [if_neg (nt hc112)] at h61
                  refine C_skip_to (fun _ _ => rfl) ?_
                  refine C_seq ?_
                  refine C_region ?_
                  have h113 := El_cal_Special_1 h84
                  refine V_y (Y_fieldAddr Tryd.underlying59 rfl Tryd.sizeOf25 (by decide) rfl) rfl rfl rfl ?_
                  obtain ⟨v114, h115, h116⟩ := El.list h113
                  refine V_y (Y_load h115 Tryd.isAgg25 rfl) rfl rfl rfl ?_
                  obtain ⟨x117, hx117, h61⟩ := Option.bind_eq_some_iff.1 h61
                  refine V_call Tryd.call28 rfl rfl rfl rfl (portref2_shiftFault_c w104 hA x69.shifts v114 h116 false hx117) ?_
                  rintro _ w118 ⟨rfl, hk119⟩
                  have ht120 := Kp.tr hk119 hA hB
                  replace hH := Hp.kp hH hk119
                  replace h11 := El.tr h11 ht120
                  replace h46 := Sl.tr h46 ht120
                  replace h84 := El.tr h84 ht120
                  replace h113 := El.tr h113 ht120
                  replace h116 := Sl.tr h116 ht120
                  replace hK := Tr.trans hK ht120
                  replace hr49 := Tr.trans hr49 ht120
                  replace hB := Nat.le_trans hB ht120.ex.size
                  replace hA := ht120.new
                  refine V_y (Y_assign rfl) rfl rfl rfl ?_
                  refine V_to (fun _ _ => rfl) ?_
                  refine C_seq ?_
                  refine C_region ?_
                  refine V_y (Y_move rfl) rfl rfl rfl ?_
                  refine V_y (Y_neq rfl rfl) rfl rfl rfl ?_
                  refine V_to (fun _ _ => rfl) ?_
                  refine C_cond rfl (fun hc121 => ?_) (fun hc121 => ?_)
                  · rw [if_pos hc121] at h61
                    refine C_seq ?_
                    refine C_region ?_
                    refine V_y (Y_move rfl) rfl rfl rfl ?_
                    refine V_y (Y_assign rfl) rfl rfl rfl ?_
                    refine V_to (fun _ _ => rfl) ?_
                    obtain rfl := Option.some.inj h61
                    obtain rfl := (h62 : Lp.rt _ = _)
                    rw [Lp.andThen_rt] at hm
                    obtain rfl := Option.some.inj hm
                    refine C_ret ?_
                    try simp only [↓inBlock_ret, ↓then_ret]
                    exact retQ rfl (Res.one Tryd.results8 rfl) ⟨rfl, hK.kp⟩
                  · rw [if_neg (nt hc121)] at h61
                    refine C_skip_to (fun _ _ => rfl) ?_
                    refine C_region ?_
                    refine V_y (Y_addI rfl rfl) rfl rfl rfl ?_
                    refine V_y (Y_move rfl) rfl rfl rfl ?_
                    obtain rfl := Option.some.inj h61
                    refine V_end (fun a ha122 => ?_)
                    exact ⟨(), hlt64, h62, ⟨A58, ha122.sub ⟨rfl, rfl, rfl, (congrArg (fun z => some (Value.int .i64 z)) (w64_succ hlt64 hn67)), trivial⟩, ⟨hH, hr49⟩⟩⟩
          · refine C_exit (fun a ha123 => ?_)
            exact ⟨((), A58), ha123.sub trivial, ⟨(h65 (eq_of_dec hle63 hc68)).symm, hH, hr49⟩⟩
        rintro ⟨s48, A54⟩ w51 ⟨rfl, hH55, hk52⟩ a ha53
        rw [Lp.andThen_fin] at hm
        replace hK := Tr.trans hK hk52
        replace hB := Nat.le_trans hB hk52.ex.size
        replace hA := hk52.new
        replace hH : Hp w.heap.size A54 w51 ([]) := hH55
        refine C_at (n := ⟨74, [], none⟩) (fun _ _ => rfl) ?_ ha53
        refine C_seq ?_
        refine C_region ?_
        refine V_y (Y_assign rfl) rfl rfl rfl ?_
        refine V_to (fun _ _ => rfl) ?_
        obtain rfl := Option.some.inj hm
        refine C_ret ?_
        try simp only [↓inBlock_ret, ↓then_ret]
        exact retQ rfl (Res.one Tryd.results8 rfl) ⟨rfl, hK.kp⟩

def Tryd_strings_Join_lay_ren : Go.Shelf.Ren := ⟨fun | 156 => 29 | 165 => 43 | 166 => 18 | 169 => 22 | 240 => 37 | 241 => 50 | 276 => 47 | 277 => 56 | n => n, fun | 0 => 0 | 1 => 1 | 2 => 2 | 3 => 3 | 4 => 4 | 5 => 5 | 6 => 6 | 7 => 7 | 8 => 8 | 9 => 9 | 10 => 10 | 11 => 11 | 12 => 12 | 13 => 13 | 14 => 14 | 15 => 15 | 16 => 16 | 17 => 17 | 18 => 18 | 19 => 19 | 20 => 20 | 21 => 21 | 23 => 92 | 27 => 128 | 28 => 46 | 31 => 70 | 37 => 43 | 40 => 127 | 41 => 114 | 43 => 85 | 46 => 112 | 47 => 113 | 51 => 110 | 52 => 118 | 53 => 94 | 54 => 95 | 55 => 126 | 63 => 117 | 64 => 119 | 67 => 73 | 70 => 42 | 71 => 44 | 72 => 45 | 73 => 86 | 74 => 47 | 75 => 48 | 76 => 49 | 77 => 50 | 78 => 52 | 80 => 61 | 81 => 60 | 83 => 51 | 84 => 91 | 104 => 87 | 105 => 115 | 106 => 116 | 111 => 79 | 114 => 107 | 115 => 101 | 116 => 102 | 117 => 103 | 118 => 104 | 119 => 122 | 122 => 100 | 123 => 105 | 124 => 106 | 127 => 82 | 137 => 123 | 138 => 124 | 139 => 125 | 164 => 89 | 165 => 90 | 166 => 99 | 171 => 93 | 172 => 96 | 173 => 97 | 174 => 98 | 211 => 108 | 212 => 109 | 213 => 111 | 232 => 120 | 233 => 121 | 238 => 129 | 239 => 130 | 240 => 131 | 241 => 132 | 242 => 133 | 243 => 134 | 244 => 135 | 245 => 136 | 246 => 137 | 247 => 138 | 248 => 139 | 249 => 140 | n => n, fun | 1 => 1 | 3 => 4 | 4 => 5 | 17 => 0 | 18 => 2 | 19 => 3 | n => n⟩
theorem Tryd_strings_Join_lay : Go.Proofs.Lays.n156 Tryd.prog Tryd_strings_Join_lay_ren := {
  mixed := by kernel_rfl,
  f156 := Tryd.func29.trans (congrArg some (by kernel_rfl)),
  f165 := Tryd.func43.trans (congrArg some (by kernel_rfl)),
  f166 := Tryd.func18.trans (congrArg some (by kernel_rfl)),
  f169 := Tryd.func22.trans (congrArg some (by kernel_rfl)),
  f240 := Tryd.func37.trans (congrArg some (by kernel_rfl)),
  f241 := Tryd.func50.trans (congrArg some (by kernel_rfl)),
  f276 := Tryd.func47.trans (congrArg some (by kernel_rfl)),
  f277 := Tryd.func56.trans (congrArg some (by kernel_rfl)),
  t0 := Tryd.underlying0,
  a0 := Tryd.isAgg0,
  z0 := Tryd.sizeOf0,
  v0 := Tryd.zeroValue0,
  t3 := Tryd.underlying3,
  a3 := Tryd.isAgg3,
  z3 := Tryd.sizeOf3,
  v3 := Tryd.zeroValue3,
  t4 := Tryd.underlying4,
  a4 := Tryd.isAgg4,
  z4 := Tryd.sizeOf4,
  v4 := Tryd.zeroValue4,
  t9 := Tryd.underlying9,
  a9 := Tryd.isAgg9,
  z9 := Tryd.sizeOf9,
  v9 := Tryd.zeroValue9,
  t20 := Tryd.underlying20,
  a20 := Tryd.isAgg20,
  z20 := Tryd.sizeOf20,
  v20 := Tryd.zeroValue20,
  t31 := Tryd.underlying70,
  a31 := Tryd.isAgg70,
  z31 := Tryd.sizeOf70,
  v31 := Tryd.zeroValue70,
  t37 := Tryd.underlying43,
  a37 := Tryd.isAgg43,
  z37 := Tryd.sizeOf43,
  v37 := Tryd.zeroValue43,
  t70 := Tryd.underlying42,
  a70 := Tryd.isAgg42,
  z70 := Tryd.sizeOf42,
  v70 := Tryd.zeroValue42,
  t72 := Tryd.underlying45,
  a72 := Tryd.isAgg45,
  z72 := Tryd.sizeOf45,
  v72 := Tryd.zeroValue45,
  t75 := Tryd.underlying48,
  a75 := Tryd.isAgg48,
  z75 := Tryd.sizeOf48,
  v75 := Tryd.zeroValue48,
  t76 := Tryd.underlying49,
  a76 := Tryd.isAgg49,
  z76 := Tryd.sizeOf49,
  v76 := Tryd.zeroValue49,
  t127 := Tryd.underlying82,
  a127 := Tryd.isAgg82,
  z127 := Tryd.sizeOf82,
  v127 := Tryd.zeroValue82,
  t164 := Tryd.underlying89,
  a164 := Tryd.isAgg89,
  z164 := Tryd.sizeOf89,
  v164 := Tryd.zeroValue89 }
theorem Tryd_strings_Join_lay_x : Go.Proofs.Builder.Extra Tryd.prog Tryd_strings_Join_lay_ren := {
  sizeBuilder := by kernel_rfl
  liesBuilder := by kernel_rfl
  t5 := Tryd.underlying5
  a5 := Tryd.isAgg5
  z5 := Tryd.sizeOf5
  v5 := Tryd.zeroValue5
  infoByte := by kernel_rfl
  cellsByte := by kernel_rfl
  sizeByte := by kernel_rfl
  neB5 := (by decide : (45 : Nat) ≠ 5) }
theorem strings_Join_c (w : World) {A : Nat → Prop} (hA : ∀ b, w.heap.size ≤ b → A b) (elems : List ByteArray) (v_e : Value) (h_e : Sl A w v_e elems) (sep : ByteArray) {r : ByteArray} (hm : strings_Join elems sep = some r) : Ret Tryd.prog 29 #[v_e, .string sep] w fun v w' => v = .string r ∧ Kp w w' := by
  unfold strings_Join at hm
  split at hm
  case isFalse => cases hm
  rename_i h
  obtain rfl := Option.some.inj hm
  exact join_wrap h_e (fun a c => Go.Proofs.Any.strings_Join_none Tryd_strings_Join_lay Tryd_strings_Join_lay_x a c sep w) (fun bk o c h1 h2 h3 => Go.Proofs.Any.strings_Join Tryd_strings_Join_lay Tryd_strings_Join_lay_x bk o c elems sep w h1 h2 h.1 h3 h.2)

set_option maxRecDepth 4000 in
set_option maxHeartbeats 4000000 in
theorem portref2_line_c (w : World) {A : Nat → Prop} (hA : ∀ b, w.heap.size ≤ b → A b) (hT : Tb Tryd.prog A w) (words : (List AnyV)) (v_words : Value) (h_words : Sl A w v_words words) {r : ByteArray} (hm : portref2_line words = some r) : Ret Tryd.prog 23 #[v_words] w fun v w' => v = .string r ∧ Kp w w' := by
  unfold portref2_line at hm
  refine enter Tryd.func23 rfl Tryd.ntmps23 rfl ?_
  have hA0 := hA
  have hB := Nat.le_refl w.heap.size
  have hK : Tr w.heap.size A w A w := Tr.refl hA
  have hH : Hp w.heap.size A w [] := Hp.nil
  refine C_seq ?_
  refine C_region ?_
  refine V_y (Y_assign rfl) rfl rfl rfl ?_
  refine V_to (fun _ _ => rfl) ?_
  refine C_seq ?_
  refine C_region ?_
  refine V_y (Y_assign rfl) rfl rfl rfl ?_
  refine V_to (fun _ _ => rfl) ?_
  refine C_seq ?_
  refine C_seq ?_
  refine C_region ?_
  refine V_y (Y_move rfl) rfl rfl rfl ?_
  refine V_y (Y_lenSl h_words rfl Tryd.underlying63 rfl) rfl rfl rfl ?_
  refine V_y (Y_move rfl) rfl rfl rfl ?_
  refine V_to (fun _ _ => rfl) ?_
  replace hH : Hp w.heap.size A w (obS (α := ByteArray) 9 (.slice none 0 0) ([] : (List ByteArray)) :: []) := Hp.addNil (α := ByteArray) (e := 9) hH
  have hn27 := Sl.le h_words
  obtain ⟨o3, ho3, hm⟩ := Option.bind_eq_some_iff.1 hm
  refine C_cutG (ι := ((List ByteArray) × Value × (Nat → Prop))) (fun ⟨s4, v10, A12⟩ => [(3, v10)]) (fun ⟨s4, v10, A12⟩ => fun w' => o3 = .fin s4 ∧ Hp w.heap.size A12 w' (obS (α := ByteArray) 9 v10 s4 :: []) ∧ Tr w.heap.size A w A12 w') ?_ ?_
  · refine C_block ?_
    refine C_range ho3 (fun k6 s14 a w' => ∃ i : (Value × (Nat → Prop)), Has ⟨34, [], none⟩ a ([(3, i.1), (8, v_words), (9, .int .i64 (words.length : Int)), (10, .int .i64 (k6 : Int))]) ∧ Hp w.heap.size i.2 w' (obS (α := ByteArray) 9 i.1 s14 :: []) ∧ Tr w.heap.size A w i.2 w') (fun a ha => ⟨(.slice none 0 0, A), ha.sub ⟨rfl, rfl, rfl, rfl, trivial⟩, ⟨hH, Tr.refl hA⟩⟩) ?_
    rintro K k6 s14 a w15 ⟨⟨v16, A18⟩, ha109, hH19, hr5⟩ hle23 K26 h25
    refine C_of ?_ ha109
    replace h_words := Sl.tr h_words hr5
    replace hK := Tr.trans hK hr5
    replace hB := Nat.le_trans hB hr5.ex.size
    replace hA := hr5.new
    replace hH : Hp w.heap.size A18 w15 (obS (α := ByteArray) 9 v16 s14 :: []) := hH19
    refine C_seq (C_region (V_y (Y_lss rfl rfl) rfl rfl rfl (V_to (fun _ _ => rfl) ?_)))
    refine C_seq ?_
    refine C_cond rfl (fun hc28 => ?_) (fun hc28 => ?_)
    · have hlt24 := lt_of_dec hc28
      obtain ⟨x20, h21, h22⟩ := K26 hlt24
      refine C_skip_to (fun _ _ => rfl) ?_
      refine C_seq ?_
      obtain ⟨s30, ho29, h21⟩ := Option.bind_eq_some_iff.1 h21
      refine C_cutG (ι := (Value × (Nat → Prop))) (fun ⟨v32, A37⟩ => [(3, v32), (8, v_words), (9, .int .i64 (words.length : Int)), (10, .int .i64 (k6 : Int))]) (fun ⟨v32, A37⟩ => fun w' => Hp w.heap.size A37 w' (obS (α := ByteArray) 9 v32 s30 :: []) ∧ Tr w.heap.size A18 w15 A37 w') ?_ ?_
      · have hr31 : Tr w.heap.size A18 w15 A18 w15 := Tr.refl hA
        refine C_block ?_
        refine C_seq ?_
        refine C_region ?_
        obtain ⟨x39, hx39, ho29⟩ := Option.bind_eq_some_iff.1 ho29
        refine V_indexAddr h_words hx39 Tryd.underlying63 Tryd.sizeOf20 rfl rfl rfl ?_
        intro b40 o41 h42
        refine V_y (Y_load (El.anyv h42) Tryd.isAgg20 rfl) rfl rfl rfl ?_
        refine V_y (Y_assign rfl) rfl rfl rfl ?_
        refine V_to (fun _ _ => rfl) ?_
        refine C_seq ?_
        refine C_region ?_
        refine V_y (Y_move rfl) rfl rfl rfl ?_
        refine V_to (fun _ _ => rfl) ?_
        obtain ⟨s44, ho43, ho29⟩ := Option.bind_eq_some_iff.1 ho29
        refine C_cutG (ι := (Value × (Nat → Prop))) (fun ⟨v46, A51⟩ => [(3, v46), (8, v_words), (9, .int .i64 (words.length : Int)), (10, .int .i64 (k6 : Int))]) (fun ⟨v46, A51⟩ => fun w' => Hp w.heap.size A51 w' (obS (α := ByteArray) 9 v46 s44 :: []) ∧ Tr w.heap.size A18 w15 A51 w') ?_ ?_
        · have hr45 : Tr w.heap.size A18 w15 A18 w15 := Tr.refl hA
          refine C_block ?_
          refine C_seq ?_
          refine C_region ?_
          refine V_y (Y_asStr (ti := 3) Tryd.underlying9 Tryd.zeroValue9 (by decide) rfl) rfl rfl rfl ?_
          refine V_y (Y_extract rfl rfl) rfl rfl rfl ?_
          refine V_y (Y_extract rfl rfl) rfl rfl rfl ?_
          refine V_to (fun _ _ => rfl) ?_
          obtain ⟨s54, ho53, ho43⟩ := Option.bind_eq_some_iff.1 ho43
          refine C_cutG (ι := (Value × (Nat → Prop))) (fun ⟨v56, A61⟩ => [(3, v56), (8, v_words), (9, .int .i64 (words.length : Int)), (10, .int .i64 (k6 : Int))]) (fun ⟨v56, A61⟩ => fun w' => Hp w.heap.size A61 w' (obS (α := ByteArray) 9 v56 s54 :: []) ∧ Tr w.heap.size A18 w15 A61 w') ?_ ?_
          · have hr55 : Tr w.heap.size A18 w15 A18 w15 := Tr.refl hA
            refine C_cond rfl (fun hc63 => ?_) (fun hc63 => ?_)
            · rw [if_pos hc63] at ho53
              refine C_seq ?_
              refine C_region ?_
              refine V_y (Y_assign rfl) rfl rfl rfl ?_
              refine V_to (fun _ _ => rfl) ?_
              refine C_region ?_
              refine V_y (Y_move rfl) rfl rfl rfl ?_
              refine V_y (Y_move rfl) rfl rfl rfl ?_
              refine V_buildSlice (l := ([x39.asStr.1] : List ByteArray)) (len := 1) Tryd.underlying70 Tryd.sizeOf9 Tryd.zeroValue9 rfl (by with_unfolding_all rfl) (by decide) (by decide) hA ⟨[.string x39.asStr.1], _, rfl, rfl, rfl⟩ rfl rfl ?_
              intro v64 w65 hk67 h66
              have ht68 := Kp.tr hk67 hA hB
              replace hH := Hp.kp hH hk67
              replace h_words := Sl.tr h_words ht68
              replace hK := Tr.trans hK ht68
              replace hr5 := Tr.trans hr5 ht68
              replace hr31 := Tr.trans hr31 ht68
              replace hr45 := Tr.trans hr45 ht68
              replace hr55 := Tr.trans hr55 ht68
              replace hB := Nat.le_trans hB ht68.ex.size
              replace hA := ht68.new
              obtain ⟨x69, hx69, ho53⟩ := Option.bind_eq_some_iff.1 ho53
              refine V_appendH (e := 9) (v := v16) (l := s14) (ti := Tryd.t9) (bytes := 16) (lim := 8796093022208) hH (i := 0) rfl h66 hx69 Tryd.underlying70 Tryd_info9 rfl rfl rfl rfl (by decide) (by decide) (by decide) hB hA rfl rfl rfl ?_
              intro v70 w71 A72 hH73 ht74
              replace h_words := Sl.tr h_words ht74
              replace h66 := Sl.tr h66 ht74
              replace hK := Tr.trans hK ht74
              replace hr5 := Tr.trans hr5 ht74
              replace hr31 := Tr.trans hr31 ht74
              replace hr45 := Tr.trans hr45 ht74
              replace hr55 := Tr.trans hr55 ht74
              replace hB := Nat.le_trans hB ht74.ex.size
              replace hA := ht74.new
              replace hH : Hp w.heap.size A72 w71 (obS (α := ByteArray) 9 v70 x69 :: []) := hH73
              refine V_y (Y_assign rfl) rfl rfl rfl ?_
              obtain rfl := Option.some.inj ho53
              refine V_end (fun a ha75 => ?_)
              exact ⟨(v70, A72), ha75.sub ⟨rfl, rfl, rfl, rfl, trivial⟩, ⟨hH, hr55⟩⟩
            · rw [if_neg (nt hc63)] at ho53
              refine C_seq ?_
              refine C_region ?_
              refine V_y (Y_asInt (ts := 9) Tryd.underlying3 Tryd.zeroValue3 (by decide) rfl) rfl rfl rfl ?_
              refine V_y (Y_extract rfl rfl) rfl rfl rfl ?_
              refine V_y (Y_extract rfl rfl) rfl rfl rfl ?_
              refine V_to (fun _ _ => rfl) ?_
              obtain ⟨s77, ho76, ho53⟩ := Option.bind_eq_some_iff.1 ho53
              refine C_cutG (ι := (Value × (Nat → Prop))) (fun ⟨v79, A84⟩ => [(3, v79), (8, v_words), (9, .int .i64 (words.length : Int)), (10, .int .i64 (k6 : Int))]) (fun ⟨v79, A84⟩ => fun w' => Hp w.heap.size A84 w' (obS (α := ByteArray) 9 v79 s77 :: []) ∧ Tr w.heap.size A18 w15 A84 w') ?_ ?_
              · have hr78 : Tr w.heap.size A18 w15 A18 w15 := Tr.refl hA
                refine C_cond rfl (fun hc86 => ?_) (fun hc86 => ?_)
                · rw [if_pos hc86] at ho76
                  refine C_seq ?_
                  refine C_region ?_
                  refine V_y (Y_assign rfl) rfl rfl rfl ?_
                  refine V_to (fun _ _ => rfl) ?_
                  refine C_region ?_
                  refine V_y (Y_move rfl) rfl rfl rfl ?_
                  refine V_y (Y_move rfl) rfl rfl rfl ?_
                  obtain ⟨x87, hx87, ho76⟩ := Option.bind_eq_some_iff.1 ho76
                  refine V_call Tryd.call19 rfl rfl rfl rfl (strconv_Itoa_c w15 hA (Tb.tr hT hK) x39.asInt.1 hx87) ?_
                  rintro _ w88 ⟨rfl, hk89⟩
                  have ht90 := Kp.tr hk89 hA hB
                  replace hH := Hp.kp hH hk89
                  replace h_words := Sl.tr h_words ht90
                  replace hK := Tr.trans hK ht90
                  replace hr5 := Tr.trans hr5 ht90
                  replace hr31 := Tr.trans hr31 ht90
                  replace hr45 := Tr.trans hr45 ht90
                  replace hr55 := Tr.trans hr55 ht90
                  replace hr78 := Tr.trans hr78 ht90
                  replace hB := Nat.le_trans hB ht90.ex.size
                  replace hA := ht90.new
                  refine V_buildSlice (l := ([x87] : List ByteArray)) (len := 1) Tryd.underlying70 Tryd.sizeOf9 Tryd.zeroValue9 rfl (by with_unfolding_all rfl) (by decide) (by decide) hA ⟨[.string x87], _, rfl, rfl, rfl⟩ rfl rfl ?_
                  intro v91 w92 hk94 h93
                  have ht95 := Kp.tr hk94 hA hB
                  replace hH := Hp.kp hH hk94
                  replace h_words := Sl.tr h_words ht95
                  replace hK := Tr.trans hK ht95
                  replace hr5 := Tr.trans hr5 ht95
                  replace hr31 := Tr.trans hr31 ht95
                  replace hr45 := Tr.trans hr45 ht95
                  replace hr55 := Tr.trans hr55 ht95
                  replace hr78 := Tr.trans hr78 ht95
                  replace hB := Nat.le_trans hB ht95.ex.size
                  replace hA := ht95.new
                  obtain ⟨x96, hx96, ho76⟩ := Option.bind_eq_some_iff.1 ho76
                  refine V_appendH (e := 9) (v := v16) (l := s14) (ti := Tryd.t9) (bytes := 16) (lim := 8796093022208) hH (i := 0) rfl h93 hx96 Tryd.underlying70 Tryd_info9 rfl rfl rfl rfl (by decide) (by decide) (by decide) hB hA rfl rfl rfl ?_
                  intro v97 w98 A99 hH100 ht101
                  replace h_words := Sl.tr h_words ht101
                  replace h93 := Sl.tr h93 ht101
                  replace hK := Tr.trans hK ht101
                  replace hr5 := Tr.trans hr5 ht101
                  replace hr31 := Tr.trans hr31 ht101
                  replace hr45 := Tr.trans hr45 ht101
                  replace hr55 := Tr.trans hr55 ht101
                  replace hr78 := Tr.trans hr78 ht101
                  replace hB := Nat.le_trans hB ht101.ex.size
                  replace hA := ht101.new
                  replace hH : Hp w.heap.size A99 w98 (obS (α := ByteArray) 9 v97 x96 :: []) := hH100
                  refine V_y (Y_assign rfl) rfl rfl rfl ?_
                  obtain rfl := Option.some.inj ho76
                  refine V_end (fun a ha102 => ?_)
                  exact ⟨(v97, A99), ha102.sub ⟨rfl, rfl, rfl, rfl, trivial⟩, ⟨hH, hr78⟩⟩
                · rw [if_neg (nt hc86)] at ho76
                  obtain rfl := Option.some.inj ho76
                  refine C_skip (fun a ha103 => ?_)
                  exact ⟨(v16, A18), ha103.sub ⟨rfl, rfl, rfl, rfl, trivial⟩, ⟨hH, hr78⟩⟩
              rintro ⟨v79, A84⟩ w81 ⟨hH85, hk82⟩ a ha83
              replace h_words := Sl.tr h_words hk82
              replace hK := Tr.trans hK hk82
              replace hr5 := Tr.trans hr5 hk82
              replace hr31 := Tr.trans hr31 hk82
              replace hr45 := Tr.trans hr45 hk82
              replace hr55 := Tr.trans hr55 hk82
              replace hB := Nat.le_trans hB hk82.ex.size
              replace hA := hk82.new
              replace hH : Hp w.heap.size A84 w81 (obS (α := ByteArray) 9 v79 s77 :: []) := hH85
              obtain rfl := Option.some.inj ho53
              exact ⟨(v79, A84), ha83.sub ⟨rfl, rfl, rfl, rfl, trivial⟩, ⟨hH, hr55⟩⟩
          rintro ⟨v56, A61⟩ w58 ⟨hH62, hk59⟩ a ha60
          replace h_words := Sl.tr h_words hk59
          replace hK := Tr.trans hK hk59
          replace hr5 := Tr.trans hr5 hk59
          replace hr31 := Tr.trans hr31 hk59
          replace hr45 := Tr.trans hr45 hk59
          replace hB := Nat.le_trans hB hk59.ex.size
          replace hA := hk59.new
          replace hH : Hp w.heap.size A61 w58 (obS (α := ByteArray) 9 v56 s54 :: []) := hH62
          obtain rfl := Option.some.inj ho43
          exact ⟨(v56, A61), ha60.sub ⟨rfl, rfl, rfl, rfl, trivial⟩, ⟨hH, hr45⟩⟩
        rintro ⟨v46, A51⟩ w48 ⟨hH52, hk49⟩ a ha50
        replace h_words := Sl.tr h_words hk49
        replace hK := Tr.trans hK hk49
        replace hr5 := Tr.trans hr5 hk49
        replace hr31 := Tr.trans hr31 hk49
        replace hB := Nat.le_trans hB hk49.ex.size
        replace hA := hk49.new
        replace hH : Hp w.heap.size A51 w48 (obS (α := ByteArray) 9 v46 s44 :: []) := hH52
        obtain rfl := Option.some.inj ho29
        exact ⟨(v46, A51), ha50.sub ⟨rfl, rfl, rfl, rfl, trivial⟩, ⟨hH, hr31⟩⟩
      rintro ⟨v32, A37⟩ w34 ⟨hH38, hk35⟩ a ha36
      replace h_words := Sl.tr h_words hk35
      replace hK := Tr.trans hK hk35
      replace hr5 := Tr.trans hr5 hk35
      replace hB := Nat.le_trans hB hk35.ex.size
      replace hA := hk35.new
      replace hH : Hp w.heap.size A37 w34 (obS (α := ByteArray) 9 v32 s30 :: []) := hH38
      refine C_at (n := ⟨34, [], none⟩) (fun _ _ => rfl) ?_ ha36
      refine C_region ?_
      refine V_y (Y_addI rfl rfl) rfl rfl rfl ?_
      refine V_y (Y_move rfl) rfl rfl rfl ?_
      obtain rfl := Option.some.inj h21
      refine V_end (fun a ha107 => ?_)
      exact ⟨s30, hlt24, h22, ⟨(v32, A37), ha107.sub ⟨rfl, rfl, rfl, (congrArg (fun z => some (Value.int .i64 z)) (w64_succ hlt24 hn27)), trivial⟩, ⟨hH, hr5⟩⟩⟩
    · refine C_exit (fun a ha108 => ?_)
      exact ⟨(s14, v16, A18), ha108.sub ⟨rfl, trivial⟩, ⟨(h25 (eq_of_dec hle23 hc28)).symm, hH, hr5⟩⟩
  rintro ⟨s4, v10, A12⟩ w7 ⟨rfl, hH13, hk8⟩ a ha9
  rw [Lp.andThen_fin] at hm
  replace hK := Tr.trans hK hk8
  replace hB := Nat.le_trans hB hk8.ex.size
  replace hA := hk8.new
  replace hH : Hp w.heap.size A12 w7 (obS (α := ByteArray) 9 v10 s4 :: []) := hH13
  refine C_at (n := ⟨34, [], none⟩) (fun _ _ => rfl) ?_ ha9
  refine C_seq ?_
  refine C_region ?_
  refine V_y (Y_move rfl) rfl rfl rfl ?_
  obtain ⟨x110, hx110, hm⟩ := Option.bind_eq_some_iff.1 hm
  refine V_call Tryd.call29 rfl rfl rfl rfl (strings_Join_c w7 (A := fun _ => True) (fun _ _ => trivial) s4 v10 (Hp.any (α := ByteArray) (e := 9) (v := v10) (l := s4) hH (i := 0) rfl) (⟨#[32]⟩ : ByteArray) hx110) ?_
  rintro _ w111 ⟨rfl, hk112⟩
  have ht113 := Kp.tr hk112 hA hB
  replace hH := Hp.kp hH hk112
  replace hK := Tr.trans hK ht113
  replace hB := Nat.le_trans hB ht113.ex.size
  replace hA := ht113.new
  obtain ⟨x114, hx114, hm⟩ := Option.bind_eq_some_iff.1 hm
  refine V_y (Y_sadd hx114 rfl rfl) rfl rfl rfl ?_
  refine V_y (Y_assign rfl) rfl rfl rfl ?_
  refine V_to (fun _ _ => rfl) ?_
  obtain rfl := Option.some.inj hm
  refine C_ret ?_
  try simp only [↓inBlock_ret, ↓then_ret]
  exact retQ rfl (Res.one Tryd.results23 rfl) ⟨rfl, hK.kp⟩

set_option maxRecDepth 4000 in
set_option maxHeartbeats 4000000 in
theorem portref2_CalendarString_c (w : World) {A : Nat → Prop} (hA : ∀ b, w.heap.size ≤ b → A b) (hT : Tb Tryd.prog A w) (c : cal_Calendar) (v_c0 : Value) (h_c0 : Sl A w v_c0 c.zone.changes) (v_c1 : Value) (h_c1 : Sl A w v_c1 c.week) (v_c2 : Value) (h_c2 : Sl A w v_c2 c.specials) {r : (ByteArray × Int)} (hm : portref2_CalendarString c = some r) : Ret Tryd.prog 6 #[.agg #[.int .i64 c.zone.offset, v_c0, v_c1, v_c2]] w fun v w' => v = .tuple #[.string r.1, .int .i64 r.2] ∧ Kp w w' := by
  unfold portref2_CalendarString at hm
  refine enter Tryd.func6 rfl Tryd.ntmps6 rfl ?_
  have hA0 := hA
  have hB := Nat.le_refl w.heap.size
  have hK : Tr w.heap.size A w A w := Tr.refl hA
  have hH : Hp w.heap.size A w [] := Hp.nil
  refine C_seq ?_
  refine C_region ?_
  refine V_box rfl rfl ?_
  intro b7 w9 h10
  have hk12 := h10.kp
  have h11 : El (α := cal_Calendar) A w9 b7 0 c := h10.el hA ⟨[.int .i64 c.zone.offset, v_c0], _, rfl, ⟨[.int .i64 c.zone.offset], _, rfl, rfl, ⟨_, rfl, h_c0⟩⟩, ⟨[v_c1], _, rfl, ⟨_, rfl, h_c1⟩, ⟨_, rfl, h_c2⟩⟩⟩
  have ht13 := Kp.tr hk12 hA hB
  replace hH := Hp.kp hH hk12
  replace h_c0 := Sl.tr h_c0 ht13
  replace h_c1 := Sl.tr h_c1 ht13
  replace h_c2 := Sl.tr h_c2 ht13
  replace hK := Tr.trans hK ht13
  replace hB := Nat.le_trans hB ht13.ex.size
  replace hA := ht13.new
  refine V_y (Y_assign rfl) rfl rfl rfl ?_
  refine V_y (Y_assign rfl) rfl rfl rfl ?_
  refine V_to (fun _ _ => rfl) ?_
  refine C_seq ?_
  refine C_seq ?_
  refine C_region ?_
  obtain ⟨v14, v16, v18, h20, h15, h17, h19⟩ := El_cal_Calendar h11
  refine V_y (Y_loadA h20 Tryd.isAgg28 Tryd.sizeOf28 rfl) rfl rfl rfl ?_
  obtain ⟨x21, hx21, hm⟩ := Option.bind_eq_some_iff.1 hm
  refine V_call Tryd.call8 rfl rfl rfl rfl (portref2_CalendarFault_c w9 hA c v14 h15 v16 h17 v18 h19 hx21) ?_
  rintro _ w22 ⟨rfl, hk23⟩
  have ht24 := Kp.tr hk23 hA hB
  replace hH := Hp.kp hH hk23
  replace h11 := El.tr h11 ht24
  replace h15 := Sl.tr h15 ht24
  replace h17 := Sl.tr h17 ht24
  replace h19 := Sl.tr h19 ht24
  replace hK := Tr.trans hK ht24
  replace hB := Nat.le_trans hB ht24.ex.size
  replace hA := ht24.new
  refine V_y (Y_assign rfl) rfl rfl rfl ?_
  refine V_to (fun _ _ => rfl) ?_
  refine C_seq ?_
  refine C_region ?_
  refine V_y (Y_move rfl) rfl rfl rfl ?_
  refine V_y (Y_neq rfl rfl) rfl rfl rfl ?_
  refine V_to (fun _ _ => rfl) ?_
  refine C_cond rfl (fun hc25 => ?_) (fun hc25 => ?_)
  · rw [if_pos hc25] at hm
    refine C_seq ?_
    refine C_region ?_
    refine V_y (Y_move rfl) rfl rfl rfl ?_
    refine V_y (Y_assign rfl) rfl rfl rfl ?_
    refine V_y (Y_assign rfl) rfl rfl rfl ?_
    refine V_to (fun _ _ => rfl) ?_
    obtain rfl := Option.some.inj hm
    refine C_ret ?_
    try simp only [↓inBlock_ret, ↓then_ret]
    exact retQ rfl (Res.two Tryd.results6 rfl rfl) ⟨rfl, hK.kp⟩
  · rw [if_neg (nt hc25)] at hm
    refine C_skip_to (fun _ _ => rfl) ?_
    refine C_seq ?_
    refine C_region ?_
    refine V_y (Y_mkStr (ti := 3) Tryd.underlying9 rfl) rfl rfl rfl ?_
    have h26 := El_cal_Calendar_0 h11
    refine V_y (Y_fieldAddr Tryd.underlying28 rfl Tryd.sizeOf24 (by decide) rfl) rfl rfl rfl ?_
    have h27 := El_cal_Zone_0 h26
    refine V_y (Y_fieldAddr Tryd.underlying24 rfl Tryd.sizeOf3 (by decide) rfl) rfl rfl rfl ?_
    refine V_y (Y_load (El.int h27) Tryd.isAgg3 rfl) rfl rfl rfl ?_
    refine V_y (Y_mkInt (ts := 9) Tryd.underlying3 rfl) rfl rfl rfl ?_
    refine V_buildSlice (l := ([(AnyV.str (⟨#[122, 111, 110, 101]⟩ : ByteArray)), (AnyV.int c.zone.offset)] : List AnyV)) (len := 2) Tryd.underlying63 Tryd.sizeOf20 Tryd.zeroValue20 rfl (by with_unfolding_all rfl) (by decide) (by decide) hA ⟨[AnyV.val 9 3 (AnyV.str (⟨#[122, 111, 110, 101]⟩ : ByteArray))], _, rfl, rfl, ⟨[AnyV.val 9 3 (AnyV.int c.zone.offset)], _, rfl, rfl, rfl⟩⟩ rfl rfl ?_
    intro v28 w29 hk31 h30
    have ht32 := Kp.tr hk31 hA hB
    replace hH := Hp.kp hH hk31
    replace h11 := El.tr h11 ht32
    replace h26 := El.tr h26 ht32
    replace h27 := El.tr h27 ht32
    replace hK := Tr.trans hK ht32
    replace hB := Nat.le_trans hB ht32.ex.size
    replace hA := ht32.new
    obtain ⟨x33, hx33, hm⟩ := Option.bind_eq_some_iff.1 hm
    refine V_call Tryd.call23 rfl rfl rfl rfl (portref2_line_c w29 hA (Tb.tr hT hK) ([(AnyV.str (⟨#[122, 111, 110, 101]⟩ : ByteArray)), (AnyV.int c.zone.offset)] : List AnyV) v28 h30 hx33) ?_
    rintro _ w34 ⟨rfl, hk35⟩
    have ht36 := Kp.tr hk35 hA hB
    replace hH := Hp.kp hH hk35
    replace h11 := El.tr h11 ht36
    replace h26 := El.tr h26 ht36
    replace h27 := El.tr h27 ht36
    replace h30 := Sl.tr h30 ht36
    replace hK := Tr.trans hK ht36
    replace hB := Nat.le_trans hB ht36.ex.size
    replace hA := ht36.new
    refine V_y (Y_assign rfl) rfl rfl rfl ?_
    refine V_to (fun _ _ => rfl) ?_
    refine C_seq ?_
    refine C_seq ?_
    refine C_region ?_
    have h37 := El_cal_Calendar_0 h11
    refine V_y (Y_fieldAddr Tryd.underlying28 rfl Tryd.sizeOf24 (by decide) rfl) rfl rfl rfl ?_
    have h38 := El_cal_Zone_1 h37
    refine V_y (Y_fieldAddr Tryd.underlying24 rfl Tryd.sizeOf22 (by decide) rfl) rfl rfl rfl ?_
    obtain ⟨v39, h40, h41⟩ := El.list h38
    refine V_y (Y_load h40 Tryd.isAgg22 rfl) rfl rfl rfl ?_
    refine V_y (Y_lenSl h41 rfl Tryd.underlying22 rfl) rfl rfl rfl ?_
    refine V_y (Y_move rfl) rfl rfl rfl ?_
    refine V_to (fun _ _ => rfl) ?_
    have hn62 := Sl.le h41
    obtain ⟨o42, ho42, hm⟩ := Option.bind_eq_some_iff.1 hm
    refine C_cutG (ι := (ByteArray × (Nat → Prop))) (fun ⟨s43, A49⟩ => [(1, .pointer (some ⟨b7, 0, none⟩)), (5, .string s43)]) (fun ⟨s43, A49⟩ => fun w' => o42 = .fin s43 ∧ Hp w.heap.size A49 w' ([]) ∧ Tr w.heap.size A w34 A49 w') ?_ ?_
    · refine C_block ?_
      refine C_range ho42 (fun k45 s51 a w' => ∃ i : (Nat → Prop), Has ⟨107, [], none⟩ a ([(1, .pointer (some ⟨b7, 0, none⟩)), (5, .string s51), (29, v39), (30, .int .i64 (c.zone.changes.length : Int)), (31, .int .i64 (k45 : Int))]) ∧ Hp w.heap.size i w' ([]) ∧ Tr w.heap.size A w34 i w') (fun a ha => ⟨A, ha.sub ⟨rfl, rfl, rfl, rfl, rfl, trivial⟩, ⟨hH, Tr.refl hA⟩⟩) ?_
      rintro K k45 s51 a w52 ⟨A53, ha91, hH54, hr44⟩ hle58 K61 h60
      refine C_of ?_ ha91
      replace h11 := El.tr h11 hr44
      replace h41 := Sl.tr h41 hr44
      replace hK := Tr.trans hK hr44
      replace hB := Nat.le_trans hB hr44.ex.size
      replace hA := hr44.new
      replace hH : Hp w.heap.size A53 w52 ([]) := hH54
      refine C_seq (C_region (V_y (Y_lss rfl rfl) rfl rfl rfl (V_to (fun _ _ => rfl) ?_)))
      refine C_seq ?_
      refine C_cond rfl (fun hc63 => ?_) (fun hc63 => ?_)
      · have hlt59 := lt_of_dec hc63
        obtain ⟨x55, h56, h57⟩ := K61 hlt59
        refine C_skip_to (fun _ _ => rfl) ?_
        refine C_seq ?_
        refine C_block ?_
        refine C_seq ?_
        refine C_region ?_
        obtain ⟨x64, hx64, h56⟩ := Option.bind_eq_some_iff.1 h56
        refine V_indexAddr h41 hx64 Tryd.underlying22 Tryd.sizeOf55 rfl rfl rfl ?_
        intro b65 o66 h67
        obtain ⟨h68, _⟩ := El_cal_Change h67
        refine V_y (Y_loadA h68 Tryd.isAgg55 Tryd.sizeOf55 rfl) rfl rfl rfl ?_
        refine V_alloc Tryd.zeroValue55 rfl ?_
        intro b69 w70 h71
        refine V_storeNew h71 Tryd.sizeOf55 rfl rfl rfl rfl (by exact (List.forall_mem_cons.2 ⟨rfl, (List.forall_mem_cons.2 ⟨rfl, (fun _ h => nomatch h)⟩)⟩)) ?_
        intro w72 h73
        have hk75 := h73.kp
        have h74 : El (α := cal_Change) A53 w72 b69 0 x64 := h73.el hA ⟨[.int .i64 x64.at_], _, rfl, rfl, rfl⟩
        have ht76 := Kp.tr hk75 hA hB
        replace hH := Hp.kp hH hk75
        replace h11 := El.tr h11 ht76
        replace h41 := Sl.tr h41 ht76
        replace h67 := El.tr h67 ht76
        replace hK := Tr.trans hK ht76
        replace hr44 := Tr.trans hr44 ht76
        replace hB := Nat.le_trans hB ht76.ex.size
        replace hA := ht76.new
        refine V_to (fun _ _ => rfl) ?_
        refine C_region ?_
        refine V_y (Y_move rfl) rfl rfl rfl ?_
        refine V_y (Y_mkStr (ti := 3) Tryd.underlying9 rfl) rfl rfl rfl ?_
        have h77 := El_cal_Change_0 h74
        refine V_y (Y_fieldAddr Tryd.underlying55 rfl Tryd.sizeOf3 (by decide) rfl) rfl rfl rfl ?_
        refine V_y (Y_load (El.int h77) Tryd.isAgg3 rfl) rfl rfl rfl ?_
        refine V_y (Y_mkInt (ts := 9) Tryd.underlying3 rfl) rfl rfl rfl ?_
        have h78 := El_cal_Change_1 h74
        refine V_y (Y_fieldAddr Tryd.underlying55 rfl Tryd.sizeOf3 (by decide) rfl) rfl rfl rfl ?_
        refine V_y (Y_load (El.int h78) Tryd.isAgg3 rfl) rfl rfl rfl ?_
        refine V_y (Y_mkInt (ts := 9) Tryd.underlying3 rfl) rfl rfl rfl ?_
        refine V_buildSlice (l := ([(AnyV.str (⟨#[99, 104, 97, 110, 103, 101]⟩ : ByteArray)), (AnyV.int x64.at_), (AnyV.int x64.offset)] : List AnyV)) (len := 3) Tryd.underlying63 Tryd.sizeOf20 Tryd.zeroValue20 rfl (by with_unfolding_all rfl) (by decide) (by decide) hA ⟨[AnyV.val 9 3 (AnyV.str (⟨#[99, 104, 97, 110, 103, 101]⟩ : ByteArray))], _, rfl, rfl, ⟨[AnyV.val 9 3 (AnyV.int x64.at_)], _, rfl, rfl, ⟨[AnyV.val 9 3 (AnyV.int x64.offset)], _, rfl, rfl, rfl⟩⟩⟩ rfl rfl ?_
        intro v79 w80 hk82 h81
        have ht83 := Kp.tr hk82 hA hB
        replace hH := Hp.kp hH hk82
        replace h11 := El.tr h11 ht83
        replace h41 := Sl.tr h41 ht83
        replace h74 := El.tr h74 ht83
        replace h77 := El.tr h77 ht83
        replace h78 := El.tr h78 ht83
        replace hK := Tr.trans hK ht83
        replace hr44 := Tr.trans hr44 ht83
        replace hB := Nat.le_trans hB ht83.ex.size
        replace hA := ht83.new
        obtain ⟨x84, hx84, h56⟩ := Option.bind_eq_some_iff.1 h56
        refine V_call Tryd.call23 rfl rfl rfl rfl (portref2_line_c w80 hA (Tb.tr hT hK) ([(AnyV.str (⟨#[99, 104, 97, 110, 103, 101]⟩ : ByteArray)), (AnyV.int x64.at_), (AnyV.int x64.offset)] : List AnyV) v79 h81 hx84) ?_
        rintro _ w85 ⟨rfl, hk86⟩
        have ht87 := Kp.tr hk86 hA hB
        replace hH := Hp.kp hH hk86
        replace h11 := El.tr h11 ht87
        replace h41 := Sl.tr h41 ht87
        replace h74 := El.tr h74 ht87
        replace h77 := El.tr h77 ht87
        replace h78 := El.tr h78 ht87
        replace h81 := Sl.tr h81 ht87
        replace hK := Tr.trans hK ht87
        replace hr44 := Tr.trans hr44 ht87
        replace hB := Nat.le_trans hB ht87.ex.size
        replace hA := ht87.new
        obtain ⟨x88, hx88, h56⟩ := Option.bind_eq_some_iff.1 h56
        refine V_y (Y_sadd hx88 rfl rfl) rfl rfl rfl ?_
        refine V_y (Y_assign rfl) rfl rfl rfl ?_
        refine V_to (fun _ _ => rfl) ?_
        refine C_region ?_
        refine V_y (Y_addI rfl rfl) rfl rfl rfl ?_
        refine V_y (Y_move rfl) rfl rfl rfl ?_
        obtain rfl := Option.some.inj h56
        refine V_end (fun a ha89 => ?_)
        exact ⟨x88, hlt59, h57, ⟨A53, ha89.sub ⟨rfl, rfl, rfl, rfl, (congrArg (fun z => some (Value.int .i64 z)) (w64_succ hlt59 hn62)), trivial⟩, ⟨hH, hr44⟩⟩⟩
      · refine C_exit (fun a ha90 => ?_)
        exact ⟨(s51, A53), ha90.sub ⟨rfl, rfl, trivial⟩, ⟨(h60 (eq_of_dec hle58 hc63)).symm, hH, hr44⟩⟩
    rintro ⟨s43, A49⟩ w46 ⟨rfl, hH50, hk47⟩ a ha48
    rw [Lp.andThen_fin] at hm
    replace h11 := El.tr h11 hk47
    replace hK := Tr.trans hK hk47
    replace hB := Nat.le_trans hB hk47.ex.size
    replace hA := hk47.new
    replace hH : Hp w.heap.size A49 w46 ([]) := hH50
    refine C_at (n := ⟨107, [], none⟩) (fun _ _ => rfl) ?_ ha48
    refine C_seq ?_
    refine C_seq ?_
    refine C_region ?_
    have h92 := El_cal_Calendar_1 h11
    refine V_y (Y_fieldAddr Tryd.underlying28 rfl Tryd.sizeOf25 (by decide) rfl) rfl rfl rfl ?_
    obtain ⟨v93, h94, h95⟩ := El.list h92
    refine V_y (Y_load h94 Tryd.isAgg25 rfl) rfl rfl rfl ?_
    refine V_y (Y_lenSl h95 rfl Tryd.underlying25 rfl) rfl rfl rfl ?_
    refine V_y (Y_move rfl) rfl rfl rfl ?_
    refine V_to (fun _ _ => rfl) ?_
    have hn116 := Sl.le h95
    obtain ⟨o96, ho96, hm⟩ := Option.bind_eq_some_iff.1 hm
    refine C_cutG (ι := (ByteArray × (Nat → Prop))) (fun ⟨s97, A103⟩ => [(1, .pointer (some ⟨b7, 0, none⟩)), (5, .string s97)]) (fun ⟨s97, A103⟩ => fun w' => o96 = .fin s97 ∧ Hp w.heap.size A103 w' ([]) ∧ Tr w.heap.size A49 w46 A103 w') ?_ ?_
    · refine C_block ?_
      refine C_range ho96 (fun k99 s105 a w' => ∃ i : (Nat → Prop), Has ⟨107, [], none⟩ a ([(1, .pointer (some ⟨b7, 0, none⟩)), (5, .string s105), (48, v93), (49, .int .i64 (c.week.length : Int)), (50, .int .i64 (k99 : Int))]) ∧ Hp w.heap.size i w' ([]) ∧ Tr w.heap.size A49 w46 i w') (fun a ha => ⟨A49, ha.sub ⟨rfl, rfl, rfl, rfl, rfl, trivial⟩, ⟨hH, Tr.refl hA⟩⟩) ?_
      rintro K k99 s105 a w106 ⟨A107, ha146, hH108, hr98⟩ hle112 K115 h114
      refine C_of ?_ ha146
      replace h11 := El.tr h11 hr98
      replace h95 := Sl.tr h95 hr98
      replace hK := Tr.trans hK hr98
      replace hB := Nat.le_trans hB hr98.ex.size
      replace hA := hr98.new
      replace hH : Hp w.heap.size A107 w106 ([]) := hH108
      refine C_seq (C_region (V_y (Y_lss rfl rfl) rfl rfl rfl (V_to (fun _ _ => rfl) ?_)))
      refine C_seq ?_
      refine C_cond rfl (fun hc117 => ?_) (fun hc117 => ?_)
      · have hlt113 := lt_of_dec hc117
        obtain ⟨x109, h110, h111⟩ := K115 hlt113
        refine C_skip_to (fun _ _ => rfl) ?_
        refine C_seq ?_
        refine C_block ?_
        refine C_seq ?_
        refine C_region ?_
        obtain ⟨x118, hx118, h110⟩ := Option.bind_eq_some_iff.1 h110
        refine V_indexAddr h95 hx118 Tryd.underlying25 Tryd.sizeOf57 rfl rfl rfl ?_
        intro b119 o120 h121
        obtain ⟨h122, _⟩ := El_cal_Shift h121
        refine V_y (Y_loadA h122 Tryd.isAgg57 Tryd.sizeOf57 rfl) rfl rfl rfl ?_
        refine V_alloc Tryd.zeroValue57 rfl ?_
        intro b123 w124 h125
        refine V_storeNew h125 Tryd.sizeOf57 rfl rfl rfl rfl (by exact (List.forall_mem_cons.2 ⟨rfl, (List.forall_mem_cons.2 ⟨rfl, (List.forall_mem_cons.2 ⟨rfl, (fun _ h => nomatch h)⟩)⟩)⟩)) ?_
        intro w126 h127
        have hk129 := h127.kp
        have h128 : El (α := cal_Shift) A107 w126 b123 0 x118 := h127.el hA ⟨[.int .i64 x118.day], _, rfl, rfl, ⟨[.int .i64 x118.from_], _, rfl, rfl, rfl⟩⟩
        have ht130 := Kp.tr hk129 hA hB
        replace hH := Hp.kp hH hk129
        replace h11 := El.tr h11 ht130
        replace h95 := Sl.tr h95 ht130
        replace h121 := El.tr h121 ht130
        replace hK := Tr.trans hK ht130
        replace hr98 := Tr.trans hr98 ht130
        replace hB := Nat.le_trans hB ht130.ex.size
        replace hA := ht130.new
        refine V_to (fun _ _ => rfl) ?_
        refine C_region ?_
        refine V_y (Y_move rfl) rfl rfl rfl ?_
        refine V_y (Y_mkStr (ti := 3) Tryd.underlying9 rfl) rfl rfl rfl ?_
        have h131 := El_cal_Shift_0 h128
        refine V_y (Y_fieldAddr Tryd.underlying57 rfl Tryd.sizeOf3 (by decide) rfl) rfl rfl rfl ?_
        refine V_y (Y_load (El.int h131) Tryd.isAgg3 rfl) rfl rfl rfl ?_
        refine V_y (Y_mkInt (ts := 9) Tryd.underlying3 rfl) rfl rfl rfl ?_
        have h132 := El_cal_Shift_1 h128
        refine V_y (Y_fieldAddr Tryd.underlying57 rfl Tryd.sizeOf3 (by decide) rfl) rfl rfl rfl ?_
        refine V_y (Y_load (El.int h132) Tryd.isAgg3 rfl) rfl rfl rfl ?_
        refine V_y (Y_mkInt (ts := 9) Tryd.underlying3 rfl) rfl rfl rfl ?_
        have h133 := El_cal_Shift_2 h128
        refine V_y (Y_fieldAddr Tryd.underlying57 rfl Tryd.sizeOf3 (by decide) rfl) rfl rfl rfl ?_
        refine V_y (Y_load (El.int h133) Tryd.isAgg3 rfl) rfl rfl rfl ?_
        refine V_y (Y_mkInt (ts := 9) Tryd.underlying3 rfl) rfl rfl rfl ?_
        refine V_buildSlice (l := ([(AnyV.str (⟨#[115, 104, 105, 102, 116]⟩ : ByteArray)), (AnyV.int x118.day), (AnyV.int x118.from_), (AnyV.int x118.to_)] : List AnyV)) (len := 4) Tryd.underlying63 Tryd.sizeOf20 Tryd.zeroValue20 rfl (by with_unfolding_all rfl) (by decide) (by decide) hA ⟨[AnyV.val 9 3 (AnyV.str (⟨#[115, 104, 105, 102, 116]⟩ : ByteArray))], _, rfl, rfl, ⟨[AnyV.val 9 3 (AnyV.int x118.day)], _, rfl, rfl, ⟨[AnyV.val 9 3 (AnyV.int x118.from_)], _, rfl, rfl, ⟨[AnyV.val 9 3 (AnyV.int x118.to_)], _, rfl, rfl, rfl⟩⟩⟩⟩ rfl rfl ?_
        intro v134 w135 hk137 h136
        have ht138 := Kp.tr hk137 hA hB
        replace hH := Hp.kp hH hk137
        replace h11 := El.tr h11 ht138
        replace h95 := Sl.tr h95 ht138
        replace h128 := El.tr h128 ht138
        replace h131 := El.tr h131 ht138
        replace h132 := El.tr h132 ht138
        replace h133 := El.tr h133 ht138
        replace hK := Tr.trans hK ht138
        replace hr98 := Tr.trans hr98 ht138
        replace hB := Nat.le_trans hB ht138.ex.size
        replace hA := ht138.new
        obtain ⟨x139, hx139, h110⟩ := Option.bind_eq_some_iff.1 h110
        refine V_call Tryd.call23 rfl rfl rfl rfl (portref2_line_c w135 hA (Tb.tr hT hK) ([(AnyV.str (⟨#[115, 104, 105, 102, 116]⟩ : ByteArray)), (AnyV.int x118.day), (AnyV.int x118.from_), (AnyV.int x118.to_)] : List AnyV) v134 h136 hx139) ?_
        rintro _ w140 ⟨rfl, hk141⟩
        have ht142 := Kp.tr hk141 hA hB
        replace hH := Hp.kp hH hk141
        replace h11 := El.tr h11 ht142
        replace h95 := Sl.tr h95 ht142
        replace h128 := El.tr h128 ht142
        replace h131 := El.tr h131 ht142
        replace h132 := El.tr h132 ht142
        replace h133 := El.tr h133 ht142
        replace h136 := Sl.tr h136 ht142
        replace hK := Tr.trans hK ht142
        replace hr98 := Tr.trans hr98 ht142
        replace hB := Nat.le_trans hB ht142.ex.size
        replace hA := ht142.new
        obtain ⟨x143, hx143, h110⟩ := Option.bind_eq_some_iff.1 h110
        refine V_y (Y_sadd hx143 rfl rfl) rfl rfl rfl ?_
        refine V_y (Y_assign rfl) rfl rfl rfl ?_
        refine V_to (fun _ _ => rfl) ?_
        refine C_region ?_
        refine V_y (Y_addI rfl rfl) rfl rfl rfl ?_
        refine V_y (Y_move rfl) rfl rfl rfl ?_
        obtain rfl := Option.some.inj h110
        refine V_end (fun a ha144 => ?_)
        exact ⟨x143, hlt113, h111, ⟨A107, ha144.sub ⟨rfl, rfl, rfl, rfl, (congrArg (fun z => some (Value.int .i64 z)) (w64_succ hlt113 hn116)), trivial⟩, ⟨hH, hr98⟩⟩⟩
      · refine C_exit (fun a ha145 => ?_)
        exact ⟨(s105, A107), ha145.sub ⟨rfl, rfl, trivial⟩, ⟨(h114 (eq_of_dec hle112 hc117)).symm, hH, hr98⟩⟩
    rintro ⟨s97, A103⟩ w100 ⟨rfl, hH104, hk101⟩ a ha102
    rw [Lp.andThen_fin] at hm
    replace h11 := El.tr h11 hk101
    replace hK := Tr.trans hK hk101
    replace hB := Nat.le_trans hB hk101.ex.size
    replace hA := hk101.new
    replace hH : Hp w.heap.size A103 w100 ([]) := hH104
    refine C_at (n := ⟨107, [], none⟩) (fun _ _ => rfl) ?_ ha102
    refine C_seq ?_
    refine C_seq ?_
    refine C_region ?_
    have h147 := El_cal_Calendar_2 h11
    refine V_y (Y_fieldAddr Tryd.underlying28 rfl Tryd.sizeOf26 (by decide) rfl) rfl rfl rfl ?_
    obtain ⟨v148, h149, h150⟩ := El.list h147
    refine V_y (Y_load h149 Tryd.isAgg26 rfl) rfl rfl rfl ?_
    refine V_y (Y_lenSl h150 rfl Tryd.underlying26 rfl) rfl rfl rfl ?_
    refine V_y (Y_move rfl) rfl rfl rfl ?_
    refine V_to (fun _ _ => rfl) ?_
    have hn171 := Sl.le h150
    obtain ⟨o151, ho151, hm⟩ := Option.bind_eq_some_iff.1 hm
    refine C_cutG (ι := (ByteArray × (Nat → Prop))) (fun ⟨s152, A158⟩ => [(5, .string s152)]) (fun ⟨s152, A158⟩ => fun w' => o151 = .fin s152 ∧ Hp w.heap.size A158 w' ([]) ∧ Tr w.heap.size A103 w100 A158 w') ?_ ?_
    · refine C_block ?_
      refine C_range ho151 (fun k154 s160 a w' => ∃ i : (Nat → Prop), Has ⟨107, [], none⟩ a ([(5, .string s160), (70, v148), (71, .int .i64 (c.specials.length : Int)), (72, .int .i64 (k154 : Int))]) ∧ Hp w.heap.size i w' ([]) ∧ Tr w.heap.size A103 w100 i w') (fun a ha => ⟨A103, ha.sub ⟨rfl, rfl, rfl, rfl, trivial⟩, ⟨hH, Tr.refl hA⟩⟩) ?_
      rintro K k154 s160 a w161 ⟨A162, ha265, hH163, hr153⟩ hle167 K170 h169
      refine C_of ?_ ha265
      replace h150 := Sl.tr h150 hr153
      replace hK := Tr.trans hK hr153
      replace hB := Nat.le_trans hB hr153.ex.size
      replace hA := hr153.new
      replace hH : Hp w.heap.size A162 w161 ([]) := hH163
      refine C_seq (C_region (V_y (Y_lss rfl rfl) rfl rfl rfl (V_to (fun _ _ => rfl) ?_)))
      refine C_seq ?_
      refine C_cond rfl (fun hc172 => ?_) (fun hc172 => ?_)
      · have hlt168 := lt_of_dec hc172
        obtain ⟨x164, h165, h166⟩ := K170 hlt168
        refine C_skip_to (fun _ _ => rfl) ?_
        refine C_seq ?_
        refine C_block ?_
        refine C_seq ?_
        refine C_region ?_
        obtain ⟨x173, hx173, h165⟩ := Option.bind_eq_some_iff.1 h165
        refine V_indexAddr h150 hx173 Tryd.underlying26 Tryd.sizeOf59 rfl rfl rfl ?_
        intro b174 o175 h176
        obtain ⟨v177, h179, h178⟩ := El_cal_Special h176
        refine V_y (Y_loadA h179 Tryd.isAgg59 Tryd.sizeOf59 rfl) rfl rfl rfl ?_
        refine V_alloc Tryd.zeroValue59 rfl ?_
        intro b180 w181 h182
        have h187 : (v177).oneCell' = true := by obtain ⟨_, _, e, _⟩ := Sl.form h178; rw [e]; rfl
        refine V_storeNew h182 Tryd.sizeOf59 rfl rfl rfl rfl (by exact (List.forall_mem_cons.2 ⟨rfl, (List.forall_mem_cons.2 ⟨h187, (fun _ h => nomatch h)⟩)⟩)) ?_
        intro w183 h184
        have hk189 := h184.kp
        have h188 : El (α := cal_Special) A162 w183 b180 0 x173 := h184.el hA ⟨[.int .i64 x173.day], _, rfl, rfl, ⟨_, rfl, h178⟩⟩
        have ht190 := Kp.tr hk189 hA hB
        replace hH := Hp.kp hH hk189
        replace h150 := Sl.tr h150 ht190
        replace h176 := El.tr h176 ht190
        replace h178 := Sl.tr h178 ht190
        replace hK := Tr.trans hK ht190
        replace hr153 := Tr.trans hr153 ht190
        replace hB := Nat.le_trans hB ht190.ex.size
        replace hA := ht190.new
        refine V_to (fun _ _ => rfl) ?_
        refine C_seq ?_
        refine C_region ?_
        refine V_y (Y_mkStr (ti := 3) Tryd.underlying9 rfl) rfl rfl rfl ?_
        have h191 := El_cal_Special_0 h188
        refine V_y (Y_fieldAddr Tryd.underlying59 rfl Tryd.sizeOf3 (by decide) rfl) rfl rfl rfl ?_
        refine V_y (Y_load (El.int h191) Tryd.isAgg3 rfl) rfl rfl rfl ?_
        refine V_y (Y_mkInt (ts := 9) Tryd.underlying3 rfl) rfl rfl rfl ?_
        refine V_buildOwnH (l := ([(AnyV.str (⟨#[100, 97, 121]⟩ : ByteArray)), (AnyV.int x173.day)] : List AnyV)) (len := 2) hH Tryd.underlying63 Tryd.sizeOf20 Tryd.zeroValue20 rfl (by with_unfolding_all rfl) (by decide) (by decide) hB hA ⟨[AnyV.val 9 3 (AnyV.str (⟨#[100, 97, 121]⟩ : ByteArray))], _, rfl, rfl, ⟨[AnyV.val 9 3 (AnyV.int x173.day)], _, rfl, rfl, rfl⟩⟩ rfl rfl ?_
        intro v192 w193 A196 hH198 ht197
        replace h150 := Sl.tr h150 ht197
        replace h188 := El.tr h188 ht197
        replace h191 := El.tr h191 ht197
        replace hK := Tr.trans hK ht197
        replace hr153 := Tr.trans hr153 ht197
        replace hB := Nat.le_trans hB ht197.ex.size
        replace hA := ht197.new
        replace hH : Hp w.heap.size A196 w193 (obS (α := AnyV) 20 v192 ([(AnyV.str (⟨#[100, 97, 121]⟩ : ByteArray)), (AnyV.int x173.day)] : List AnyV) :: []) := hH198
        refine V_y (Y_assign rfl) rfl rfl rfl ?_
        refine V_to (fun _ _ => rfl) ?_
        refine C_seq ?_
        refine C_seq ?_
        refine C_region ?_
        have h199 := El_cal_Special_1 h188
        refine V_y (Y_fieldAddr Tryd.underlying59 rfl Tryd.sizeOf25 (by decide) rfl) rfl rfl rfl ?_
        obtain ⟨v200, h201, h202⟩ := El.list h199
        refine V_y (Y_load h201 Tryd.isAgg25 rfl) rfl rfl rfl ?_
        refine V_y (Y_lenSl h202 rfl Tryd.underlying25 rfl) rfl rfl rfl ?_
        refine V_y (Y_move rfl) rfl rfl rfl ?_
        refine V_to (fun _ _ => rfl) ?_
        have hn227 := Sl.le h202
        obtain ⟨o203, ho203, h165⟩ := Option.bind_eq_some_iff.1 h165
        refine C_cutG (ι := ((List AnyV) × Value × (Nat → Prop))) (fun ⟨s204, v210, A212⟩ => [(5, .string s160), (12, v210), (70, v148), (71, .int .i64 (c.specials.length : Int)), (72, .int .i64 (k154 : Int))]) (fun ⟨s204, v210, A212⟩ => fun w' => o203 = .fin s204 ∧ Hp w.heap.size A212 w' (obS (α := AnyV) 20 v210 s204 :: []) ∧ Tr w.heap.size A196 w193 A212 w') ?_ ?_
        · refine C_block ?_
          refine C_range ho203 (fun k206 s214 a w' => ∃ i : (Value × (Nat → Prop)), Has ⟨107, [], none⟩ a ([(5, .string s160), (12, i.1), (70, v148), (71, .int .i64 (c.specials.length : Int)), (72, .int .i64 (k154 : Int)), (82, v200), (83, .int .i64 (x173.shifts.length : Int)), (84, .int .i64 (k206 : Int))]) ∧ Hp w.heap.size i.2 w' (obS (α := AnyV) 20 i.1 s214 :: []) ∧ Tr w.heap.size A196 w193 i.2 w') (fun a ha => ⟨(v192, A196), ha.sub ⟨rfl, rfl, rfl, rfl, rfl, rfl, rfl, rfl, trivial⟩, ⟨hH, Tr.refl hA⟩⟩) ?_
          rintro K k206 s214 a w215 ⟨⟨v216, A218⟩, ha257, hH219, hr205⟩ hle223 K226 h225
          refine C_of ?_ ha257
          replace h150 := Sl.tr h150 hr205
          replace h202 := Sl.tr h202 hr205
          replace hK := Tr.trans hK hr205
          replace hr153 := Tr.trans hr153 hr205
          replace hB := Nat.le_trans hB hr205.ex.size
          replace hA := hr205.new
          replace hH : Hp w.heap.size A218 w215 (obS (α := AnyV) 20 v216 s214 :: []) := hH219
          refine C_seq (C_region (V_y (Y_lss rfl rfl) rfl rfl rfl (V_to (fun _ _ => rfl) ?_)))
          refine C_seq ?_
          refine C_cond rfl (fun hc228 => ?_) (fun hc228 => ?_)
          · have hlt224 := lt_of_dec hc228
            obtain ⟨x220, h221, h222⟩ := K226 hlt224
            refine C_skip_to (fun _ _ => rfl) ?_
            refine C_seq ?_
            refine C_block ?_
            refine C_seq ?_
            refine C_region ?_
            obtain ⟨x229, hx229, h221⟩ := Option.bind_eq_some_iff.1 h221
            refine V_indexAddr h202 hx229 Tryd.underlying25 Tryd.sizeOf57 rfl rfl rfl ?_
            intro b230 o231 h232
            obtain ⟨h233, _⟩ := El_cal_Shift h232
            refine V_y (Y_loadA h233 Tryd.isAgg57 Tryd.sizeOf57 rfl) rfl rfl rfl ?_
            refine V_alloc Tryd.zeroValue57 rfl ?_
            intro b234 w235 h236
            refine V_storeNew h236 Tryd.sizeOf57 rfl rfl rfl rfl (by exact (List.forall_mem_cons.2 ⟨rfl, (List.forall_mem_cons.2 ⟨rfl, (List.forall_mem_cons.2 ⟨rfl, (fun _ h => nomatch h)⟩)⟩)⟩)) ?_
            intro w237 h238
            have hk240 := h238.kp
            have h239 : El (α := cal_Shift) A218 w237 b234 0 x229 := h238.el hA ⟨[.int .i64 x229.day], _, rfl, rfl, ⟨[.int .i64 x229.from_], _, rfl, rfl, rfl⟩⟩
            have ht241 := Kp.tr hk240 hA hB
            replace hH := Hp.kp hH hk240
            replace h150 := Sl.tr h150 ht241
            replace h202 := Sl.tr h202 ht241
            replace h232 := El.tr h232 ht241
            replace hK := Tr.trans hK ht241
            replace hr153 := Tr.trans hr153 ht241
            replace hr205 := Tr.trans hr205 ht241
            replace hB := Nat.le_trans hB ht241.ex.size
            replace hA := ht241.new
            refine V_to (fun _ _ => rfl) ?_
            refine C_region ?_
            refine V_y (Y_move rfl) rfl rfl rfl ?_
            have h242 := El_cal_Shift_1 h239
            refine V_y (Y_fieldAddr Tryd.underlying57 rfl Tryd.sizeOf3 (by decide) rfl) rfl rfl rfl ?_
            refine V_y (Y_load (El.int h242) Tryd.isAgg3 rfl) rfl rfl rfl ?_
            refine V_y (Y_mkInt (ts := 9) Tryd.underlying3 rfl) rfl rfl rfl ?_
            have h243 := El_cal_Shift_2 h239
            refine V_y (Y_fieldAddr Tryd.underlying57 rfl Tryd.sizeOf3 (by decide) rfl) rfl rfl rfl ?_
            refine V_y (Y_load (El.int h243) Tryd.isAgg3 rfl) rfl rfl rfl ?_
            refine V_y (Y_mkInt (ts := 9) Tryd.underlying3 rfl) rfl rfl rfl ?_
            refine V_buildSlice (l := ([(AnyV.int x229.from_), (AnyV.int x229.to_)] : List AnyV)) (len := 2) Tryd.underlying63 Tryd.sizeOf20 Tryd.zeroValue20 rfl (by with_unfolding_all rfl) (by decide) (by decide) hA ⟨[AnyV.val 9 3 (AnyV.int x229.from_)], _, rfl, rfl, ⟨[AnyV.val 9 3 (AnyV.int x229.to_)], _, rfl, rfl, rfl⟩⟩ rfl rfl ?_
            intro v244 w245 hk247 h246
            have ht248 := Kp.tr hk247 hA hB
            replace hH := Hp.kp hH hk247
            replace h150 := Sl.tr h150 ht248
            replace h202 := Sl.tr h202 ht248
            replace h239 := El.tr h239 ht248
            replace h242 := El.tr h242 ht248
            replace h243 := El.tr h243 ht248
            replace hK := Tr.trans hK ht248
            replace hr153 := Tr.trans hr153 ht248
            replace hr205 := Tr.trans hr205 ht248
            replace hB := Nat.le_trans hB ht248.ex.size
            replace hA := ht248.new
            obtain ⟨x249, hx249, h221⟩ := Option.bind_eq_some_iff.1 h221
            refine V_appendH (e := 20) (v := v216) (l := s214) (ti := Tryd.t20) (bytes := 16) (lim := 8796093022208) hH (i := 0) rfl h246 hx249 Tryd.underlying63 Tryd_info20 rfl rfl rfl rfl (by decide) (by decide) (by decide) hB hA rfl rfl rfl ?_
            intro v250 w251 A252 hH253 ht254
            replace h150 := Sl.tr h150 ht254
            replace h202 := Sl.tr h202 ht254
            replace h239 := El.tr h239 ht254
            replace h242 := El.tr h242 ht254
            replace h243 := El.tr h243 ht254
            replace h246 := Sl.tr h246 ht254
            replace hK := Tr.trans hK ht254
            replace hr153 := Tr.trans hr153 ht254
            replace hr205 := Tr.trans hr205 ht254
            replace hB := Nat.le_trans hB ht254.ex.size
            replace hA := ht254.new
            replace hH : Hp w.heap.size A252 w251 (obS (α := AnyV) 20 v250 x249 :: []) := hH253
            refine V_y (Y_assign rfl) rfl rfl rfl ?_
            refine V_to (fun _ _ => rfl) ?_
            refine C_region ?_
            refine V_y (Y_addI rfl rfl) rfl rfl rfl ?_
            refine V_y (Y_move rfl) rfl rfl rfl ?_
            obtain rfl := Option.some.inj h221
            refine V_end (fun a ha255 => ?_)
            exact ⟨x249, hlt224, h222, ⟨(v250, A252), ha255.sub ⟨rfl, rfl, rfl, rfl, rfl, rfl, rfl, (congrArg (fun z => some (Value.int .i64 z)) (w64_succ hlt224 hn227)), trivial⟩, ⟨hH, hr205⟩⟩⟩
          · refine C_exit (fun a ha256 => ?_)
            exact ⟨(s214, v216, A218), ha256.sub ⟨rfl, rfl, rfl, rfl, rfl, trivial⟩, ⟨(h225 (eq_of_dec hle223 hc228)).symm, hH, hr205⟩⟩
        rintro ⟨s204, v210, A212⟩ w207 ⟨rfl, hH213, hk208⟩ a ha209
        rw [Lp.andThen_fin] at h165
        replace h150 := Sl.tr h150 hk208
        replace hK := Tr.trans hK hk208
        replace hr153 := Tr.trans hr153 hk208
        replace hB := Nat.le_trans hB hk208.ex.size
        replace hA := hk208.new
        replace hH : Hp w.heap.size A212 w207 (obS (α := AnyV) 20 v210 s204 :: []) := hH213
        refine C_at (n := ⟨107, [], none⟩) (fun _ _ => rfl) ?_ ha209
        refine C_region ?_
        refine V_y (Y_move rfl) rfl rfl rfl ?_
        refine V_y (Y_move rfl) rfl rfl rfl ?_
        obtain ⟨x258, hx258, h165⟩ := Option.bind_eq_some_iff.1 h165
        refine V_call Tryd.call23 rfl rfl rfl rfl (portref2_line_c w207 (A := fun _ => True) (fun _ _ => trivial) (Tb.top (Tb.tr hT hK)) s204 v210 (Hp.any (α := AnyV) (e := 20) (v := v210) (l := s204) hH (i := 0) rfl) hx258) ?_
        rintro _ w259 ⟨rfl, hk260⟩
        have ht261 := Kp.tr hk260 hA hB
        replace hH := Hp.kp hH hk260
        replace h150 := Sl.tr h150 ht261
        replace hK := Tr.trans hK ht261
        replace hr153 := Tr.trans hr153 ht261
        replace hB := Nat.le_trans hB ht261.ex.size
        replace hA := ht261.new
        obtain ⟨x262, hx262, h165⟩ := Option.bind_eq_some_iff.1 h165
        refine V_y (Y_sadd hx262 rfl rfl) rfl rfl rfl ?_
        refine V_y (Y_assign rfl) rfl rfl rfl ?_
        refine V_to (fun _ _ => rfl) ?_
        refine C_region ?_
        refine V_y (Y_addI rfl rfl) rfl rfl rfl ?_
        refine V_y (Y_move rfl) rfl rfl rfl ?_
        obtain rfl := Option.some.inj h165
        refine V_end (fun a ha263 => ?_)
        replace hH : Hp w.heap.size A212 w259 ([]) := Hp.drop hH (i := 0) rfl
        exact ⟨x262, hlt168, h166, ⟨A212, ha263.sub ⟨rfl, rfl, rfl, (congrArg (fun z => some (Value.int .i64 z)) (w64_succ hlt168 hn171)), trivial⟩, ⟨hH, hr153⟩⟩⟩
      · refine C_exit (fun a ha264 => ?_)
        exact ⟨(s160, A162), ha264.sub ⟨rfl, trivial⟩, ⟨(h169 (eq_of_dec hle167 hc172)).symm, hH, hr153⟩⟩
    rintro ⟨s152, A158⟩ w155 ⟨rfl, hH159, hk156⟩ a ha157
    rw [Lp.andThen_fin] at hm
    replace hK := Tr.trans hK hk156
    replace hB := Nat.le_trans hB hk156.ex.size
    replace hA := hk156.new
    replace hH : Hp w.heap.size A158 w155 ([]) := hH159
    refine C_at (n := ⟨107, [], none⟩) (fun _ _ => rfl) ?_ ha157
    refine C_seq ?_
    refine C_seq ?_
    refine C_region ?_
    refine V_y (Y_move rfl) rfl rfl rfl ?_
    refine V_y (Y_lenStr rfl Tryd.underlying9 rfl) rfl rfl rfl ?_
    refine V_y (Y_gtr rfl rfl) rfl rfl rfl ?_
    refine V_to (fun _ _ => rfl) ?_
    refine C_cond rfl (fun hc266 => ?_) (fun hc266 => ?_)
    · rw [if_pos hc266] at hm
      refine C_seq ?_
      refine C_region ?_
      refine V_y (Y_assign rfl) rfl rfl rfl ?_
      refine V_y (Y_assign rfl) rfl rfl rfl ?_
      refine V_to (fun _ _ => rfl) ?_
      obtain rfl := Option.some.inj hm
      refine C_ret ?_
      try simp only [↓inBlock_ret, ↓then_ret]
      exact retQ rfl (Res.two Tryd.results6 rfl rfl) ⟨rfl, hK.kp⟩
    · rw [if_neg (nt hc266)] at hm
      refine C_skip_to (fun _ _ => rfl) ?_
      refine C_seq ?_
      refine C_region ?_
      refine V_y (Y_move rfl) rfl rfl rfl ?_
      refine V_y (Y_assign rfl) rfl rfl rfl ?_
      refine V_y (Y_assign rfl) rfl rfl rfl ?_
      refine V_to (fun _ _ => rfl) ?_
      obtain rfl := Option.some.inj hm
      refine C_ret ?_
      try simp only [↓inBlock_ret, ↓then_ret]
      exact retQ rfl (Res.two Tryd.results6 rfl rfl) ⟨rfl, hK.kp⟩

set_option maxRecDepth 4000 in
set_option maxHeartbeats 4000000 in
theorem portlaw2_CalChecks_c (w : World) {A : Nat → Prop} (hA : ∀ b, w.heap.size ≤ b → A b) (hT : Tb Tryd.prog A w) (c : cal_Calendar) (v_c0 : Value) (h_c0 : Sl A w v_c0 c.zone.changes) (v_c1 : Value) (h_c1 : Sl A w v_c1 c.week) (v_c2 : Value) (h_c2 : Sl A w v_c2 c.specials) {r : Bool} (hm : portlaw2_CalChecks c = some r) : Ret Tryd.prog 3 #[.agg #[.int .i64 c.zone.offset, v_c0, v_c1, v_c2]] w fun v w' => v = .bool r ∧ Kp w w' := by
  unfold portlaw2_CalChecks at hm
  refine enter Tryd.func3 rfl Tryd.ntmps3 rfl ?_
  have hA0 := hA
  have hB := Nat.le_refl w.heap.size
  have hK : Tr w.heap.size A w A w := Tr.refl hA
  have hH : Hp w.heap.size A w [] := Hp.nil
  refine C_seq ?_
  refine C_region ?_
  refine V_box rfl rfl ?_
  intro b7 w9 h10
  have hk12 := h10.kp
  have h11 : El (α := cal_Calendar) A w9 b7 0 c := h10.el hA ⟨[.int .i64 c.zone.offset, v_c0], _, rfl, ⟨[.int .i64 c.zone.offset], _, rfl, rfl, ⟨_, rfl, h_c0⟩⟩, ⟨[v_c1], _, rfl, ⟨_, rfl, h_c1⟩, ⟨_, rfl, h_c2⟩⟩⟩
  have ht13 := Kp.tr hk12 hA hB
  replace hH := Hp.kp hH hk12
  replace h_c0 := Sl.tr h_c0 ht13
  replace h_c1 := Sl.tr h_c1 ht13
  replace h_c2 := Sl.tr h_c2 ht13
  replace hK := Tr.trans hK ht13
  replace hB := Nat.le_trans hB ht13.ex.size
  replace hA := ht13.new
  refine V_y (Y_assign rfl) rfl rfl rfl ?_
  refine V_to (fun _ _ => rfl) ?_
  refine C_seq ?_
  refine C_region ?_
  obtain ⟨v14, v16, v18, h20, h15, h17, h19⟩ := El_cal_Calendar h11
  refine V_y (Y_loadA h20 Tryd.isAgg28 Tryd.sizeOf28 rfl) rfl rfl rfl ?_
  obtain ⟨x21, hx21, hm⟩ := Option.bind_eq_some_iff.1 hm
  refine V_call Tryd.call5 rfl rfl rfl rfl (cal_CalendarText_c w9 hA (Tb.tr hT hK) c v14 h15 v16 h17 v18 h19 hx21) ?_
  rintro _ w22 ⟨rfl, hk23⟩
  have ht24 := Kp.tr hk23 hA hB
  replace hH := Hp.kp hH hk23
  replace h11 := El.tr h11 ht24
  replace h15 := Sl.tr h15 ht24
  replace h17 := Sl.tr h17 ht24
  replace h19 := Sl.tr h19 ht24
  replace hK := Tr.trans hK ht24
  replace hB := Nat.le_trans hB ht24.ex.size
  replace hA := ht24.new
  refine V_y (Y_move rfl) rfl rfl rfl ?_
  refine V_y (Y_extract rfl rfl) rfl rfl rfl ?_
  refine V_y (Y_extract rfl rfl) rfl rfl rfl ?_
  refine V_y (Y_assign rfl) rfl rfl rfl ?_
  refine V_y (Y_assign rfl) rfl rfl rfl ?_
  refine V_to (fun _ _ => rfl) ?_
  refine C_seq ?_
  refine C_region ?_
  obtain ⟨v25, v27, v29, h31, h26, h28, h30⟩ := El_cal_Calendar h11
  refine V_y (Y_loadA h31 Tryd.isAgg28 Tryd.sizeOf28 rfl) rfl rfl rfl ?_
  obtain ⟨x32, hx32, hm⟩ := Option.bind_eq_some_iff.1 hm
  refine V_call Tryd.call6 rfl rfl rfl rfl (portref2_CalendarString_c w22 hA (Tb.tr hT hK) c v25 h26 v27 h28 v29 h30 hx32) ?_
  rintro _ w33 ⟨rfl, hk34⟩
  have ht35 := Kp.tr hk34 hA hB
  replace hH := Hp.kp hH hk34
  replace h11 := El.tr h11 ht35
  replace h26 := Sl.tr h26 ht35
  replace h28 := Sl.tr h28 ht35
  replace h30 := Sl.tr h30 ht35
  replace hK := Tr.trans hK ht35
  replace hB := Nat.le_trans hB ht35.ex.size
  replace hA := ht35.new
  refine V_y (Y_move rfl) rfl rfl rfl ?_
  refine V_y (Y_extract rfl rfl) rfl rfl rfl ?_
  refine V_y (Y_extract rfl rfl) rfl rfl rfl ?_
  refine V_y (Y_assign rfl) rfl rfl rfl ?_
  refine V_y (Y_assign rfl) rfl rfl rfl ?_
  refine V_to (fun _ _ => rfl) ?_
  refine C_seq ?_
  refine C_region_q Tryd_mixed (by kernel_rfl) ?_
  refine VQ_y (fun w' hw' => Y_move rfl) rfl rfl rfl ?_
  refine VQ_y (fun w' hw' => Y_move rfl) rfl rfl rfl ?_
  refine VQ_y (fun w' hw' => Y_seql rfl rfl) rfl rfl rfl ?_
  refine VQ_y (fun w' hw' => Y_move rfl) rfl rfl rfl ?_
  refine VQ_cut 4 (fun _ : Unit => [(1, .pointer (some ⟨b7, 0, none⟩)), (24, .bool ((strEq x21.1 x32.1) && (x21.2 == x32.2)))]) (fun _ => True) ?_ ?_
  · simp only [List.take, List.drop]
    rcases Bool.eq_false_or_eq_true (strEq x21.1 x32.1) with hc36 | hc36
    · refine VQ_ge rfl rfl rfl hc36 ?_
      refine VQ_y (fun w' hw' => Y_move rfl) rfl rfl rfl ?_
      refine VQ_ge rfl rfl rfl hc36 ?_
      refine VQ_y (fun w' hw' => Y_move rfl) rfl rfl rfl ?_
      refine VQ_ge rfl rfl rfl hc36 ?_
      refine VQ_y (fun w' hw' => Y_eql rfl rfl) rfl rfl rfl ?_
      refine VQ_y (fun _ _ => Y_pick_te rfl hc36 rfl) rfl rfl rfl ?_
      exact VQ_end fun a ha => ⟨(), ha.sub ⟨rfl, (by rw [hc36]; rfl), trivial⟩, trivial⟩
    · refine VQ_gn rfl rfl rfl hc36 rfl rfl rfl ?_
      refine VQ_gn rfl rfl rfl hc36 rfl rfl rfl ?_
      refine VQ_gn rfl rfl rfl hc36 rfl rfl rfl ?_
      refine VQ_y (fun _ _ => Y_pick_fe rfl hc36 rfl) rfl rfl rfl ?_
      exact VQ_end fun a ha => ⟨(), ha.sub ⟨rfl, (by rw [hc36]; rfl), trivial⟩, trivial⟩
  simp only [List.take, List.drop]
  rintro _ _
  refine VQ_y (fun w' hw' => Y_move rfl) rfl rfl rfl ?_
  obtain ⟨s39, hs39, hm⟩ := Option.bind_eq_some_iff.1 hm
  refine VQ_cut 6 (fun _ : Unit => [(31, .bool s39)]) (fun _ => True) ?_ ?_
  · simp only [List.take, List.drop]
    rcases Bool.eq_false_or_eq_true (((strEq x21.1 x32.1) && (x21.2 == x32.2))) with hc38 | hc38
    · rw [if_pos hc38] at hs39
      refine VQ_ge rfl rfl rfl hc38 ?_
      obtain ⟨v40, v42, v44, h46, h41, h43, h45⟩ := El_cal_Calendar h11
      refine VQ_y (fun w' hw' => Y_loadA (At.kp h46 hw' h11.2.1) Tryd.isAgg28 Tryd.sizeOf28 rfl) rfl rfl rfl ?_
      refine VQ_ge rfl rfl rfl hc38 ?_
      obtain ⟨x47, hx47, hs39⟩ := Option.bind_eq_some_iff.1 hs39
      refine VQ_call (.int .i64 x47) Tryd.call7 rfl rfl rfl rfl (fun w' hw' => (cal_CheckCalendar_c w' (fun b hb => hA b (Nat.le_trans hw'.size hb)) c v40 (Sl.kp h41 hw') v42 (Sl.kp h43 hw') v44 (Sl.kp h45 hw') hx47).mono (fun _ _ h => ⟨h.1, Kp.trans hw' h.2⟩)) ?_
      refine VQ_ge rfl rfl rfl hc38 ?_
      obtain ⟨v48, v50, v52, h54, h49, h51, h53⟩ := El_cal_Calendar h11
      refine VQ_y (fun w' hw' => Y_loadA (At.kp h54 hw' h11.2.1) Tryd.isAgg28 Tryd.sizeOf28 rfl) rfl rfl rfl ?_
      refine VQ_ge rfl rfl rfl hc38 ?_
      obtain ⟨x55, hx55, hs39⟩ := Option.bind_eq_some_iff.1 hs39
      refine VQ_call (.int .i64 x55) Tryd.call8 rfl rfl rfl rfl (fun w' hw' => (portref2_CalendarFault_c w' (fun b hb => hA b (Nat.le_trans hw'.size hb)) c v48 (Sl.kp h49 hw') v50 (Sl.kp h51 hw') v52 (Sl.kp h53 hw') hx55).mono (fun _ _ h => ⟨h.1, Kp.trans hw' h.2⟩)) ?_
      refine VQ_ge rfl rfl rfl hc38 ?_
      refine VQ_y (fun w' hw' => Y_eql rfl rfl) rfl rfl rfl ?_
      refine VQ_y (fun _ _ => Y_pick_te rfl hc38 rfl) rfl rfl rfl ?_
      obtain rfl := Option.some.inj hs39
      exact VQ_end fun a ha => ⟨(), ha.sub ⟨rfl, trivial⟩, trivial⟩
    · rw [if_neg (nt hc38)] at hs39
      refine VQ_gn rfl rfl rfl hc38 rfl rfl rfl ?_
      refine VQ_gn rfl rfl rfl hc38 rfl rfl rfl ?_
      refine VQ_gn rfl rfl rfl hc38 rfl rfl rfl ?_
      refine VQ_gn rfl rfl rfl hc38 rfl rfl rfl ?_
      refine VQ_gn rfl rfl rfl hc38 rfl rfl rfl ?_
      refine VQ_y (fun _ _ => Y_pick_fe rfl hc38 rfl) rfl rfl rfl ?_
      obtain rfl := Option.some.inj hs39
      exact VQ_end fun a ha => ⟨(), ha.sub ⟨rfl, trivial⟩, trivial⟩
  simp only [List.take, List.drop]
  rintro _ _
  refine VQ_y (fun w' hw' => Y_assign rfl) rfl rfl rfl ?_
  refine VQ_to (fun _ _ => rfl) (fun w56 hk57 => ?_)
  have ht58 := Kp.tr hk57 hA hB
  replace hH := Hp.kp hH hk57
  replace hK := Tr.trans hK ht58
  replace hB := Nat.le_trans hB ht58.ex.size
  replace hA := ht58.new
  obtain rfl := Option.some.inj hm
  refine C_ret ?_
  try simp only [↓inBlock_ret, ↓then_ret]
  exact retQ rfl (Res.one Tryd.results3 rfl) ⟨rfl, hK.kp⟩

end Go.Proofs.YthhgggkhlcnbhaaDoor.W
