/-
  Written by program (gen.py) from the IR of the dump: each function computes its model.
-/
import Derived.Test.YtebbjefkndfkpaaGreatDoorCalParsesW0
namespace Go.Proofs.YtebbjefkndfkpaaGreatDoor.W
open Go Go.RowKit Go.Pu Go.Gw Go.Proofs Go.Proofs.YtebbjefkndfkpaaGreatDoor.M
set_option linter.unusedVariables false
set_option linter.unusedSimpArgs false
variable {Dw : Prop}

set_option maxRecDepth 4000 in
set_option maxHeartbeats 4000000 in
theorem cal_CheckZone_c (w : World) {A : Nat → Prop} (hA : ∀ b, w.heap.size ≤ b → A b) (z : cal_Zone) (v_z : Value) (h_z : Sl A w v_z z.changes) {r : Int} (hm : cal_CheckZone z = some r) : Ret Tryz.prog 50 #[.agg #[.int .i64 z.offset, v_z]] w fun v w' => v = .int .i64 r ∧ Kp Dw w w' := by
  unfold cal_CheckZone at hm
  refine enter Tryz.func50 rfl Tryz.ntmps50 rfl ?_
  have hA0 := hA
  have hB := Nat.le_refl w.heap.size
  have hK : Tr Dw w.heap.size A w A w := Tr.refl (Dw := Dw) hA
  have hH : Hp w.heap.size A w [] := Hp.nil
  refine C_seq ?_
  refine C_region ?_
  refine V_box rfl rfl ?_
  intro b3 w4 h5
  have hk7 := h5.kp (Dw := Dw)
  have h6 : El (α := cal_Zone) A w4 b3 0 z := h5.el hA ⟨[.int .i64 z.offset], _, rfl, rfl, ⟨_, rfl, h_z⟩⟩
  have ht8 := Kp.tr (Dw := Dw) hk7 hA hB
  replace hH := Hp.kp (Dw := Dw) hH hk7
  replace h_z := Sl.tr (Dw := Dw) h_z ht8
  replace hK := Tr.trans (Dw := Dw) hK ht8
  replace hB := Nat.le_trans hB ht8.ex.size
  replace hA := ht8.new
  refine V_y (Y_assign rfl) rfl rfl rfl ?_
  refine V_to (fun _ _ => rfl) ?_
  refine C_seq ?_
  refine C_seq ?_
  refine C_region ?_
  have h9 := El_cal_Zone_0 h6
  refine V_y (Y_fieldAddr Tryz.underlying24 rfl Tryz.sizeOf3 (by decide) rfl) rfl rfl rfl ?_
  refine V_y (Y_load (El.int h9) Tryz.isAgg3 rfl) rfl rfl rfl ?_
  refine V_call Tryz.call52 rfl rfl rfl rfl (cal_within_c w4 z.offset (-1440) 1440) ?_
  rintro _ _ ⟨rfl, rfl⟩
  refine V_y (Y_not rfl) rfl rfl rfl ?_
  refine V_to (fun _ _ => rfl) ?_
  refine C_cond rfl (fun hc10 => ?_) (fun hc10 => ?_)
  · rw [if_pos hc10] at hm
    refine C_seq ?_
    refine C_region ?_
    refine V_y (Y_assign rfl) rfl rfl rfl ?_
    refine V_to (fun _ _ => rfl) ?_
    obtain rfl := Option.some.inj hm
    refine C_ret ?_
    try simp only [↓inBlock_ret, ↓then_ret]
    exact retQ rfl (Res.one Tryz.results50 rfl) ⟨rfl, hK.kp⟩
  · rw [if_neg (nt hc10)] at hm
    refine C_skip_to (fun _ _ => rfl) ?_
    refine C_seq ?_
    refine C_seq ?_
    refine C_region ?_
    have h11 := El_cal_Zone_1 h6
    refine V_y (Y_fieldAddr Tryz.underlying24 rfl Tryz.sizeOf22 (by decide) rfl) rfl rfl rfl ?_
    obtain ⟨v12, h13, h14⟩ := El.list h11
    refine V_y (Y_load h13 Tryz.isAgg22 rfl) rfl rfl rfl ?_
    refine V_y (Y_lenSl h14 rfl Tryz.underlying22 rfl) rfl rfl rfl ?_
    refine V_y (Y_gtr rfl rfl) rfl rfl rfl ?_
    refine V_to (fun _ _ => rfl) ?_
    refine C_cond rfl (fun hc15 => ?_) (fun hc15 => ?_)
    · rw [if_pos hc15] at hm
      refine C_seq ?_
      refine C_region ?_
      refine V_y (Y_assign rfl) rfl rfl rfl ?_
      refine V_to (fun _ _ => rfl) ?_
      obtain rfl := Option.some.inj hm
      refine C_ret ?_
      try simp only [↓inBlock_ret, ↓then_ret]
      exact retQ rfl (Res.one Tryz.results50 rfl) ⟨rfl, hK.kp⟩
    · rw [if_neg (nt hc15)] at hm
      refine C_skip_to (fun _ _ => rfl) ?_
      refine C_seq ?_
      refine C_region_q (Dw := Dw) Tryz_mixed (by kernel_rfl) ?_
      have h16 := El_cal_Zone_0 h6
      refine VQ_y (fun w' hw' => Y_fieldAddr Tryz.underlying24 rfl Tryz.sizeOf3 (by decide) rfl) rfl rfl rfl ?_
      refine VQ_y (fun w' hw' => Y_load (El.int (El.kp (Dw := Dw) h16 hw')) Tryz.isAgg3 rfl) rfl rfl rfl ?_
      refine VQ_y (fun w' hw' => Y_assign rfl) rfl rfl rfl ?_
      refine VQ_y (fun w' hw' => Y_assign rfl) rfl rfl rfl ?_
      refine VQ_to (fun _ _ => rfl) (fun w17 hk18 => ?_)
      have ht19 := Kp.tr (Dw := Dw) hk18 hA hB
      replace hH := Hp.kp (Dw := Dw) hH hk18
      replace h6 := El.tr (Dw := Dw) h6 ht19
      replace hK := Tr.trans (Dw := Dw) hK ht19
      replace hB := Nat.le_trans hB ht19.ex.size
      replace hA := ht19.new
      refine C_seq ?_
      refine C_seq ?_
      refine C_region ?_
      have h20 := El_cal_Zone_1 h6
      refine V_y (Y_fieldAddr Tryz.underlying24 rfl Tryz.sizeOf22 (by decide) rfl) rfl rfl rfl ?_
      obtain ⟨v21, h22, h23⟩ := El.list h20
      refine V_y (Y_load h22 Tryz.isAgg22 rfl) rfl rfl rfl ?_
      refine V_y (Y_lenSl h23 rfl Tryz.underlying22 rfl) rfl rfl rfl ?_
      refine V_y (Y_move rfl) rfl rfl rfl ?_
      refine V_to (fun _ _ => rfl) ?_
      have hn44 := Sl.le h23
      obtain ⟨o24, ho24, hm⟩ := Option.bind_eq_some_iff.1 hm
      refine C_cutG (ι := ((Int × Int) × (Nat → Prop))) (fun ⟨s25, A31⟩ => []) (fun ⟨s25, A31⟩ => fun w' => o24 = .fin s25 ∧ Hp w.heap.size A31 w' ([]) ∧ Tr Dw w.heap.size A w17 A31 w') ?_ ?_
      · refine C_block ?_
        refine C_range ho24 (fun k27 s33 a w' => ∃ i : (Nat → Prop), Has ⟨50, [], none⟩ a ([(3, .int .i64 s33.1), (4, .int .i64 s33.2), (18, v21), (19, .int .i64 (z.changes.length : Int)), (20, .int .i64 (k27 : Int))]) ∧ Hp w.heap.size i w' ([]) ∧ Tr Dw w.heap.size A w17 i w') (fun a ha => ⟨A, ha.sub ⟨rfl, rfl, rfl, rfl, rfl, trivial⟩, ⟨hH, Tr.refl (Dw := Dw) hA⟩⟩) ?_
        rintro K k27 s33 a w34 ⟨A35, ha75, hH36, hr26⟩ hle40 K43 h42
        refine C_of ?_ ha75
        replace h23 := Sl.tr (Dw := Dw) h23 hr26
        replace hK := Tr.trans (Dw := Dw) hK hr26
        replace hB := Nat.le_trans hB hr26.ex.size
        replace hA := hr26.new
        replace hH : Hp w.heap.size A35 w34 ([]) := hH36
        refine C_seq (C_region (V_y (Y_lss rfl rfl) rfl rfl rfl (V_to (fun _ _ => rfl) ?_)))
        refine C_seq ?_
        refine C_cond rfl (fun hc45 => ?_) (fun hc45 => ?_)
        · have hlt41 := lt_of_dec hc45
          obtain ⟨x37, h38, h39⟩ := K43 hlt41
          refine C_skip_to (fun _ _ => rfl) ?_
          refine C_seq ?_
          refine C_block ?_
          refine C_seq ?_
          refine C_region ?_
          obtain ⟨x46, hx46, h38⟩ := Option.bind_eq_some_iff.1 h38
          refine V_indexAddr h23 hx46 Tryz.underlying22 Tryz.sizeOf49 rfl rfl rfl ?_
          intro b47 o48 h49
          obtain ⟨h50, _⟩ := El_cal_Change h49
          refine V_y (Y_loadA h50 Tryz.isAgg49 Tryz.sizeOf49 rfl) rfl rfl rfl ?_
          refine V_alloc Tryz.zeroValue49 rfl ?_
          intro b51 w52 h53
          refine V_storeNew h53 Tryz.sizeOf49 rfl rfl rfl rfl (by exact (List.forall_mem_cons.2 ⟨rfl, (List.forall_mem_cons.2 ⟨rfl, (fun _ h => nomatch h)⟩)⟩)) ?_
          intro w54 h55
          have hk57 := h55.kp (Dw := Dw)
          have h56 : El (α := cal_Change) A35 w54 b51 0 x46 := h55.el hA ⟨[.int .i64 x46.at_], _, rfl, rfl, rfl⟩
          have ht58 := Kp.tr (Dw := Dw) hk57 hA hB
          replace hH := Hp.kp (Dw := Dw) hH hk57
          replace h23 := Sl.tr (Dw := Dw) h23 ht58
          replace h49 := El.tr (Dw := Dw) h49 ht58
          replace hK := Tr.trans (Dw := Dw) hK ht58
          replace hr26 := Tr.trans (Dw := Dw) hr26 ht58
          replace hB := Nat.le_trans hB ht58.ex.size
          replace hA := ht58.new
          refine V_to (fun _ _ => rfl) ?_
          refine C_seq ?_
          refine C_block ?_
          refine C_seq ?_
          refine C_region ?_
          have h59 := El_cal_Change_0 h56
          refine V_y (Y_fieldAddr Tryz.underlying49 rfl Tryz.sizeOf3 (by decide) rfl) rfl rfl rfl ?_
          refine V_y (Y_load (El.int h59) Tryz.isAgg3 rfl) rfl rfl rfl ?_
          refine V_call Tryz.call52 rfl rfl rfl rfl (cal_within_c w54 x46.at_ 1 3000000) ?_
          rintro _ _ ⟨rfl, rfl⟩
          refine V_y (Y_not rfl) rfl rfl rfl ?_
          refine V_y (Y_move rfl) rfl rfl rfl ?_
          refine V_cut 5 (fun _ : Unit => [(3, .int .i64 s33.1), (4, .int .i64 s33.2), (6, .pointer (some ⟨b51, 0, none⟩)), (18, v21), (19, .int .i64 (z.changes.length : Int)), (20, .int .i64 (k27 : Int)), (34, .bool ((!(cal_within x46.at_ 1 3000000)) || (!(cal_within x46.offset (-1440) 1440))))]) (fun _ w' => w54 = w') ?_ ?_
          · simp only [List.take, List.drop]
            rcases Bool.eq_false_or_eq_true (!(cal_within x46.at_ 1 3000000)) with hc60 | hc60
            · refine V_gn rfl rfl rfl hc60 rfl rfl rfl ?_
              refine V_gn rfl rfl rfl hc60 rfl rfl rfl ?_
              refine V_gn rfl rfl rfl hc60 rfl rfl rfl ?_
              refine V_gn rfl rfl rfl hc60 rfl rfl rfl ?_
              refine V_y (Y_pick_te rfl hc60 rfl) rfl rfl rfl ?_
              exact V_end fun a ha => ⟨(), ha.sub ⟨rfl, rfl, rfl, rfl, rfl, rfl, (by rw [hc60]; rfl), trivial⟩, rfl⟩
            · refine V_ge rfl rfl rfl hc60 ?_
              have h62 := El_cal_Change_1 h56
              refine V_y (Y_fieldAddr Tryz.underlying49 rfl Tryz.sizeOf3 (by decide) rfl) rfl rfl rfl ?_
              refine V_ge rfl rfl rfl hc60 ?_
              refine V_y (Y_load (El.int h62) Tryz.isAgg3 rfl) rfl rfl rfl ?_
              refine V_ge rfl rfl rfl hc60 ?_
              refine V_call Tryz.call52 rfl rfl rfl rfl (cal_within_c w54 x46.offset (-1440) 1440) ?_
              rintro _ _ ⟨rfl, rfl⟩
              refine V_ge rfl rfl rfl hc60 ?_
              refine V_y (Y_not rfl) rfl rfl rfl ?_
              refine V_y (Y_pick_fe rfl hc60 rfl) rfl rfl rfl ?_
              exact V_end fun a ha => ⟨(), ha.sub ⟨rfl, rfl, rfl, rfl, rfl, rfl, (by rw [hc60]; rfl), trivial⟩, rfl⟩
          simp only [List.take, List.drop]
          rintro _ _ rfl
          refine V_y (Y_assign rfl) rfl rfl rfl ?_
          refine V_to (fun _ _ => rfl) ?_
          refine C_cond rfl (fun hc63 => ?_) (fun hc63 => ?_)
          · rw [if_pos hc63] at h38
            refine C_seq ?_
            refine C_region ?_
            refine V_y (Y_assign rfl) rfl rfl rfl ?_
            refine V_to (fun _ _ => rfl) ?_
            obtain rfl := Option.some.inj h38
            obtain rfl := (h39 : Lp.rt _ = _)
            rw [Lp.andThen_rt] at hm
            obtain rfl := Option.some.inj hm
            refine C_ret ?_
            try simp only [↓inBlock_ret, ↓then_ret]
            exact retQ rfl (Res.one Tryz.results50 rfl) ⟨rfl, hK.kp⟩
          · rw [if_neg (nt hc63)] at h38
            refine C_seq ?_
            refine C_region ?_
            have h64 := El_cal_Change_0 h56
            refine V_y (Y_fieldAddr Tryz.underlying49 rfl Tryz.sizeOf3 (by decide) rfl) rfl rfl rfl ?_
            refine V_y (Y_load (El.int h64) Tryz.isAgg3 rfl) rfl rfl rfl ?_
            refine V_y (Y_move rfl) rfl rfl rfl ?_
            refine V_y (Y_leq rfl rfl) rfl rfl rfl ?_
            refine V_y (Y_assign rfl) rfl rfl rfl ?_
            refine V_to (fun _ _ => rfl) ?_
            refine C_cond rfl (fun hc65 => ?_) (fun hc65 => ?_)
            · rw [if_pos hc65] at h38
              refine C_seq ?_
              refine C_region ?_
              refine V_y (Y_assign rfl) rfl rfl rfl ?_
              refine V_to (fun _ _ => rfl) ?_
              obtain rfl := Option.some.inj h38
              obtain rfl := (h39 : Lp.rt _ = _)
              rw [Lp.andThen_rt] at hm
              obtain rfl := Option.some.inj hm
              refine C_ret ?_
              try simp only [↓inBlock_ret, ↓then_ret]
              exact retQ rfl (Res.one Tryz.results50 rfl) ⟨rfl, hK.kp⟩
            · rw [if_neg (nt hc65)] at h38
              refine C_seq ?_
              refine C_region ?_
              have h66 := El_cal_Change_1 h56
              refine V_y (Y_fieldAddr Tryz.underlying49 rfl Tryz.sizeOf3 (by decide) rfl) rfl rfl rfl ?_
              refine V_y (Y_load (El.int h66) Tryz.isAgg3 rfl) rfl rfl rfl ?_
              refine V_y (Y_move rfl) rfl rfl rfl ?_
              refine V_y (Y_eql rfl rfl) rfl rfl rfl ?_
              refine V_y (Y_assign rfl) rfl rfl rfl ?_
              refine V_to (fun _ _ => rfl) ?_
              refine C_cond rfl (fun hc67 => ?_) (fun hc67 => ?_)
              · rw [if_pos hc67] at h38
                refine C_seq ?_
                refine C_region ?_
                refine V_y (Y_assign rfl) rfl rfl rfl ?_
                refine V_to (fun _ _ => rfl) ?_
                obtain rfl := Option.some.inj h38
                obtain rfl := (h39 : Lp.rt _ = _)
                rw [Lp.andThen_rt] at hm
                obtain rfl := Option.some.inj hm
                refine C_ret ?_
                try simp only [↓inBlock_ret, ↓then_ret]
                exact retQ rfl (Res.one Tryz.results50 rfl) ⟨rfl, hK.kp⟩
              · rw [if_neg (nt hc67)] at h38
                refine C_skip_to (fun _ _ => rfl) ?_
                refine C_region_q (Dw := Dw) Tryz_mixed (by kernel_rfl) ?_
                have h68 := El_cal_Change_0 h56
                refine VQ_y (fun w' hw' => Y_fieldAddr Tryz.underlying49 rfl Tryz.sizeOf3 (by decide) rfl) rfl rfl rfl ?_
                refine VQ_y (fun w' hw' => Y_load (El.int (El.kp (Dw := Dw) h68 hw')) Tryz.isAgg3 rfl) rfl rfl rfl ?_
                have h69 := El_cal_Change_1 h56
                refine VQ_y (fun w' hw' => Y_fieldAddr Tryz.underlying49 rfl Tryz.sizeOf3 (by decide) rfl) rfl rfl rfl ?_
                refine VQ_y (fun w' hw' => Y_load (El.int (El.kp (Dw := Dw) h69 hw')) Tryz.isAgg3 rfl) rfl rfl rfl ?_
                refine VQ_y (fun w' hw' => Y_assign rfl) rfl rfl rfl ?_
                refine VQ_y (fun w' hw' => Y_assign rfl) rfl rfl rfl ?_
                refine VQ_to (fun _ _ => rfl) (fun w70 hk71 => ?_)
                have ht72 := Kp.tr (Dw := Dw) hk71 hA hB
                replace hH := Hp.kp (Dw := Dw) hH hk71
                replace h23 := Sl.tr (Dw := Dw) h23 ht72
                replace hK := Tr.trans (Dw := Dw) hK ht72
                replace hr26 := Tr.trans (Dw := Dw) hr26 ht72
                replace hB := Nat.le_trans hB ht72.ex.size
                replace hA := ht72.new
                refine C_region ?_
                refine V_y (Y_addI rfl rfl) rfl rfl rfl ?_
                refine V_y (Y_move rfl) rfl rfl rfl ?_
                obtain rfl := Option.some.inj h38
                refine V_end (fun a ha73 => ?_)
                exact ⟨(x46.at_, x46.offset), hlt41, h39, ⟨A35, ha73.sub ⟨rfl, rfl, rfl, rfl, (congrArg (fun z => some (Value.int .i64 z)) (w64_succ hlt41 hn44)), trivial⟩, ⟨hH, hr26⟩⟩⟩
        · refine C_exit (fun a ha74 => ?_)
          exact ⟨((s33.1, s33.2), A35), ha74.sub trivial, ⟨(h42 (eq_of_dec hle40 hc45)).symm, hH, hr26⟩⟩
      rintro ⟨s25, A31⟩ w28 ⟨rfl, hH32, hk29⟩ a ha30
      rw [Lp.andThen_fin] at hm
      replace hK := Tr.trans (Dw := Dw) hK hk29
      replace hB := Nat.le_trans hB hk29.ex.size
      replace hA := hk29.new
      replace hH : Hp w.heap.size A31 w28 ([]) := hH32
      refine C_at (n := ⟨50, [], none⟩) (fun _ _ => rfl) ?_ ha30
      refine C_seq ?_
      refine C_region ?_
      refine V_y (Y_assign rfl) rfl rfl rfl ?_
      refine V_to (fun _ _ => rfl) ?_
      obtain rfl := Option.some.inj hm
      refine C_ret ?_
      try simp only [↓inBlock_ret, ↓then_ret]
      exact retQ rfl (Res.one Tryz.results50 rfl) ⟨rfl, hK.kp⟩

set_option maxRecDepth 4000 in
set_option maxHeartbeats 4000000 in
theorem cmp_isNaN_int_c (w : World) (x : Int) : Ret Tryz.prog 84 #[.int .i64 x] w fun v w' => v = .bool (cmp_isNaN_int x) ∧ w = w' := by
  generalize hm : cmp_isNaN_int x = r
  unfold cmp_isNaN_int at hm
  refine enter Tryz.func84 rfl Tryz.ntmps84 rfl ?_
  refine C_seq ?_
  refine C_region ?_
  refine V_y (Y_assign rfl) rfl rfl rfl ?_
  refine V_to (fun _ _ => rfl) ?_
  refine C_seq ?_
  refine C_region ?_
  refine V_y (Y_move rfl) rfl rfl rfl ?_
  refine V_y (Y_move rfl) rfl rfl rfl ?_
  refine V_y (Y_neq rfl rfl) rfl rfl rfl ?_
  refine V_y (Y_assign rfl) rfl rfl rfl ?_
  refine V_to (fun _ _ => rfl) ?_
  obtain rfl := hm
  refine C_ret ?_
  try simp only [↓inBlock_ret, ↓then_ret]
  exact retQ rfl (Res.one Tryz.results84 rfl) ⟨rfl, rfl⟩

set_option maxRecDepth 4000 in
set_option maxHeartbeats 4000000 in
theorem cmp_Compare_int_c (w : World) (x : Int) (y : Int) : Ret Tryz.prog 71 #[.int .i64 x, .int .i64 y] w fun v w' => v = .int .i64 (cmp_Compare_int x y) ∧ w = w' := by
  generalize hm : cmp_Compare_int x y = r
  unfold cmp_Compare_int at hm
  refine enter Tryz.func71 rfl Tryz.ntmps71 rfl ?_
  refine C_seq ?_
  refine C_region ?_
  refine V_y (Y_assign rfl) rfl rfl rfl ?_
  refine V_to (fun _ _ => rfl) ?_
  refine C_seq ?_
  refine C_region ?_
  refine V_y (Y_move rfl) rfl rfl rfl ?_
  refine V_call Tryz.call84 rfl rfl rfl rfl (cmp_isNaN_int_c w x) ?_
  rintro _ _ ⟨rfl, rfl⟩
  refine V_y (Y_assign rfl) rfl rfl rfl ?_
  refine V_to (fun _ _ => rfl) ?_
  refine C_seq ?_
  refine C_region ?_
  refine V_y (Y_move rfl) rfl rfl rfl ?_
  refine V_call Tryz.call84 rfl rfl rfl rfl (cmp_isNaN_int_c w y) ?_
  rintro _ _ ⟨rfl, rfl⟩
  refine V_y (Y_assign rfl) rfl rfl rfl ?_
  refine V_to (fun _ _ => rfl) ?_
  refine C_seq ?_
  refine C_seq ?_
  refine C_region ?_
  refine V_y (Y_move rfl) rfl rfl rfl ?_
  refine V_to (fun _ _ => rfl) ?_
  refine C_cond rfl (fun hc1 => ?_) (fun hc1 => ?_)
  · rw [if_pos hc1] at hm
    refine C_seq ?_
    refine C_seq ?_
    refine C_region ?_
    refine V_y (Y_move rfl) rfl rfl rfl ?_
    refine V_to (fun _ _ => rfl) ?_
    refine C_cond rfl (fun hc2 => ?_) (fun hc2 => ?_)
    · rw [if_pos hc2] at hm
      refine C_seq ?_
      refine C_region ?_
      refine V_y (Y_assign rfl) rfl rfl rfl ?_
      refine V_to (fun _ _ => rfl) ?_
      obtain rfl := hm
      refine C_ret ?_
      try simp only [↓inBlock_ret, ↓then_ret]
      exact retQ rfl (Res.one Tryz.results71 rfl) ⟨rfl, rfl⟩
    · rw [if_neg (nt hc2)] at hm
      refine C_skip_to (fun _ _ => rfl) ?_
      refine C_seq ?_
      refine C_region ?_
      refine V_y (Y_assign rfl) rfl rfl rfl ?_
      refine V_to (fun _ _ => rfl) ?_
      obtain rfl := hm
      refine C_ret ?_
      try simp only [↓inBlock_ret, ↓then_ret]
      exact retQ rfl (Res.one Tryz.results71 rfl) ⟨rfl, rfl⟩
  · rw [if_neg (nt hc1)] at hm
    refine C_skip_to (fun _ _ => rfl) ?_
    refine C_seq ?_
    refine C_seq ?_
    refine C_region ?_
    refine V_y (Y_move rfl) rfl rfl rfl ?_
    refine V_to (fun _ _ => rfl) ?_
    refine C_cond rfl (fun hc3 => ?_) (fun hc3 => ?_)
    · rw [if_pos hc3] at hm
      refine C_seq ?_
      refine C_region ?_
      refine V_y (Y_assign rfl) rfl rfl rfl ?_
      refine V_to (fun _ _ => rfl) ?_
      obtain rfl := hm
      refine C_ret ?_
      try simp only [↓inBlock_ret, ↓then_ret]
      exact retQ rfl (Res.one Tryz.results71 rfl) ⟨rfl, rfl⟩
    · rw [if_neg (nt hc3)] at hm
      refine C_skip_to (fun _ _ => rfl) ?_
      refine C_seq ?_
      refine C_seq ?_
      refine C_region ?_
      refine V_y (Y_move rfl) rfl rfl rfl ?_
      refine V_y (Y_move rfl) rfl rfl rfl ?_
      refine V_y (Y_lss rfl rfl) rfl rfl rfl ?_
      refine V_to (fun _ _ => rfl) ?_
      refine C_cond rfl (fun hc4 => ?_) (fun hc4 => ?_)
      · rw [if_pos hc4] at hm
        refine C_seq ?_
        refine C_region ?_
        refine V_y (Y_assign rfl) rfl rfl rfl ?_
        refine V_to (fun _ _ => rfl) ?_
        obtain rfl := hm
        refine C_ret ?_
        try simp only [↓inBlock_ret, ↓then_ret]
        exact retQ rfl (Res.one Tryz.results71 rfl) ⟨rfl, rfl⟩
      · rw [if_neg (nt hc4)] at hm
        refine C_skip_to (fun _ _ => rfl) ?_
        refine C_seq ?_
        refine C_seq ?_
        refine C_region ?_
        refine V_y (Y_move rfl) rfl rfl rfl ?_
        refine V_y (Y_move rfl) rfl rfl rfl ?_
        refine V_y (Y_gtr rfl rfl) rfl rfl rfl ?_
        refine V_to (fun _ _ => rfl) ?_
        refine C_cond rfl (fun hc5 => ?_) (fun hc5 => ?_)
        · rw [if_pos hc5] at hm
          refine C_seq ?_
          refine C_region ?_
          refine V_y (Y_assign rfl) rfl rfl rfl ?_
          refine V_to (fun _ _ => rfl) ?_
          obtain rfl := hm
          refine C_ret ?_
          try simp only [↓inBlock_ret, ↓then_ret]
          exact retQ rfl (Res.one Tryz.results71 rfl) ⟨rfl, rfl⟩
        · rw [if_neg (nt hc5)] at hm
          refine C_skip_to (fun _ _ => rfl) ?_
          refine C_seq ?_
          refine C_region ?_
          refine V_y (Y_assign rfl) rfl rfl rfl ?_
          refine V_to (fun _ _ => rfl) ?_
          obtain rfl := hm
          refine C_ret ?_
          try simp only [↓inBlock_ret, ↓then_ret]
          exact retQ rfl (Res.one Tryz.results71 rfl) ⟨rfl, rfl⟩

set_option maxRecDepth 4000 in
set_option maxHeartbeats 4000000 in
theorem cmp_Or_int_c (w : World) {A : Nat → Prop} (vals : (List Int)) (v_vals : Value) (h_vals : Sl A w v_vals vals) {r : Int} (hm : cmp_Or_int vals = some r) : Ret Tryz.prog 70 #[v_vals] w fun v w' => v = .int .i64 r ∧ w = w' := by
  unfold cmp_Or_int at hm
  refine enter Tryz.func70 rfl Tryz.ntmps70 rfl ?_
  refine C_seq ?_
  refine C_region ?_
  refine V_y (Y_assign rfl) rfl rfl rfl ?_
  refine V_to (fun _ _ => rfl) ?_
  refine C_seq ?_
  refine C_region ?_
  refine V_y (Y_assign rfl) rfl rfl rfl ?_
  refine V_to (fun _ _ => rfl) ?_
  refine C_seq ?_
  refine C_seq ?_
  refine C_region ?_
  refine V_y (Y_move rfl) rfl rfl rfl ?_
  refine V_y (Y_lenSl h_vals rfl Tryz.underlying44 rfl) rfl rfl rfl ?_
  refine V_y (Y_move rfl) rfl rfl rfl ?_
  refine V_to (fun _ _ => rfl) ?_
  have hn19 := Sl.le h_vals
  obtain ⟨o3, ho3, hm⟩ := Option.bind_eq_some_iff.1 hm
  refine C_cutG (ι := Unit) (fun (s4 : Unit) => [(3, .int .i64 0)]) (fun (s4 : Unit) => fun w' => o3 = .fin s4 ∧ w = w') ?_ ?_
  · refine C_block ?_
    refine C_range ho3 (fun k6 _ a w' => ∃ i : Unit, Has ⟨18, [], none⟩ a ([(3, .int .i64 0), (6, v_vals), (7, .int .i64 (vals.length : Int)), (8, .int .i64 (k6 : Int))]) ∧ w = w') (fun a ha => ⟨(), ha.sub ⟨rfl, rfl, rfl, rfl, trivial⟩, rfl⟩) ?_
    rintro K k6 _ a _ ⟨_, ha28, rfl⟩ hle15 K18 h17
    refine C_of ?_ ha28
    refine C_seq (C_region (V_y (Y_lss rfl rfl) rfl rfl rfl (V_to (fun _ _ => rfl) ?_)))
    refine C_seq ?_
    refine C_cond rfl (fun hc20 => ?_) (fun hc20 => ?_)
    · have hlt16 := lt_of_dec hc20
      obtain ⟨x12, h13, h14⟩ := K18 hlt16
      refine C_skip_to (fun _ _ => rfl) ?_
      refine C_seq ?_
      refine C_block ?_
      refine C_seq ?_
      refine C_region ?_
      obtain ⟨x21, hx21, h13⟩ := Option.bind_eq_some_iff.1 h13
      refine V_indexAddr h_vals hx21 Tryz.underlying44 Tryz.sizeOf3 rfl rfl rfl ?_
      intro b22 o23 h24
      refine V_y (Y_load (El.int h24) Tryz.isAgg3 rfl) rfl rfl rfl ?_
      refine V_y (Y_assign rfl) rfl rfl rfl ?_
      refine V_to (fun _ _ => rfl) ?_
      refine C_seq ?_
      refine C_region ?_
      refine V_y (Y_move rfl) rfl rfl rfl ?_
      refine V_y (Y_move rfl) rfl rfl rfl ?_
      refine V_y (Y_neq rfl rfl) rfl rfl rfl ?_
      refine V_to (fun _ _ => rfl) ?_
      refine C_cond rfl (fun hc25 => ?_) (fun hc25 => ?_)
      · rw [if_pos hc25] at h13
        refine C_seq ?_
        refine C_region ?_
        refine V_y (Y_move rfl) rfl rfl rfl ?_
        refine V_y (Y_assign rfl) rfl rfl rfl ?_
        refine V_to (fun _ _ => rfl) ?_
        obtain rfl := Option.some.inj h13
        obtain rfl := (h14 : Lp.rt _ = _)
        rw [Lp.andThen_rt] at hm
        obtain rfl := Option.some.inj hm
        refine C_ret ?_
        try simp only [↓inBlock_ret, ↓then_ret]
        exact retQ rfl (Res.one Tryz.results70 rfl) ⟨rfl, rfl⟩
      · rw [if_neg (nt hc25)] at h13
        refine C_skip_to (fun _ _ => rfl) ?_
        refine C_region ?_
        refine V_y (Y_addI rfl rfl) rfl rfl rfl ?_
        refine V_y (Y_move rfl) rfl rfl rfl ?_
        obtain rfl := Option.some.inj h13
        refine V_end (fun a ha26 => ?_)
        exact ⟨(), hlt16, h14, ⟨(), ha26.sub ⟨rfl, rfl, rfl, (congrArg (fun z => some (Value.int .i64 z)) (w64_succ hlt16 hn19)), trivial⟩, rfl⟩⟩
    · refine C_exit (fun a ha27 => ?_)
      exact ⟨(), ha27.sub ⟨rfl, trivial⟩, ⟨(h17 (eq_of_dec hle15 hc20)).symm, rfl⟩⟩
  rintro s4 _ ⟨rfl, rfl⟩ a ha9
  rw [Lp.andThen_fin] at hm
  refine C_at (n := ⟨18, [], none⟩) (fun _ _ => rfl) ?_ ha9
  refine C_seq ?_
  refine C_region ?_
  refine V_y (Y_move rfl) rfl rfl rfl ?_
  refine V_y (Y_assign rfl) rfl rfl rfl ?_
  refine V_to (fun _ _ => rfl) ?_
  obtain rfl := Option.some.inj hm
  refine C_ret ?_
  try simp only [↓inBlock_ret, ↓then_ret]
  exact retQ rfl (Res.one Tryz.results70 rfl) ⟨rfl, rfl⟩

set_option maxRecDepth 4000 in
set_option maxHeartbeats 4000000 in
theorem cal_after_c (w : World) {A : Nat → Prop} (hA : ∀ b, w.heap.size ≤ b → A b) (a_ : cal_Shift) (b : cal_Shift) {r : Bool} (hm : cal_after a_ b = some r) : Ret Tryz.prog 63 #[.agg #[.int .i64 a_.day, .int .i64 a_.from_, .int .i64 a_.to_], .agg #[.int .i64 b.day, .int .i64 b.from_, .int .i64 b.to_]] w fun v w' => v = .bool r ∧ Kp Dw w w' := by
  unfold cal_after at hm
  refine enter Tryz.func63 rfl Tryz.ntmps63 rfl ?_
  have hA0 := hA
  have hB := Nat.le_refl w.heap.size
  have hK : Tr Dw w.heap.size A w A w := Tr.refl (Dw := Dw) hA
  have hH : Hp w.heap.size A w [] := Hp.nil
  refine C_seq ?_
  refine C_region ?_
  refine V_box rfl rfl ?_
  intro b1 w2 h3
  have hk5 := h3.kp (Dw := Dw)
  have h4 : El (α := cal_Shift) A w2 b1 0 a_ := h3.el hA ⟨[.int .i64 a_.day], _, rfl, rfl, ⟨[.int .i64 a_.from_], _, rfl, rfl, rfl⟩⟩
  have ht6 := Kp.tr (Dw := Dw) hk5 hA hB
  replace hH := Hp.kp (Dw := Dw) hH hk5
  replace hK := Tr.trans (Dw := Dw) hK ht6
  replace hB := Nat.le_trans hB ht6.ex.size
  replace hA := ht6.new
  refine V_box rfl rfl ?_
  intro b7 w9 h10
  have hk12 := h10.kp (Dw := Dw)
  have h11 : El (α := cal_Shift) A w9 b7 0 b := h10.el hA ⟨[.int .i64 b.day], _, rfl, rfl, ⟨[.int .i64 b.from_], _, rfl, rfl, rfl⟩⟩
  have ht13 := Kp.tr (Dw := Dw) hk12 hA hB
  replace hH := Hp.kp (Dw := Dw) hH hk12
  replace h4 := El.tr (Dw := Dw) h4 ht13
  replace hK := Tr.trans (Dw := Dw) hK ht13
  replace hB := Nat.le_trans hB ht13.ex.size
  replace hA := ht13.new
  refine V_y (Y_assign rfl) rfl rfl rfl ?_
  refine V_to (fun _ _ => rfl) ?_
  refine C_seq ?_
  refine C_region_qt (Dw := Dw) 15 Tryz_mixed (by kernel_rfl) ?_
  simp only [List.take, List.drop]
  have h14 := El_cal_Shift_0 h4
  refine VQ_y (fun w' hw' => Y_fieldAddr Tryz.underlying51 rfl Tryz.sizeOf3 (by decide) rfl) rfl rfl rfl ?_
  refine VQ_y (fun w' hw' => Y_load (El.int (El.kp (Dw := Dw) h14 hw')) Tryz.isAgg3 rfl) rfl rfl rfl ?_
  have h15 := El_cal_Shift_0 h11
  refine VQ_y (fun w' hw' => Y_fieldAddr Tryz.underlying51 rfl Tryz.sizeOf3 (by decide) rfl) rfl rfl rfl ?_
  refine VQ_y (fun w' hw' => Y_load (El.int (El.kp (Dw := Dw) h15 hw')) Tryz.isAgg3 rfl) rfl rfl rfl ?_
  refine VQ_call (.int .i64 (cmp_Compare_int a_.day b.day)) Tryz.call71 rfl rfl rfl rfl (fun w' hw' => (cmp_Compare_int_c w' a_.day b.day).mono (fun _ _ h => ⟨h.1, h.2 ▸ hw'⟩)) ?_
  have h16 := El_cal_Shift_1 h4
  refine VQ_y (fun w' hw' => Y_fieldAddr Tryz.underlying51 rfl Tryz.sizeOf3 (by decide) rfl) rfl rfl rfl ?_
  refine VQ_y (fun w' hw' => Y_load (El.int (El.kp (Dw := Dw) h16 hw')) Tryz.isAgg3 rfl) rfl rfl rfl ?_
  have h17 := El_cal_Shift_1 h11
  refine VQ_y (fun w' hw' => Y_fieldAddr Tryz.underlying51 rfl Tryz.sizeOf3 (by decide) rfl) rfl rfl rfl ?_
  refine VQ_y (fun w' hw' => Y_load (El.int (El.kp (Dw := Dw) h17 hw')) Tryz.isAgg3 rfl) rfl rfl rfl ?_
  refine VQ_call (.int .i64 (cmp_Compare_int a_.from_ b.from_)) Tryz.call71 rfl rfl rfl rfl (fun w' hw' => (cmp_Compare_int_c w' a_.from_ b.from_).mono (fun _ _ h => ⟨h.1, h.2 ▸ hw'⟩)) ?_
  have h18 := El_cal_Shift_2 h4
  refine VQ_y (fun w' hw' => Y_fieldAddr Tryz.underlying51 rfl Tryz.sizeOf3 (by decide) rfl) rfl rfl rfl ?_
  refine VQ_y (fun w' hw' => Y_load (El.int (El.kp (Dw := Dw) h18 hw')) Tryz.isAgg3 rfl) rfl rfl rfl ?_
  have h19 := El_cal_Shift_2 h11
  refine VQ_y (fun w' hw' => Y_fieldAddr Tryz.underlying51 rfl Tryz.sizeOf3 (by decide) rfl) rfl rfl rfl ?_
  refine VQ_y (fun w' hw' => Y_load (El.int (El.kp (Dw := Dw) h19 hw')) Tryz.isAgg3 rfl) rfl rfl rfl ?_
  refine VQ_call (.int .i64 (cmp_Compare_int a_.to_ b.to_)) Tryz.call71 rfl rfl rfl rfl (fun w' hw' => (cmp_Compare_int_c w' a_.to_ b.to_).mono (fun _ _ h => ⟨h.1, h.2 ▸ hw'⟩)) ?_
  refine VQ_tail (fun w20 hk21 => ?_)
  try simp only [List.take, List.drop]
  have ht22 := Kp.tr (Dw := Dw) hk21 hA hB
  replace hH := Hp.kp (Dw := Dw) hH hk21
  replace h4 := El.tr (Dw := Dw) h4 ht22
  replace h11 := El.tr (Dw := Dw) h11 ht22
  replace h14 := El.tr (Dw := Dw) h14 ht22
  replace h15 := El.tr (Dw := Dw) h15 ht22
  replace h16 := El.tr (Dw := Dw) h16 ht22
  replace h17 := El.tr (Dw := Dw) h17 ht22
  replace h18 := El.tr (Dw := Dw) h18 ht22
  replace h19 := El.tr (Dw := Dw) h19 ht22
  replace hK := Tr.trans (Dw := Dw) hK ht22
  replace hB := Nat.le_trans hB ht22.ex.size
  replace hA := ht22.new
  refine V_buildSlice (Dw := Dw) (cells := #[.int .i64 (cmp_Compare_int a_.day b.day), .int .i64 (cmp_Compare_int a_.from_ b.from_), .int .i64 (cmp_Compare_int a_.to_ b.to_)]) (l := ([(cmp_Compare_int a_.day b.day), (cmp_Compare_int a_.from_ b.from_), (cmp_Compare_int a_.to_ b.to_)] : List Int)) (len := 3) Tryz.underlying44 Tryz.sizeOf3 Tryz.zeroValue3 rfl (by generalize ((cmp_Compare_int a_.from_ b.from_) : Int) = z27; generalize ((cmp_Compare_int a_.day b.day) : Int) = z28; generalize ((cmp_Compare_int a_.to_ b.to_) : Int) = z29; kernel_rfl) (show (3 * 1 : Nat) ≠ 0 by decide) (show (3 * 1 : Nat) ≤ 2 ^ 24 by decide) hA ⟨[.int .i64 (cmp_Compare_int a_.day b.day)], _, rfl, rfl, ⟨[.int .i64 (cmp_Compare_int a_.from_ b.from_)], _, rfl, rfl, ⟨[.int .i64 (cmp_Compare_int a_.to_ b.to_)], _, rfl, rfl, rfl⟩⟩⟩ rfl rfl ?_
  intro v23 w24 hk26 h25
  have ht30 := Kp.tr (Dw := Dw) hk26 hA hB
  replace hH := Hp.kp (Dw := Dw) hH hk26
  replace h4 := El.tr (Dw := Dw) h4 ht30
  replace h11 := El.tr (Dw := Dw) h11 ht30
  replace h14 := El.tr (Dw := Dw) h14 ht30
  replace h15 := El.tr (Dw := Dw) h15 ht30
  replace h16 := El.tr (Dw := Dw) h16 ht30
  replace h17 := El.tr (Dw := Dw) h17 ht30
  replace h18 := El.tr (Dw := Dw) h18 ht30
  replace h19 := El.tr (Dw := Dw) h19 ht30
  replace hK := Tr.trans (Dw := Dw) hK ht30
  replace hB := Nat.le_trans hB ht30.ex.size
  replace hA := ht30.new
  obtain ⟨x31, hx31, hm⟩ := Option.bind_eq_some_iff.1 hm
  refine V_call Tryz.call70 rfl rfl rfl rfl (cmp_Or_int_c w24 ([(cmp_Compare_int a_.day b.day), (cmp_Compare_int a_.from_ b.from_), (cmp_Compare_int a_.to_ b.to_)] : List Int) v23 h25 hx31) ?_
  rintro _ _ ⟨rfl, rfl⟩
  refine V_y (Y_gtr rfl rfl) rfl rfl rfl ?_
  refine V_y (Y_assign rfl) rfl rfl rfl ?_
  refine V_to (fun _ _ => rfl) ?_
  obtain rfl := Option.some.inj hm
  refine C_ret ?_
  try simp only [↓inBlock_ret, ↓then_ret]
  exact retQ rfl (Res.one Tryz.results63 rfl) ⟨rfl, hK.kp⟩

set_option maxRecDepth 4000 in
set_option maxHeartbeats 4000000 in
theorem cal_checkShifts_c (w : World) {A : Nat → Prop} (hA : ∀ b, w.heap.size ≤ b → A b) (l : (List cal_Shift)) (v_l : Value) (h_l : Sl A w v_l l) (dated : Bool) {r : Int} (hm : cal_checkShifts l dated = some r) : Ret Tryz.prog 51 #[v_l, .bool dated] w fun v w' => v = .int .i64 r ∧ Kp Dw w w' := by
  unfold cal_checkShifts at hm
  refine enter Tryz.func51 rfl Tryz.ntmps51 rfl ?_
  have hA0 := hA
  have hB := Nat.le_refl w.heap.size
  have hK : Tr Dw w.heap.size A w A w := Tr.refl (Dw := Dw) hA
  have hH : Hp w.heap.size A w [] := Hp.nil
  refine C_seq ?_
  refine C_region ?_
  refine V_y (Y_assign rfl) rfl rfl rfl ?_
  refine V_to (fun _ _ => rfl) ?_
  refine C_seq ?_
  refine C_seq ?_
  refine C_region ?_
  refine V_y (Y_move rfl) rfl rfl rfl ?_
  refine V_y (Y_lenSl h_l rfl Tryz.underlying25 rfl) rfl rfl rfl ?_
  refine V_y (Y_move rfl) rfl rfl rfl ?_
  refine V_to (fun _ _ => rfl) ?_
  have hn23 := Sl.le h_l
  obtain ⟨o3, ho3, hm⟩ := Option.bind_eq_some_iff.1 hm
  refine C_cutG (ι := (Unit × (Nat → Prop))) (fun ⟨s4, A10⟩ => []) (fun ⟨s4, A10⟩ => fun w' => o3 = .fin s4 ∧ Hp w.heap.size A10 w' ([]) ∧ Tr Dw w.heap.size A w A10 w') ?_ ?_
  · refine C_block ?_
    refine C_range ho3 (fun k6 _ a w' => ∃ i : (Nat → Prop), Has ⟨58, [], none⟩ a ([(0, v_l), (1, .bool dated), (7, v_l), (8, .int .i64 (l.length : Int)), (9, .int .i64 (k6 : Int))]) ∧ Hp w.heap.size i w' ([]) ∧ Tr Dw w.heap.size A w i w') (fun a ha => ⟨A, ha.sub ⟨rfl, rfl, rfl, rfl, rfl, trivial⟩, ⟨hH, Tr.refl (Dw := Dw) hA⟩⟩) ?_
    rintro K k6 _ a w13 ⟨A14, ha71, hH15, hr5⟩ hle19 K22 h21
    refine C_of ?_ ha71
    replace h_l := Sl.tr (Dw := Dw) h_l hr5
    replace hK := Tr.trans (Dw := Dw) hK hr5
    replace hB := Nat.le_trans hB hr5.ex.size
    replace hA := hr5.new
    replace hH : Hp w.heap.size A14 w13 ([]) := hH15
    refine C_seq (C_region (V_y (Y_lss rfl rfl) rfl rfl rfl (V_to (fun _ _ => rfl) ?_)))
    refine C_seq ?_
    refine C_cond rfl (fun hc24 => ?_) (fun hc24 => ?_)
    · have hlt20 := lt_of_dec hc24
      obtain ⟨x16, h17, h18⟩ := K22 hlt20
      refine C_skip_to (fun _ _ => rfl) ?_
      refine C_seq ?_
      refine C_block ?_
      refine C_seq ?_
      refine C_region ?_
      refine V_y (Y_move rfl) rfl rfl rfl ?_
      obtain ⟨x25, hx25, h17⟩ := Option.bind_eq_some_iff.1 h17
      refine V_indexAddr h_l hx25 Tryz.underlying25 Tryz.sizeOf51 rfl rfl rfl ?_
      intro b26 o27 h28
      obtain ⟨h29, _⟩ := El_cal_Shift h28
      refine V_y (Y_loadA h29 Tryz.isAgg51 Tryz.sizeOf51 rfl) rfl rfl rfl ?_
      refine V_alloc Tryz.zeroValue51 rfl ?_
      intro b30 w31 h32
      refine V_y (Y_assign rfl) rfl rfl rfl ?_
      refine V_storeNew h32 Tryz.sizeOf51 rfl rfl rfl rfl (by exact (List.forall_mem_cons.2 ⟨rfl, (List.forall_mem_cons.2 ⟨rfl, (List.forall_mem_cons.2 ⟨rfl, (fun _ h => nomatch h)⟩)⟩)⟩)) ?_
      intro w33 h34
      have hk36 := h34.kp (Dw := Dw)
      have h35 : El (α := cal_Shift) A14 w33 b30 0 x25 := h34.el hA ⟨[.int .i64 x25.day], _, rfl, rfl, ⟨[.int .i64 x25.from_], _, rfl, rfl, rfl⟩⟩
      have ht37 := Kp.tr (Dw := Dw) hk36 hA hB
      replace hH := Hp.kp (Dw := Dw) hH hk36
      replace h_l := Sl.tr (Dw := Dw) h_l ht37
      replace h28 := El.tr (Dw := Dw) h28 ht37
      replace hK := Tr.trans (Dw := Dw) hK ht37
      replace hr5 := Tr.trans (Dw := Dw) hr5 ht37
      replace hB := Nat.le_trans hB ht37.ex.size
      replace hA := ht37.new
      refine V_to (fun _ _ => rfl) ?_
      refine C_seq ?_
      refine C_seq ?_
      refine C_region ?_
      refine V_y (Y_move rfl) rfl rfl rfl ?_
      refine V_y (Y_move rfl) rfl rfl rfl ?_
      refine V_cut 4 (fun _ : Unit => [(0, v_l), (1, .bool dated), (5, .int .i64 (k6 : Int)), (6, .pointer (some ⟨b30, 0, none⟩)), (7, v_l), (8, .int .i64 (l.length : Int)), (9, .int .i64 (k6 : Int)), (19, .bool (dated && (x25.day != 0)))]) (fun _ w' => w33 = w') ?_ ?_
      · simp only [List.take, List.drop]
        rcases Bool.eq_false_or_eq_true (dated) with hc38 | hc38
        · refine V_ge rfl rfl rfl hc38 ?_
          have h40 := El_cal_Shift_0 h35
          refine V_y (Y_fieldAddr Tryz.underlying51 rfl Tryz.sizeOf3 (by decide) rfl) rfl rfl rfl ?_
          refine V_ge rfl rfl rfl hc38 ?_
          refine V_y (Y_load (El.int h40) Tryz.isAgg3 rfl) rfl rfl rfl ?_
          refine V_ge rfl rfl rfl hc38 ?_
          refine V_y (Y_neq rfl rfl) rfl rfl rfl ?_
          refine V_y (Y_pick_te rfl hc38 rfl) rfl rfl rfl ?_
          exact V_end fun a ha => ⟨(), ha.sub ⟨rfl, rfl, rfl, rfl, rfl, rfl, rfl, (by rw [hc38]; rfl), trivial⟩, rfl⟩
        · refine V_gn rfl rfl rfl hc38 rfl rfl rfl ?_
          refine V_gn rfl rfl rfl hc38 rfl rfl rfl ?_
          refine V_gn rfl rfl rfl hc38 rfl rfl rfl ?_
          refine V_y (Y_pick_fe rfl hc38 rfl) rfl rfl rfl ?_
          exact V_end fun a ha => ⟨(), ha.sub ⟨rfl, rfl, rfl, rfl, rfl, rfl, rfl, (by rw [hc38]; rfl), trivial⟩, rfl⟩
      simp only [List.take, List.drop]
      rintro _ _ rfl
      refine V_to (fun _ _ => rfl) ?_
      refine C_cond rfl (fun hc41 => ?_) (fun hc41 => ?_)
      · rw [if_pos hc41] at h17
        refine C_seq ?_
        refine C_region ?_
        refine V_y (Y_assign rfl) rfl rfl rfl ?_
        refine V_to (fun _ _ => rfl) ?_
        obtain rfl := Option.some.inj h17
        obtain rfl := (h18 : Lp.rt _ = _)
        rw [Lp.andThen_rt] at hm
        obtain rfl := Option.some.inj hm
        refine C_ret ?_
        try simp only [↓inBlock_ret, ↓then_ret]
        exact retQ rfl (Res.one Tryz.results51 rfl) ⟨rfl, hK.kp⟩
      · rw [if_neg (nt hc41)] at h17
        refine C_skip_to (fun _ _ => rfl) ?_
        refine C_seq ?_
        refine C_seq ?_
        refine C_region ?_
        have h42 := El_cal_Shift_0 h35
        refine V_y (Y_fieldAddr Tryz.underlying51 rfl Tryz.sizeOf3 (by decide) rfl) rfl rfl rfl ?_
        refine V_y (Y_load (El.int h42) Tryz.isAgg3 rfl) rfl rfl rfl ?_
        refine V_call Tryz.call52 rfl rfl rfl rfl (cal_within_c w33 x25.day 0 6) ?_
        rintro _ _ ⟨rfl, rfl⟩
        refine V_y (Y_not rfl) rfl rfl rfl ?_
        refine V_y (Y_move rfl) rfl rfl rfl ?_
        refine V_cut 5 (fun _ : Unit => [(0, v_l), (1, .bool dated), (5, .int .i64 (k6 : Int)), (6, .pointer (some ⟨b30, 0, none⟩)), (7, v_l), (8, .int .i64 (l.length : Int)), (9, .int .i64 (k6 : Int)), (29, .bool ((!(cal_within x25.day 0 6)) || (!(cal_within x25.from_ 0 1439))))]) (fun _ w' => w33 = w') ?_ ?_
        · simp only [List.take, List.drop]
          rcases Bool.eq_false_or_eq_true (!(cal_within x25.day 0 6)) with hc43 | hc43
          · refine V_gn rfl rfl rfl hc43 rfl rfl rfl ?_
            refine V_gn rfl rfl rfl hc43 rfl rfl rfl ?_
            refine V_gn rfl rfl rfl hc43 rfl rfl rfl ?_
            refine V_gn rfl rfl rfl hc43 rfl rfl rfl ?_
            refine V_y (Y_pick_te rfl hc43 rfl) rfl rfl rfl ?_
            exact V_end fun a ha => ⟨(), ha.sub ⟨rfl, rfl, rfl, rfl, rfl, rfl, rfl, (by rw [hc43]; rfl), trivial⟩, rfl⟩
          · refine V_ge rfl rfl rfl hc43 ?_
            have h45 := El_cal_Shift_1 h35
            refine V_y (Y_fieldAddr Tryz.underlying51 rfl Tryz.sizeOf3 (by decide) rfl) rfl rfl rfl ?_
            refine V_ge rfl rfl rfl hc43 ?_
            refine V_y (Y_load (El.int h45) Tryz.isAgg3 rfl) rfl rfl rfl ?_
            refine V_ge rfl rfl rfl hc43 ?_
            refine V_call Tryz.call52 rfl rfl rfl rfl (cal_within_c w33 x25.from_ 0 1439) ?_
            rintro _ _ ⟨rfl, rfl⟩
            refine V_ge rfl rfl rfl hc43 ?_
            refine V_y (Y_not rfl) rfl rfl rfl ?_
            refine V_y (Y_pick_fe rfl hc43 rfl) rfl rfl rfl ?_
            exact V_end fun a ha => ⟨(), ha.sub ⟨rfl, rfl, rfl, rfl, rfl, rfl, rfl, (by rw [hc43]; rfl), trivial⟩, rfl⟩
        simp only [List.take, List.drop]
        rintro _ _ rfl
        refine V_y (Y_move rfl) rfl rfl rfl ?_
        refine V_cut 6 (fun _ : Unit => [(0, v_l), (1, .bool dated), (5, .int .i64 (k6 : Int)), (6, .pointer (some ⟨b30, 0, none⟩)), (7, v_l), (8, .int .i64 (l.length : Int)), (9, .int .i64 (k6 : Int)), (36, .bool (((!(cal_within x25.day 0 6)) || (!(cal_within x25.from_ 0 1439))) || (decide (x25.to_ ≤ x25.from_))))]) (fun _ w' => w33 = w') ?_ ?_
        · simp only [List.take, List.drop]
          rcases Bool.eq_false_or_eq_true (((!(cal_within x25.day 0 6)) || (!(cal_within x25.from_ 0 1439)))) with hc46 | hc46
          · refine V_gn rfl rfl rfl hc46 rfl rfl rfl ?_
            refine V_gn rfl rfl rfl hc46 rfl rfl rfl ?_
            refine V_gn rfl rfl rfl hc46 rfl rfl rfl ?_
            refine V_gn rfl rfl rfl hc46 rfl rfl rfl ?_
            refine V_gn rfl rfl rfl hc46 rfl rfl rfl ?_
            refine V_y (Y_pick_te rfl hc46 rfl) rfl rfl rfl ?_
            exact V_end fun a ha => ⟨(), ha.sub ⟨rfl, rfl, rfl, rfl, rfl, rfl, rfl, (by rw [hc46]; rfl), trivial⟩, rfl⟩
          · refine V_ge rfl rfl rfl hc46 ?_
            have h48 := El_cal_Shift_2 h35
            refine V_y (Y_fieldAddr Tryz.underlying51 rfl Tryz.sizeOf3 (by decide) rfl) rfl rfl rfl ?_
            refine V_ge rfl rfl rfl hc46 ?_
            refine V_y (Y_load (El.int h48) Tryz.isAgg3 rfl) rfl rfl rfl ?_
            refine V_ge rfl rfl rfl hc46 ?_
            have h49 := El_cal_Shift_1 h35
            refine V_y (Y_fieldAddr Tryz.underlying51 rfl Tryz.sizeOf3 (by decide) rfl) rfl rfl rfl ?_
            refine V_ge rfl rfl rfl hc46 ?_
            refine V_y (Y_load (El.int h49) Tryz.isAgg3 rfl) rfl rfl rfl ?_
            refine V_ge rfl rfl rfl hc46 ?_
            refine V_y (Y_leq rfl rfl) rfl rfl rfl ?_
            refine V_y (Y_pick_fe rfl hc46 rfl) rfl rfl rfl ?_
            exact V_end fun a ha => ⟨(), ha.sub ⟨rfl, rfl, rfl, rfl, rfl, rfl, rfl, (by rw [hc46]; rfl), trivial⟩, rfl⟩
        simp only [List.take, List.drop]
        rintro _ _ rfl
        refine V_y (Y_move rfl) rfl rfl rfl ?_
        refine V_cut 7 (fun _ : Unit => [(0, v_l), (1, .bool dated), (5, .int .i64 (k6 : Int)), (6, .pointer (some ⟨b30, 0, none⟩)), (7, v_l), (8, .int .i64 (l.length : Int)), (9, .int .i64 (k6 : Int)), (44, .bool ((((!(cal_within x25.day 0 6)) || (!(cal_within x25.from_ 0 1439))) || (decide (x25.to_ ≤ x25.from_))) || (decide ((w64 (x25.from_ + 1440)) < x25.to_))))]) (fun _ w' => w33 = w') ?_ ?_
        · simp only [List.take, List.drop]
          rcases Bool.eq_false_or_eq_true ((((!(cal_within x25.day 0 6)) || (!(cal_within x25.from_ 0 1439))) || (decide (x25.to_ ≤ x25.from_)))) with hc50 | hc50
          · refine V_gn rfl rfl rfl hc50 rfl rfl rfl ?_
            refine V_gn rfl rfl rfl hc50 rfl rfl rfl ?_
            refine V_gn rfl rfl rfl hc50 rfl rfl rfl ?_
            refine V_gn rfl rfl rfl hc50 rfl rfl rfl ?_
            refine V_gn rfl rfl rfl hc50 rfl rfl rfl ?_
            refine V_gn rfl rfl rfl hc50 rfl rfl rfl ?_
            refine V_y (Y_pick_te rfl hc50 rfl) rfl rfl rfl ?_
            exact V_end fun a ha => ⟨(), ha.sub ⟨rfl, rfl, rfl, rfl, rfl, rfl, rfl, (by rw [hc50]; rfl), trivial⟩, rfl⟩
          · refine V_ge rfl rfl rfl hc50 ?_
            have h52 := El_cal_Shift_2 h35
            refine V_y (Y_fieldAddr Tryz.underlying51 rfl Tryz.sizeOf3 (by decide) rfl) rfl rfl rfl ?_
            refine V_ge rfl rfl rfl hc50 ?_
            refine V_y (Y_load (El.int h52) Tryz.isAgg3 rfl) rfl rfl rfl ?_
            refine V_ge rfl rfl rfl hc50 ?_
            have h53 := El_cal_Shift_1 h35
            refine V_y (Y_fieldAddr Tryz.underlying51 rfl Tryz.sizeOf3 (by decide) rfl) rfl rfl rfl ?_
            refine V_ge rfl rfl rfl hc50 ?_
            refine V_y (Y_load (El.int h53) Tryz.isAgg3 rfl) rfl rfl rfl ?_
            refine V_ge rfl rfl rfl hc50 ?_
            refine V_y (Y_addI rfl rfl) rfl rfl rfl ?_
            refine V_ge rfl rfl rfl hc50 ?_
            refine V_y (Y_gtr rfl rfl) rfl rfl rfl ?_
            refine V_y (Y_pick_fe rfl hc50 rfl) rfl rfl rfl ?_
            exact V_end fun a ha => ⟨(), ha.sub ⟨rfl, rfl, rfl, rfl, rfl, rfl, rfl, (by rw [hc50]; rfl), trivial⟩, rfl⟩
        simp only [List.take, List.drop]
        rintro _ _ rfl
        refine V_to (fun _ _ => rfl) ?_
        refine C_cond rfl (fun hc54 => ?_) (fun hc54 => ?_)
        · rw [if_pos hc54] at h17
          refine C_seq ?_
          refine C_region ?_
          refine V_y (Y_assign rfl) rfl rfl rfl ?_
          refine V_to (fun _ _ => rfl) ?_
          obtain rfl := Option.some.inj h17
          obtain rfl := (h18 : Lp.rt _ = _)
          rw [Lp.andThen_rt] at hm
          obtain rfl := Option.some.inj hm
          refine C_ret ?_
          try simp only [↓inBlock_ret, ↓then_ret]
          exact retQ rfl (Res.one Tryz.results51 rfl) ⟨rfl, hK.kp⟩
        · rw [if_neg (nt hc54)] at h17
          refine C_skip_to (fun _ _ => rfl) ?_
          refine C_seq ?_
          refine C_region_q (Dw := Dw) Tryz_mixed (by kernel_rfl) ?_
          refine VQ_y (fun w' hw' => Y_move rfl) rfl rfl rfl ?_
          refine VQ_y (fun w' hw' => Y_gtr rfl rfl) rfl rfl rfl ?_
          refine VQ_y (fun w' hw' => Y_move rfl) rfl rfl rfl ?_
          obtain ⟨s56, hs56, h17⟩ := Option.bind_eq_some_iff.1 h17
          refine VQ_cut 9 (fun _ : Unit => [(0, v_l), (1, .bool dated), (7, v_l), (8, .int .i64 (l.length : Int)), (9, .int .i64 (k6 : Int)), (56, .bool s56)]) (fun _ => True) ?_ ?_
          · simp only [List.take, List.drop]
            rcases Bool.eq_false_or_eq_true (decide ((0 : Int) < (k6 : Int))) with hc55 | hc55
            · rw [if_pos hc55] at hs56
              refine VQ_ge rfl rfl rfl hc55 ?_
              obtain ⟨h57, _⟩ := El_cal_Shift h35
              refine VQ_y (fun w' hw' => Y_loadA (At.kp (Dw := Dw) h57 hw' h35.2.1) Tryz.isAgg51 Tryz.sizeOf51 rfl) rfl rfl rfl ?_
              refine VQ_ge rfl rfl rfl hc55 ?_
              refine VQ_y (fun w' hw' => Y_move rfl) rfl rfl rfl ?_
              refine VQ_ge rfl rfl rfl hc55 ?_
              refine VQ_y (fun w' hw' => Y_move rfl) rfl rfl rfl ?_
              refine VQ_ge rfl rfl rfl hc55 ?_
              refine VQ_y (fun w' hw' => Y_subI rfl rfl) rfl rfl rfl ?_
              refine VQ_ge rfl rfl rfl hc55 ?_
              obtain ⟨x58, hx58, hs56⟩ := Option.bind_eq_some_iff.1 hs56
              refine VQ_indexAddr h_l hx58 Tryz.underlying25 Tryz.sizeOf51 rfl rfl rfl ?_
              intro b59 o60 h61
              refine VQ_ge rfl rfl rfl hc55 ?_
              obtain ⟨h62, _⟩ := El_cal_Shift h61
              refine VQ_y (fun w' hw' => Y_loadA (At.kp (Dw := Dw) h62 hw' h61.2.1) Tryz.isAgg51 Tryz.sizeOf51 rfl) rfl rfl rfl ?_
              refine VQ_ge rfl rfl rfl hc55 ?_
              obtain ⟨x63, hx63, hs56⟩ := Option.bind_eq_some_iff.1 hs56
              refine VQ_call (.bool x63) Tryz.call63 rfl rfl rfl rfl (fun w' hw' => (cal_after_c (Dw := Dw) w' (fun b hb => hA b (Nat.le_trans hw'.size hb)) x25 x58 hx63).mono (fun _ _ h => ⟨h.1, Kp.trans (Dw := Dw) hw' h.2⟩)) ?_
              refine VQ_ge rfl rfl rfl hc55 ?_
              refine VQ_y (fun w' hw' => Y_not rfl) rfl rfl rfl ?_
              refine VQ_y (fun _ _ => Y_pick_te rfl hc55 rfl) rfl rfl rfl ?_
              obtain rfl := Option.some.inj hs56
              exact VQ_end fun a ha => ⟨(), ha.sub ⟨rfl, rfl, rfl, rfl, rfl, rfl, trivial⟩, trivial⟩
            · rw [if_neg (nt hc55)] at hs56
              refine VQ_gn rfl rfl rfl hc55 rfl rfl rfl ?_
              refine VQ_gn rfl rfl rfl hc55 rfl rfl rfl ?_
              refine VQ_gn rfl rfl rfl hc55 rfl rfl rfl ?_
              refine VQ_gn rfl rfl rfl hc55 rfl rfl rfl ?_
              refine VQ_gn rfl rfl rfl hc55 rfl rfl rfl ?_
              refine VQ_gn rfl rfl rfl hc55 rfl rfl rfl ?_
              refine VQ_gn rfl rfl rfl hc55 rfl rfl rfl ?_
              refine VQ_gn rfl rfl rfl hc55 rfl rfl rfl ?_
              refine VQ_y (fun _ _ => Y_pick_fe rfl hc55 rfl) rfl rfl rfl ?_
              obtain rfl := Option.some.inj hs56
              exact VQ_end fun a ha => ⟨(), ha.sub ⟨rfl, rfl, rfl, rfl, rfl, rfl, trivial⟩, trivial⟩
          simp only [List.take, List.drop]
          rintro _ _
          refine VQ_to (fun _ _ => rfl) (fun w65 hk66 => ?_)
          have ht67 := Kp.tr (Dw := Dw) hk66 hA hB
          replace hH := Hp.kp (Dw := Dw) hH hk66
          replace h_l := Sl.tr (Dw := Dw) h_l ht67
          replace hK := Tr.trans (Dw := Dw) hK ht67
          replace hr5 := Tr.trans (Dw := Dw) hr5 ht67
          replace hB := Nat.le_trans hB ht67.ex.size
          replace hA := ht67.new
          refine C_cond rfl (fun hc68 => ?_) (fun hc68 => ?_)
          · rw [if_pos hc68] at h17
            refine C_seq ?_
            refine C_region ?_
            refine V_y (Y_assign rfl) rfl rfl rfl ?_
            refine V_to (fun _ _ => rfl) ?_
            obtain rfl := Option.some.inj h17
            obtain rfl := (h18 : Lp.rt _ = _)
            rw [Lp.andThen_rt] at hm
            obtain rfl := Option.some.inj hm
            refine C_ret ?_
            try simp only [↓inBlock_ret, ↓then_ret]
            exact retQ rfl (Res.one Tryz.results51 rfl) ⟨rfl, hK.kp⟩
          · rw [if_neg (nt hc68)] at h17
            refine C_skip_to (fun _ _ => rfl) ?_
            refine C_region ?_
            refine V_y (Y_addI rfl rfl) rfl rfl rfl ?_
            refine V_y (Y_move rfl) rfl rfl rfl ?_
            obtain rfl := Option.some.inj h17
            refine V_end (fun a ha69 => ?_)
            exact ⟨(), hlt20, h18, ⟨A14, ha69.sub ⟨rfl, rfl, rfl, rfl, (congrArg (fun z => some (Value.int .i64 z)) (w64_succ hlt20 hn23)), trivial⟩, ⟨hH, hr5⟩⟩⟩
    · refine C_exit (fun a ha70 => ?_)
      exact ⟨((), A14), ha70.sub trivial, ⟨(h21 (eq_of_dec hle19 hc24)).symm, hH, hr5⟩⟩
  rintro ⟨s4, A10⟩ w7 ⟨rfl, hH11, hk8⟩ a ha9
  rw [Lp.andThen_fin] at hm
  replace hK := Tr.trans (Dw := Dw) hK hk8
  replace hB := Nat.le_trans hB hk8.ex.size
  replace hA := hk8.new
  replace hH : Hp w.heap.size A10 w7 ([]) := hH11
  refine C_at (n := ⟨58, [], none⟩) (fun _ _ => rfl) ?_ ha9
  refine C_seq ?_
  refine C_region ?_
  refine V_y (Y_assign rfl) rfl rfl rfl ?_
  refine V_to (fun _ _ => rfl) ?_
  obtain rfl := Option.some.inj hm
  refine C_ret ?_
  try simp only [↓inBlock_ret, ↓then_ret]
  exact retQ rfl (Res.one Tryz.results51 rfl) ⟨rfl, hK.kp⟩

set_option maxRecDepth 4000 in
set_option maxHeartbeats 4000000 in
theorem cal_CheckCalendar_c (w : World) {A : Nat → Prop} (hA : ∀ b, w.heap.size ≤ b → A b) (c : cal_Calendar) (v_c0 : Value) (h_c0 : Sl A w v_c0 c.zone.changes) (v_c1 : Value) (h_c1 : Sl A w v_c1 c.week) (v_c2 : Value) (h_c2 : Sl A w v_c2 c.specials) {r : Int} (hm : cal_CheckCalendar c = some r) : Ret Tryz.prog 9 #[.agg #[.int .i64 c.zone.offset, v_c0, v_c1, v_c2]] w fun v w' => v = .int .i64 r ∧ Kp Dw w w' := by
  unfold cal_CheckCalendar at hm
  refine enter Tryz.func9 rfl Tryz.ntmps9 rfl ?_
  have hA0 := hA
  have hB := Nat.le_refl w.heap.size
  have hK : Tr Dw w.heap.size A w A w := Tr.refl (Dw := Dw) hA
  have hH : Hp w.heap.size A w [] := Hp.nil
  refine C_seq ?_
  refine C_region ?_
  refine V_box rfl rfl ?_
  intro b7 w9 h10
  have hk12 := h10.kp (Dw := Dw)
  have h11 : El (α := cal_Calendar) A w9 b7 0 c := h10.el hA ⟨[.int .i64 c.zone.offset, v_c0], _, rfl, ⟨[.int .i64 c.zone.offset], _, rfl, rfl, ⟨_, rfl, h_c0⟩⟩, ⟨[v_c1], _, rfl, ⟨_, rfl, h_c1⟩, ⟨_, rfl, h_c2⟩⟩⟩
  have ht13 := Kp.tr (Dw := Dw) hk12 hA hB
  replace hH := Hp.kp (Dw := Dw) hH hk12
  replace h_c0 := Sl.tr (Dw := Dw) h_c0 ht13
  replace h_c1 := Sl.tr (Dw := Dw) h_c1 ht13
  replace h_c2 := Sl.tr (Dw := Dw) h_c2 ht13
  replace hK := Tr.trans (Dw := Dw) hK ht13
  replace hB := Nat.le_trans hB ht13.ex.size
  replace hA := ht13.new
  refine V_y (Y_assign rfl) rfl rfl rfl ?_
  refine V_to (fun _ _ => rfl) ?_
  refine C_seq ?_
  refine C_seq ?_
  refine C_region ?_
  have h14 := El_cal_Calendar_0 h11
  refine V_y (Y_fieldAddr Tryz.underlying28 rfl Tryz.sizeOf24 (by decide) rfl) rfl rfl rfl ?_
  obtain ⟨v15, h17, h16⟩ := El_cal_Zone h14
  refine V_y (Y_loadA h17 Tryz.isAgg24 Tryz.sizeOf24 rfl) rfl rfl rfl ?_
  obtain ⟨x18, hx18, hm⟩ := Option.bind_eq_some_iff.1 hm
  refine V_call Tryz.call50 rfl rfl rfl rfl (cal_CheckZone_c (Dw := Dw) w9 hA c.zone v15 h16 hx18) ?_
  rintro _ w19 ⟨rfl, hk20⟩
  have ht21 := Kp.tr (Dw := Dw) hk20 hA hB
  replace hH := Hp.kp (Dw := Dw) hH hk20
  replace h11 := El.tr (Dw := Dw) h11 ht21
  replace h14 := El.tr (Dw := Dw) h14 ht21
  replace h16 := Sl.tr (Dw := Dw) h16 ht21
  replace hK := Tr.trans (Dw := Dw) hK ht21
  replace hB := Nat.le_trans hB ht21.ex.size
  replace hA := ht21.new
  refine V_y (Y_assign rfl) rfl rfl rfl ?_
  refine V_to (fun _ _ => rfl) ?_
  refine C_seq ?_
  refine C_region ?_
  refine V_y (Y_move rfl) rfl rfl rfl ?_
  refine V_y (Y_neq rfl rfl) rfl rfl rfl ?_
  refine V_to (fun _ _ => rfl) ?_
  refine C_cond rfl (fun hc22 => ?_) (fun hc22 => ?_)
  · rw [if_pos hc22] at hm
    refine C_seq ?_
    refine C_region ?_
    refine V_y (Y_move rfl) rfl rfl rfl ?_
    refine V_y (Y_assign rfl) rfl rfl rfl ?_
    refine V_to (fun _ _ => rfl) ?_
    obtain rfl := Option.some.inj hm
    refine C_ret ?_
    try simp only [↓inBlock_ret, ↓then_ret]
    exact retQ rfl (Res.one Tryz.results9 rfl) ⟨rfl, hK.kp⟩
  · rw [if_neg (nt hc22)] at hm
    refine C_skip_to (fun _ _ => rfl) ?_
    refine C_seq ?_
    refine C_seq ?_
    refine C_region ?_
    have h23 := El_cal_Calendar_1 h11
    refine V_y (Y_fieldAddr Tryz.underlying28 rfl Tryz.sizeOf25 (by decide) rfl) rfl rfl rfl ?_
    obtain ⟨v24, h25, h26⟩ := El.list h23
    refine V_y (Y_load h25 Tryz.isAgg25 rfl) rfl rfl rfl ?_
    refine V_y (Y_lenSl h26 rfl Tryz.underlying25 rfl) rfl rfl rfl ?_
    refine V_y (Y_gtr rfl rfl) rfl rfl rfl ?_
    refine V_y (Y_move rfl) rfl rfl rfl ?_
    refine V_cut 5 (fun _ : Unit => [(1, .pointer (some ⟨b7, 0, none⟩)), (23, .bool ((decide ((60 : Int) < (c.week.length : Int))) || (decide ((200 : Int) < (c.specials.length : Int)))))]) (fun _ w' => w19 = w') ?_ ?_
    · simp only [List.take, List.drop]
      rcases Bool.eq_false_or_eq_true (decide ((60 : Int) < (c.week.length : Int))) with hc27 | hc27
      · refine V_gn rfl rfl rfl hc27 rfl rfl rfl ?_
        refine V_gn rfl rfl rfl hc27 rfl rfl rfl ?_
        refine V_gn rfl rfl rfl hc27 rfl rfl rfl ?_
        refine V_gn rfl rfl rfl hc27 rfl rfl rfl ?_
        refine V_y (Y_pick_te rfl hc27 rfl) rfl rfl rfl ?_
        exact V_end fun a ha => ⟨(), ha.sub ⟨rfl, (by rw [hc27]; rfl), trivial⟩, rfl⟩
      · refine V_ge rfl rfl rfl hc27 ?_
        have h29 := El_cal_Calendar_2 h11
        refine V_y (Y_fieldAddr Tryz.underlying28 rfl Tryz.sizeOf26 (by decide) rfl) rfl rfl rfl ?_
        refine V_ge rfl rfl rfl hc27 ?_
        obtain ⟨v30, h31, h32⟩ := El.list h29
        refine V_y (Y_load h31 Tryz.isAgg26 rfl) rfl rfl rfl ?_
        refine V_ge rfl rfl rfl hc27 ?_
        refine V_y (Y_lenSl h32 rfl Tryz.underlying26 rfl) rfl rfl rfl ?_
        refine V_ge rfl rfl rfl hc27 ?_
        refine V_y (Y_gtr rfl rfl) rfl rfl rfl ?_
        refine V_y (Y_pick_fe rfl hc27 rfl) rfl rfl rfl ?_
        exact V_end fun a ha => ⟨(), ha.sub ⟨rfl, (by rw [hc27]; rfl), trivial⟩, rfl⟩
    simp only [List.take, List.drop]
    rintro _ _ rfl
    refine V_to (fun _ _ => rfl) ?_
    refine C_cond rfl (fun hc33 => ?_) (fun hc33 => ?_)
    · rw [if_pos hc33] at hm
      refine C_seq ?_
      refine C_region ?_
      refine V_y (Y_assign rfl) rfl rfl rfl ?_
      refine V_to (fun _ _ => rfl) ?_
      obtain rfl := Option.some.inj hm
      refine C_ret ?_
      try simp only [↓inBlock_ret, ↓then_ret]
      exact retQ rfl (Res.one Tryz.results9 rfl) ⟨rfl, hK.kp⟩
    · rw [if_neg (nt hc33)] at hm
      refine C_skip_to (fun _ _ => rfl) ?_
      refine C_seq ?_
      refine C_seq ?_
      refine C_region ?_
      have h34 := El_cal_Calendar_1 h11
      refine V_y (Y_fieldAddr Tryz.underlying28 rfl Tryz.sizeOf25 (by decide) rfl) rfl rfl rfl ?_
      obtain ⟨v35, h36, h37⟩ := El.list h34
      refine V_y (Y_load h36 Tryz.isAgg25 rfl) rfl rfl rfl ?_
      obtain ⟨x38, hx38, hm⟩ := Option.bind_eq_some_iff.1 hm
      refine V_call Tryz.call51 rfl rfl rfl rfl (cal_checkShifts_c (Dw := Dw) w19 hA c.week v35 h37 false hx38) ?_
      rintro _ w39 ⟨rfl, hk40⟩
      have ht41 := Kp.tr (Dw := Dw) hk40 hA hB
      replace hH := Hp.kp (Dw := Dw) hH hk40
      replace h11 := El.tr (Dw := Dw) h11 ht41
      replace h34 := El.tr (Dw := Dw) h34 ht41
      replace h37 := Sl.tr (Dw := Dw) h37 ht41
      replace hK := Tr.trans (Dw := Dw) hK ht41
      replace hB := Nat.le_trans hB ht41.ex.size
      replace hA := ht41.new
      refine V_y (Y_assign rfl) rfl rfl rfl ?_
      refine V_to (fun _ _ => rfl) ?_
      refine C_seq ?_
      refine C_region ?_
      refine V_y (Y_move rfl) rfl rfl rfl ?_
      refine V_y (Y_neq rfl rfl) rfl rfl rfl ?_
      refine V_to (fun _ _ => rfl) ?_
      refine C_cond rfl (fun hc42 => ?_) (fun hc42 => ?_)
      · rw [if_pos hc42] at hm
        refine C_seq ?_
        refine C_region ?_
        refine V_y (Y_move rfl) rfl rfl rfl ?_
        refine V_y (Y_assign rfl) rfl rfl rfl ?_
        refine V_to (fun _ _ => rfl) ?_
        obtain rfl := Option.some.inj hm
        refine C_ret ?_
        try simp only [↓inBlock_ret, ↓then_ret]
        exact retQ rfl (Res.one Tryz.results9 rfl) ⟨rfl, hK.kp⟩
      · rw [if_neg (nt hc42)] at hm
        refine C_skip_to (fun _ _ => rfl) ?_
        refine C_seq ?_
        refine C_seq ?_
        refine C_region ?_
        have h43 := El_cal_Calendar_2 h11
        refine V_y (Y_fieldAddr Tryz.underlying28 rfl Tryz.sizeOf26 (by decide) rfl) rfl rfl rfl ?_
        obtain ⟨v44, h45, h46⟩ := El.list h43
        refine V_y (Y_load h45 Tryz.isAgg26 rfl) rfl rfl rfl ?_
        refine V_y (Y_lenSl h46 rfl Tryz.underlying26 rfl) rfl rfl rfl ?_
        refine V_y (Y_move rfl) rfl rfl rfl ?_
        refine V_to (fun _ _ => rfl) ?_
        have hn67 := Sl.le h46
        obtain ⟨o47, ho47, hm⟩ := Option.bind_eq_some_iff.1 hm
        refine C_cutG (ι := (Unit × (Nat → Prop))) (fun ⟨s48, A54⟩ => []) (fun ⟨s48, A54⟩ => fun w' => o47 = .fin s48 ∧ Hp w.heap.size A54 w' ([]) ∧ Tr Dw w.heap.size A w39 A54 w') ?_ ?_
        · refine C_block ?_
          refine C_range ho47 (fun k50 _ a w' => ∃ i : (Nat → Prop), Has ⟨70, [], none⟩ a ([(1, .pointer (some ⟨b7, 0, none⟩)), (31, v44), (32, .int .i64 (c.specials.length : Int)), (33, .int .i64 (k50 : Int))]) ∧ Hp w.heap.size i w' ([]) ∧ Tr Dw w.heap.size A w39 i w') (fun a ha => ⟨A, ha.sub ⟨rfl, rfl, rfl, rfl, trivial⟩, ⟨hH, Tr.refl (Dw := Dw) hA⟩⟩) ?_
          rintro K k50 _ a w57 ⟨A58, ha121, hH59, hr49⟩ hle63 K66 h65
          refine C_of ?_ ha121
          replace h11 := El.tr (Dw := Dw) h11 hr49
          replace h46 := Sl.tr (Dw := Dw) h46 hr49
          replace hK := Tr.trans (Dw := Dw) hK hr49
          replace hB := Nat.le_trans hB hr49.ex.size
          replace hA := hr49.new
          replace hH : Hp w.heap.size A58 w57 ([]) := hH59
          refine C_seq (C_region (V_y (Y_lss rfl rfl) rfl rfl rfl (V_to (fun _ _ => rfl) ?_)))
          refine C_seq ?_
          refine C_cond rfl (fun hc68 => ?_) (fun hc68 => ?_)
          · have hlt64 := lt_of_dec hc68
            obtain ⟨x60, h61, h62⟩ := K66 hlt64
            refine C_skip_to (fun _ _ => rfl) ?_
            refine C_seq ?_
            refine C_block ?_
            refine C_seq ?_
            refine C_region ?_
            refine V_y (Y_move rfl) rfl rfl rfl ?_
            obtain ⟨x69, hx69, h61⟩ := Option.bind_eq_some_iff.1 h61
            refine V_indexAddr h46 hx69 Tryz.underlying26 Tryz.sizeOf53 rfl rfl rfl ?_
            intro b70 o71 h72
            obtain ⟨v73, h75, h74⟩ := El_cal_Special h72
            refine V_y (Y_loadA h75 Tryz.isAgg53 Tryz.sizeOf53 rfl) rfl rfl rfl ?_
            refine V_alloc Tryz.zeroValue53 rfl ?_
            intro b76 w77 h78
            refine V_y (Y_assign rfl) rfl rfl rfl ?_
            have h83 : (v73).oneCell' = true := by obtain ⟨_, _, e, _⟩ := Sl.form h74; rw [e]; rfl
            refine V_storeNew h78 Tryz.sizeOf53 rfl rfl rfl rfl (by exact (List.forall_mem_cons.2 ⟨rfl, (List.forall_mem_cons.2 ⟨h83, (fun _ h => nomatch h)⟩)⟩)) ?_
            intro w79 h80
            have hk85 := h80.kp (Dw := Dw)
            have h84 : El (α := cal_Special) A58 w79 b76 0 x69 := h80.el hA ⟨[.int .i64 x69.day], _, rfl, rfl, ⟨_, rfl, h74⟩⟩
            have ht86 := Kp.tr (Dw := Dw) hk85 hA hB
            replace hH := Hp.kp (Dw := Dw) hH hk85
            replace h11 := El.tr (Dw := Dw) h11 ht86
            replace h46 := Sl.tr (Dw := Dw) h46 ht86
            replace h72 := El.tr (Dw := Dw) h72 ht86
            replace h74 := Sl.tr (Dw := Dw) h74 ht86
            replace hK := Tr.trans (Dw := Dw) hK ht86
            replace hr49 := Tr.trans (Dw := Dw) hr49 ht86
            replace hB := Nat.le_trans hB ht86.ex.size
            replace hA := ht86.new
            refine V_to (fun _ _ => rfl) ?_
            refine C_seq ?_
            refine C_block ?_
            refine C_seq ?_
            refine C_region ?_
            have h87 := El_cal_Special_0 h84
            refine V_y (Y_fieldAddr Tryz.underlying53 rfl Tryz.sizeOf3 (by decide) rfl) rfl rfl rfl ?_
            refine V_y (Y_load (El.int h87) Tryz.isAgg3 rfl) rfl rfl rfl ?_
            refine V_call Tryz.call52 rfl rfl rfl rfl (cal_within_c w79 x69.day (-1) 2084) ?_
            rintro _ _ ⟨rfl, rfl⟩
            refine V_y (Y_not rfl) rfl rfl rfl ?_
            refine V_y (Y_assign rfl) rfl rfl rfl ?_
            refine V_to (fun _ _ => rfl) ?_
            refine C_cond rfl (fun hc88 => ?_) (fun hc88 => ?_)
            · rw [if_pos hc88] at h61
              refine C_seq ?_
              refine C_region ?_
              refine V_y (Y_assign rfl) rfl rfl rfl ?_
              refine V_to (fun _ _ => rfl) ?_
              obtain rfl := Option.some.inj h61
              obtain rfl := (h62 : Lp.rt _ = _)
              rw [Lp.andThen_rt] at hm
              obtain rfl := Option.some.inj hm
              refine C_ret ?_
              try simp only [↓inBlock_ret, ↓then_ret]
              exact retQ rfl (Res.one Tryz.results9 rfl) ⟨rfl, hK.kp⟩
            · rw [if_neg (nt hc88)] at h61
              refine C_seq ?_
              refine C_region_q (Dw := Dw) Tryz_mixed (by kernel_rfl) ?_
              refine VQ_y (fun w' hw' => Y_move rfl) rfl rfl rfl ?_
              refine VQ_y (fun w' hw' => Y_gtr rfl rfl) rfl rfl rfl ?_
              refine VQ_y (fun w' hw' => Y_move rfl) rfl rfl rfl ?_
              obtain ⟨s90, hs90, h61⟩ := Option.bind_eq_some_iff.1 h61
              refine VQ_cut 11 (fun _ : Unit => [(1, .pointer (some ⟨b7, 0, none⟩)), (6, .pointer (some ⟨b76, 0, none⟩)), (31, v44), (32, .int .i64 (c.specials.length : Int)), (33, .int .i64 (k50 : Int)), (57, .bool s90)]) (fun _ => True) ?_ ?_
              · simp only [List.take, List.drop]
                rcases Bool.eq_false_or_eq_true (decide ((0 : Int) < (k50 : Int))) with hc89 | hc89
                · rw [if_pos hc89] at hs90
                  refine VQ_ge rfl rfl rfl hc89 ?_
                  have h91 := El_cal_Special_0 h84
                  refine VQ_y (fun w' hw' => Y_fieldAddr Tryz.underlying53 rfl Tryz.sizeOf3 (by decide) rfl) rfl rfl rfl ?_
                  refine VQ_ge rfl rfl rfl hc89 ?_
                  refine VQ_y (fun w' hw' => Y_load (El.int (El.kp (Dw := Dw) h91 hw')) Tryz.isAgg3 rfl) rfl rfl rfl ?_
                  refine VQ_ge rfl rfl rfl hc89 ?_
                  have h92 := El_cal_Calendar_2 h11
                  refine VQ_y (fun w' hw' => Y_fieldAddr Tryz.underlying28 rfl Tryz.sizeOf26 (by decide) rfl) rfl rfl rfl ?_
                  refine VQ_ge rfl rfl rfl hc89 ?_
                  obtain ⟨v93, h94, h95⟩ := El.list h92
                  refine VQ_y (fun w' hw' => Y_load ((World.cell?_of_block (hw'.block _ (World.block_lt_of_cell? _ _ h94))).trans h94) Tryz.isAgg26 rfl) rfl rfl rfl ?_
                  refine VQ_ge rfl rfl rfl hc89 ?_
                  refine VQ_y (fun w' hw' => Y_move rfl) rfl rfl rfl ?_
                  refine VQ_ge rfl rfl rfl hc89 ?_
                  refine VQ_y (fun w' hw' => Y_subI rfl rfl) rfl rfl rfl ?_
                  refine VQ_ge rfl rfl rfl hc89 ?_
                  obtain ⟨x96, hx96, hs90⟩ := Option.bind_eq_some_iff.1 hs90
                  refine VQ_indexAddr h95 hx96 Tryz.underlying26 Tryz.sizeOf53 rfl rfl rfl ?_
                  intro b97 o98 h99
                  refine VQ_ge rfl rfl rfl hc89 ?_
                  have h100 := El_cal_Special_0 h99
                  refine VQ_y (fun w' hw' => Y_fieldAddr Tryz.underlying53 rfl Tryz.sizeOf3 (by decide) rfl) rfl rfl rfl ?_
                  refine VQ_ge rfl rfl rfl hc89 ?_
                  refine VQ_y (fun w' hw' => Y_load (El.int (El.kp (Dw := Dw) h100 hw')) Tryz.isAgg3 rfl) rfl rfl rfl ?_
                  refine VQ_ge rfl rfl rfl hc89 ?_
                  refine VQ_y (fun w' hw' => Y_leq rfl rfl) rfl rfl rfl ?_
                  refine VQ_y (fun _ _ => Y_pick_te rfl hc89 rfl) rfl rfl rfl ?_
                  obtain rfl := Option.some.inj hs90
                  exact VQ_end fun a ha => ⟨(), ha.sub ⟨rfl, rfl, rfl, rfl, rfl, rfl, trivial⟩, trivial⟩
                · rw [if_neg (nt hc89)] at hs90
                  refine VQ_gn rfl rfl rfl hc89 rfl rfl rfl ?_
                  refine VQ_gn rfl rfl rfl hc89 rfl rfl rfl ?_
                  refine VQ_gn rfl rfl rfl hc89 rfl rfl rfl ?_
                  refine VQ_gn rfl rfl rfl hc89 rfl rfl rfl ?_
                  refine VQ_gn rfl rfl rfl hc89 rfl rfl rfl ?_
                  refine VQ_gn rfl rfl rfl hc89 rfl rfl rfl ?_
                  refine VQ_gn rfl rfl rfl hc89 rfl rfl rfl ?_
                  refine VQ_gn rfl rfl rfl hc89 rfl rfl rfl ?_
                  refine VQ_gn rfl rfl rfl hc89 rfl rfl rfl ?_
                  refine VQ_gn rfl rfl rfl hc89 rfl rfl rfl ?_
                  refine VQ_y (fun _ _ => Y_pick_fe rfl hc89 rfl) rfl rfl rfl ?_
                  obtain rfl := Option.some.inj hs90
                  exact VQ_end fun a ha => ⟨(), ha.sub ⟨rfl, rfl, rfl, rfl, rfl, rfl, trivial⟩, trivial⟩
              simp only [List.take, List.drop]
              rintro _ _
              refine VQ_y (fun w' hw' => Y_assign rfl) rfl rfl rfl ?_
              refine VQ_to (fun _ _ => rfl) (fun w101 hk102 => ?_)
              have ht103 := Kp.tr (Dw := Dw) hk102 hA hB
              replace hH := Hp.kp (Dw := Dw) hH hk102
              replace h11 := El.tr (Dw := Dw) h11 ht103
              replace h46 := Sl.tr (Dw := Dw) h46 ht103
              replace h84 := El.tr (Dw := Dw) h84 ht103
              replace hK := Tr.trans (Dw := Dw) hK ht103
              replace hr49 := Tr.trans (Dw := Dw) hr49 ht103
              replace hB := Nat.le_trans hB ht103.ex.size
              replace hA := ht103.new
              refine C_cond rfl (fun hc104 => ?_) (fun hc104 => ?_)
              · rw [if_pos hc104] at h61
                refine C_seq ?_
                refine C_region ?_
                refine V_y (Y_assign rfl) rfl rfl rfl ?_
                refine V_to (fun _ _ => rfl) ?_
                obtain rfl := Option.some.inj h61
                obtain rfl := (h62 : Lp.rt _ = _)
                rw [Lp.andThen_rt] at hm
                obtain rfl := Option.some.inj hm
                refine C_ret ?_
                try simp only [↓inBlock_ret, ↓then_ret]
                exact retQ rfl (Res.one Tryz.results9 rfl) ⟨rfl, hK.kp⟩
              · rw [if_neg (nt hc104)] at h61
                refine C_seq ?_
                refine C_region ?_
                have h105 := El_cal_Special_1 h84
                refine V_y (Y_fieldAddr Tryz.underlying53 rfl Tryz.sizeOf25 (by decide) rfl) rfl rfl rfl ?_
                obtain ⟨v106, h107, h108⟩ := El.list h105
                refine V_y (Y_load h107 Tryz.isAgg25 rfl) rfl rfl rfl ?_
                refine V_y (Y_lenSl h108 rfl Tryz.underlying25 rfl) rfl rfl rfl ?_
                refine V_y (Y_gtr rfl rfl) rfl rfl rfl ?_
                refine V_y (Y_assign rfl) rfl rfl rfl ?_
                refine V_to (fun _ _ => rfl) ?_
                refine C_cond rfl (fun hc109 => ?_) (fun hc109 => ?_)
                · rw [if_pos hc109] at h61
                  refine C_seq ?_
                  refine C_region ?_
                  refine V_y (Y_assign rfl) rfl rfl rfl ?_
                  refine V_to (fun _ _ => rfl) ?_
                  obtain rfl := Option.some.inj h61
                  obtain rfl := (h62 : Lp.rt _ = _)
                  rw [Lp.andThen_rt] at hm
                  obtain rfl := Option.some.inj hm
                  refine C_ret ?_
                  try simp only [↓inBlock_ret, ↓then_ret]
                  exact retQ rfl (Res.one Tryz.results9 rfl) ⟨rfl, hK.kp⟩
                · rw [if_neg (nt hc109)] at h61
                  refine C_skip_to (fun _ _ => rfl) ?_
                  refine C_seq ?_
                  refine C_region ?_
                  have h110 := El_cal_Special_1 h84
                  refine V_y (Y_fieldAddr Tryz.underlying53 rfl Tryz.sizeOf25 (by decide) rfl) rfl rfl rfl ?_
                  obtain ⟨v111, h112, h113⟩ := El.list h110
                  refine V_y (Y_load h112 Tryz.isAgg25 rfl) rfl rfl rfl ?_
                  obtain ⟨x114, hx114, h61⟩ := Option.bind_eq_some_iff.1 h61
                  refine V_call Tryz.call51 rfl rfl rfl rfl (cal_checkShifts_c (Dw := Dw) w101 hA x69.shifts v111 h113 true hx114) ?_
                  rintro _ w115 ⟨rfl, hk116⟩
                  have ht117 := Kp.tr (Dw := Dw) hk116 hA hB
                  replace hH := Hp.kp (Dw := Dw) hH hk116
                  replace h11 := El.tr (Dw := Dw) h11 ht117
                  replace h46 := Sl.tr (Dw := Dw) h46 ht117
                  replace h84 := El.tr (Dw := Dw) h84 ht117
                  replace h110 := El.tr (Dw := Dw) h110 ht117
                  replace h113 := Sl.tr (Dw := Dw) h113 ht117
                  replace hK := Tr.trans (Dw := Dw) hK ht117
                  replace hr49 := Tr.trans (Dw := Dw) hr49 ht117
                  replace hB := Nat.le_trans hB ht117.ex.size
                  replace hA := ht117.new
                  refine V_y (Y_assign rfl) rfl rfl rfl ?_
                  refine V_to (fun _ _ => rfl) ?_
                  refine C_seq ?_
                  refine C_region ?_
                  refine V_y (Y_move rfl) rfl rfl rfl ?_
                  refine V_y (Y_neq rfl rfl) rfl rfl rfl ?_
                  refine V_to (fun _ _ => rfl) ?_
                  refine C_cond rfl (fun hc118 => ?_) (fun hc118 => ?_)
                  · rw [if_pos hc118] at h61
                    refine C_seq ?_
                    refine C_region ?_
                    refine V_y (Y_move rfl) rfl rfl rfl ?_
                    refine V_y (Y_assign rfl) rfl rfl rfl ?_
                    refine V_to (fun _ _ => rfl) ?_
                    obtain rfl := Option.some.inj h61
                    obtain rfl := (h62 : Lp.rt _ = _)
                    rw [Lp.andThen_rt] at hm
                    obtain rfl := Option.some.inj hm
                    refine C_ret ?_
                    try simp only [↓inBlock_ret, ↓then_ret]
                    exact retQ rfl (Res.one Tryz.results9 rfl) ⟨rfl, hK.kp⟩
                  · rw [if_neg (nt hc118)] at h61
                    refine C_skip_to (fun _ _ => rfl) ?_
                    refine C_region ?_
                    refine V_y (Y_addI rfl rfl) rfl rfl rfl ?_
                    refine V_y (Y_move rfl) rfl rfl rfl ?_
                    obtain rfl := Option.some.inj h61
                    refine V_end (fun a ha119 => ?_)
                    exact ⟨(), hlt64, h62, ⟨A58, ha119.sub ⟨rfl, rfl, rfl, (congrArg (fun z => some (Value.int .i64 z)) (w64_succ hlt64 hn67)), trivial⟩, ⟨hH, hr49⟩⟩⟩
          · refine C_exit (fun a ha120 => ?_)
            exact ⟨((), A58), ha120.sub trivial, ⟨(h65 (eq_of_dec hle63 hc68)).symm, hH, hr49⟩⟩
        rintro ⟨s48, A54⟩ w51 ⟨rfl, hH55, hk52⟩ a ha53
        rw [Lp.andThen_fin] at hm
        replace hK := Tr.trans (Dw := Dw) hK hk52
        replace hB := Nat.le_trans hB hk52.ex.size
        replace hA := hk52.new
        replace hH : Hp w.heap.size A54 w51 ([]) := hH55
        refine C_at (n := ⟨70, [], none⟩) (fun _ _ => rfl) ?_ ha53
        refine C_seq ?_
        refine C_region ?_
        refine V_y (Y_assign rfl) rfl rfl rfl ?_
        refine V_to (fun _ _ => rfl) ?_
        obtain rfl := Option.some.inj hm
        refine C_ret ?_
        try simp only [↓inBlock_ret, ↓then_ret]
        exact retQ rfl (Res.one Tryz.results9 rfl) ⟨rfl, hK.kp⟩

set_option maxRecDepth 4000 in
set_option maxHeartbeats 4000000 in
theorem cal_ReadCalendar_c (w : World) {A : Nat → Prop} (hA : ∀ b, w.heap.size ≤ b → A b) (hT : Fz Tryz_FR A w) (s : ByteArray) {r : (cal_Calendar × Int × Int)} (hm : cal_ReadCalendar s = some r) : Ret Tryz.prog 4 #[.string s] w fun v w' => ∃ s0 s1 s2, v = .tuple #[.agg #[.int .i64 r.1.zone.offset, s0, s1, s2], .int .i64 r.2.1, .int .i64 r.2.2] ∧ Sl A w' s0 r.1.zone.changes ∧ Sl A w' s1 r.1.week ∧ Sl A w' s2 r.1.specials ∧ Kp False w w' := by
  unfold cal_ReadCalendar at hm
  refine enter Tryz.func4 rfl Tryz.ntmps4 rfl ?_
  have hA0 := hA
  have hB := Nat.le_refl w.heap.size
  have hK : Tr False w.heap.size A w A w := Tr.refl (Dw := False) hA
  have hH : Hp w.heap.size A w [] := Hp.nil
  refine C_seq ?_
  refine C_region ?_
  refine V_allocH (Dw := False) (B := w.heap.size) hH Tryz.zeroValue28 hB hA rfl ?_
  intro b1 w2 A3 hH4 ht5
  replace hK := Tr.trans (Dw := False) hK ht5
  replace hB := Nat.le_trans hB ht5.ex.size
  replace hA := ht5.new
  replace hH : Hp w.heap.size A3 w2 (obC b1 [.int .i64 0, .slice none 0 0, .slice none 0 0, .slice none 0 0] 28 :: []) := hH4
  refine V_y (Y_assign rfl) rfl rfl rfl ?_
  refine V_y (Y_assign rfl) rfl rfl rfl ?_
  refine V_to (fun _ _ => rfl) ?_
  refine C_seq ?_
  refine C_seq ?_
  refine C_region ?_
  refine V_y (Y_move rfl) rfl rfl rfl ?_
  refine V_y (Y_lenStr rfl Tryz.underlying9 rfl) rfl rfl rfl ?_
  refine V_y (Y_gtr rfl rfl) rfl rfl rfl ?_
  refine V_to (fun _ _ => rfl) ?_
  refine C_cond rfl (fun hc6 => ?_) (fun hc6 => ?_)
  · rw [if_pos hc6] at hm
    refine C_seq ?_
    refine C_region ?_
    refine V_y (Y_build (cells := #[.int .i64 0, .slice none 0 0, .slice none 0 0, .slice none 0 0]) Tryz.underlying28 Tryz.zeroValue28 (Tryz_places28 _ Tryz.underlying28) rfl (by with_unfolding_all rfl)) rfl rfl rfl ?_
    refine V_storeC (Dw := False) (off := 0) (ds := [.int .i64 0, .slice none 0 0, .slice none 0 0, .slice none 0 0]) hH (i := 0) rfl Tryz.sizeOf28 rfl (Nat.le_of_ble_eq_true rfl) (by exact (List.forall_mem_cons.2 ⟨rfl, (List.forall_mem_cons.2 ⟨rfl, (List.forall_mem_cons.2 ⟨rfl, (List.forall_mem_cons.2 ⟨rfl, (fun _ h => nomatch h)⟩)⟩)⟩)⟩)) rfl hB hA rfl rfl ?_
    intro w7 hH8 ht9
    replace hK := Tr.trans (Dw := False) hK ht9
    replace hB := Nat.le_trans hB ht9.ex.size
    replace hA := ht9.new
    replace hH : Hp w.heap.size A3 w7 (obC b1 [.int .i64 0, .slice none 0 0, .slice none 0 0, .slice none 0 0] 28 :: []) := hH8
    refine V_y (Y_assign rfl) rfl rfl rfl ?_
    refine V_y (Y_assign rfl) rfl rfl rfl ?_
    refine V_to (fun _ _ => rfl) ?_
    obtain rfl := Option.some.inj hm
    refine C_ret ?_
    try simp only [↓inBlock_ret, ↓then_ret]
    exact retQ rfl (Res.l3 Tryz.results4 (RL.cell rfl (loadVar_agg (Hp.part (off := 0) (n := 4) (ds := [.int .i64 0, .slice none 0 0, .slice none 0 0, .slice none 0 0]) hH (i := 0) rfl rfl) Tryz.isAgg28 Tryz.sizeOf28)) (RL.tmp rfl) (RL.tmp rfl)) ⟨.slice none 0 0, .slice none 0 0, .slice none 0 0, rfl, Sl.nil, Sl.nil, Sl.nil, hK.kp⟩
  · rw [if_neg (nt hc6)] at hm
    refine C_skip_to (fun _ _ => rfl) ?_
    refine C_seq ?_
    refine C_region ?_
    refine V_allocH (Dw := False) (B := w.heap.size) hH Tryz.zeroValue28 hB hA rfl ?_
    intro b10 w11 A12 hH13 ht14
    replace hK := Tr.trans (Dw := False) hK ht14
    replace hB := Nat.le_trans hB ht14.ex.size
    replace hA := ht14.new
    replace hH : Hp w.heap.size A12 w11 (obC b10 [.int .i64 0, .slice none 0 0, .slice none 0 0, .slice none 0 0] 28 :: obC b1 [.int .i64 0, .slice none 0 0, .slice none 0 0, .slice none 0 0] 28 :: []) := hH13
    refine V_to (fun _ _ => rfl) ?_
    refine C_seq ?_
    refine C_region ?_
    refine V_y (Y_assign rfl) rfl rfl rfl ?_
    refine V_to (fun _ _ => rfl) ?_
    refine C_seq ?_
    refine C_region ?_
    refine V_y (Y_assign rfl) rfl rfl rfl ?_
    refine V_to (fun _ _ => rfl) ?_
    refine C_seq ?_
    replace hH : Hp w.heap.size A12 w11 (obS (α := cal_Change) 49 (.slice none 0 0) ([] : (List cal_Change)) :: obC b10 [.int .i64 0, .slice none 0 0, .slice none 0 0, .slice none 0 0] 28 :: obC b1 [.int .i64 0, .slice none 0 0, .slice none 0 0, .slice none 0 0] 28 :: []) := Hp.addNil (α := cal_Change) (e := 49) hH
    replace hH : Hp w.heap.size A12 w11 (obS (α := cal_Shift) 51 (.slice none 0 0) ([] : (List cal_Shift)) :: obS (α := cal_Change) 49 (.slice none 0 0) ([] : (List cal_Change)) :: obC b10 [.int .i64 0, .slice none 0 0, .slice none 0 0, .slice none 0 0] 28 :: obC b1 [.int .i64 0, .slice none 0 0, .slice none 0 0, .slice none 0 0] 28 :: []) := Hp.addNil (α := cal_Shift) (e := 51) hH
    replace hH : Hp w.heap.size A12 w11 (obS (α := cal_Special) 53 (.slice none 0 0) ([] : (List cal_Special)) :: obS (α := cal_Shift) 51 (.slice none 0 0) ([] : (List cal_Shift)) :: obS (α := cal_Change) 49 (.slice none 0 0) ([] : (List cal_Change)) :: obC b10 [.int .i64 0, .slice none 0 0, .slice none 0 0, .slice none 0 0] 28 :: obC b1 [.int .i64 0, .slice none 0 0, .slice none 0 0, .slice none 0 0] 28 :: []) := Hp.addNil (α := cal_Special) (e := 53) hH
    obtain ⟨o15, ho15, hm⟩ := Option.bind_eq_some_iff.1 hm
    refine C_cutG (ι := ((ByteArray × Int × Int × cal_Calendar × cal_Calendar) × Value × Value × Value × Value × Value × Value × (Nat → Prop))) (fun ⟨s16, v22, v24, v26, v28, v30, v32, A34⟩ => [(2, .pointer (some ⟨b1, 0, none⟩)), (5, .pointer (some ⟨b10, 0, none⟩))]) (fun ⟨s16, v22, v24, v26, v28, v30, v32, A34⟩ => fun w' => o15 = .fin s16 ∧ Sl A34 w' v28 s16.2.2.2.2.zone.changes ∧ Sl A34 w' v30 s16.2.2.2.2.week ∧ Sl A34 w' v32 s16.2.2.2.2.specials ∧ Hp w.heap.size A34 w' (obS (α := cal_Special) 53 v26 s16.2.2.2.1.specials :: obS (α := cal_Shift) 51 v24 s16.2.2.2.1.week :: obS (α := cal_Change) 49 v22 s16.2.2.2.1.zone.changes :: obC b10 [.int .i64 s16.2.2.2.1.zone.offset, v22, v24, v26] 28 :: obC b1 [.int .i64 s16.2.2.2.2.zone.offset, v28, v30, v32] 28 :: []) ∧ Tr False w.heap.size A12 w11 A34 w') ?_ ?_
    · refine C_block ?_
      refine C_while ho15 (fun s36 a w' => ∃ i : (Value × Value × Value × Value × Value × Value × (Nat → Prop)), Has ⟨55, [], none⟩ a ([(0, .string s36.1), (2, .pointer (some ⟨b1, 0, none⟩)), (5, .pointer (some ⟨b10, 0, none⟩)), (6, .int .i64 s36.2.1), (7, .int .i64 s36.2.2.1)]) ∧ Sl i.2.2.2.2.2.2 w' i.2.2.2.1 s36.2.2.2.2.zone.changes ∧ Sl i.2.2.2.2.2.2 w' i.2.2.2.2.1 s36.2.2.2.2.week ∧ Sl i.2.2.2.2.2.2 w' i.2.2.2.2.2.1 s36.2.2.2.2.specials ∧ Hp w.heap.size i.2.2.2.2.2.2 w' (obS (α := cal_Special) 53 i.2.2.1 s36.2.2.2.1.specials :: obS (α := cal_Shift) 51 i.2.1 s36.2.2.2.1.week :: obS (α := cal_Change) 49 i.1 s36.2.2.2.1.zone.changes :: obC b10 [.int .i64 s36.2.2.2.1.zone.offset, i.1, i.2.1, i.2.2.1] 28 :: obC b1 [.int .i64 s36.2.2.2.2.zone.offset, i.2.2.2.1, i.2.2.2.2.1, i.2.2.2.2.2.1] 28 :: []) ∧ Tr False w.heap.size A12 w11 i.2.2.2.2.2.2 w') (fun a ha => ⟨(.slice none 0 0, .slice none 0 0, .slice none 0 0, .slice none 0 0, .slice none 0 0, .slice none 0 0, A12), ha.sub ⟨rfl, rfl, rfl, rfl, rfl, trivial⟩, ⟨Sl.nil, Sl.nil, Sl.nil, hH, Tr.refl (Dw := False) hA⟩⟩) ?_
      rintro K s36 a w37 ⟨⟨v38, v40, v42, v44, v46, v48, A50⟩, ha85, h45, h47, h49, hH51, hr17⟩ K58
      refine C_of ?_ ha85
      replace hK := Tr.trans (Dw := False) hK hr17
      replace hB := Nat.le_trans hB hr17.ex.size
      replace hA := hr17.new
      replace hH : Hp w.heap.size A50 w37 (obS (α := cal_Special) 53 v42 s36.2.2.2.1.specials :: obS (α := cal_Shift) 51 v40 s36.2.2.2.1.week :: obS (α := cal_Change) 49 v38 s36.2.2.2.1.zone.changes :: obC b10 [.int .i64 s36.2.2.2.1.zone.offset, v38, v40, v42] 28 :: obC b1 [.int .i64 s36.2.2.2.2.zone.offset, v44, v46, v48] 28 :: []) := hH51
      obtain ⟨x52, h53, h54⟩ := K58
      refine C_seq ?_
      refine C_seq ?_
      refine C_region ?_
      refine V_y (Y_move rfl) rfl rfl rfl ?_
      refine V_y (Y_sneq rfl rfl) rfl rfl rfl ?_
      refine V_y (Y_move rfl) rfl rfl rfl ?_
      refine V_cut 3 (fun _ : Unit => [(0, .string s36.1), (2, .pointer (some ⟨b1, 0, none⟩)), (5, .pointer (some ⟨b10, 0, none⟩)), (6, .int .i64 s36.2.1), (7, .int .i64 s36.2.2.1), (23, .bool ((!(strEq s36.1 (⟨#[]⟩ : ByteArray))) || (s36.2.2.1 == 0)))]) (fun _ w' => w37 = w') ?_ ?_
      · simp only [List.take, List.drop]
        rcases Bool.eq_false_or_eq_true (!(strEq s36.1 (⟨#[]⟩ : ByteArray))) with hc59 | hc59
        · refine V_gn rfl rfl rfl hc59 rfl rfl rfl ?_
          refine V_gn rfl rfl rfl hc59 rfl rfl rfl ?_
          refine V_y (Y_pick_te rfl hc59 rfl) rfl rfl rfl ?_
          exact V_end fun a ha => ⟨(), ha.sub ⟨rfl, rfl, rfl, rfl, rfl, (by rw [hc59]; rfl), trivial⟩, rfl⟩
        · refine V_ge rfl rfl rfl hc59 ?_
          refine V_y (Y_move rfl) rfl rfl rfl ?_
          refine V_ge rfl rfl rfl hc59 ?_
          refine V_y (Y_eql rfl rfl) rfl rfl rfl ?_
          refine V_y (Y_pick_fe rfl hc59 rfl) rfl rfl rfl ?_
          exact V_end fun a ha => ⟨(), ha.sub ⟨rfl, rfl, rfl, rfl, rfl, (by rw [hc59]; rfl), trivial⟩, rfl⟩
      simp only [List.take, List.drop]
      rintro _ _ rfl
      refine V_to (fun _ _ => rfl) ?_
      refine C_cond rfl (fun hc61 => ?_) (fun hc61 => ?_)
      · rw [if_pos hc61] at h53
        refine C_skip_to (fun _ _ => rfl) ?_
        refine C_block ?_
        refine C_seq ?_
        refine C_region ?_
        refine V_y (Y_move rfl) rfl rfl rfl ?_
        refine V_y (Y_addI rfl rfl) rfl rfl rfl ?_
        refine V_y (Y_assign rfl) rfl rfl rfl ?_
        refine V_to (fun _ _ => rfl) ?_
        refine C_seq ?_
        refine C_region ?_
        refine V_y (Y_move rfl) rfl rfl rfl ?_
        obtain ⟨x62, hx62, h53⟩ := Option.bind_eq_some_iff.1 h53
        refine V_call Tryz.call7 rfl rfl rfl rfl (strings_Cut_c (Dw := False) w37 hA s36.1 (⟨#[10]⟩ : ByteArray) hx62) ?_
        rintro _ w63 ⟨rfl, hk64⟩
        have ht65 := Kp.tr (Dw := False) hk64 hA hB
        replace hH := Hp.kp (Dw := False) hH hk64
        replace h45 := Sl.tr (Dw := False) h45 ht65
        replace h47 := Sl.tr (Dw := False) h47 ht65
        replace h49 := Sl.tr (Dw := False) h49 ht65
        replace hK := Tr.trans (Dw := False) hK ht65
        replace hr17 := Tr.trans (Dw := False) hr17 ht65
        replace hB := Nat.le_trans hB ht65.ex.size
        replace hA := ht65.new
        refine V_y (Y_move rfl) rfl rfl rfl ?_
        refine V_y (Y_extract rfl rfl) rfl rfl rfl ?_
        refine V_y (Y_extract rfl rfl) rfl rfl rfl ?_
        refine V_y (Y_extract rfl rfl) rfl rfl rfl ?_
        refine V_y (Y_assign rfl) rfl rfl rfl ?_
        refine V_y (Y_assign rfl) rfl rfl rfl ?_
        refine V_y (Y_assign rfl) rfl rfl rfl ?_
        refine V_to (fun _ _ => rfl) ?_
        refine C_seq ?_
        refine C_region ?_
        refine V_y (Y_move rfl) rfl rfl rfl ?_
        refine V_y (Y_move rfl) rfl rfl rfl ?_
        replace hH : Hp w.heap.size A50 w63 (obS (α := cal_Shift) 51 v40 s36.2.2.2.1.week :: obS (α := cal_Special) 53 v42 s36.2.2.2.1.specials :: obS (α := cal_Change) 49 v38 s36.2.2.2.1.zone.changes :: obC b10 [.int .i64 s36.2.2.2.1.zone.offset, v38, v40, v42] 28 :: obC b1 [.int .i64 s36.2.2.2.2.zone.offset, v44, v46, v48] 28 :: []) := Hp.front hH (i := 1) rfl
        replace hH : Hp w.heap.size A50 w63 (obS (α := cal_Change) 49 v38 s36.2.2.2.1.zone.changes :: obS (α := cal_Shift) 51 v40 s36.2.2.2.1.week :: obS (α := cal_Special) 53 v42 s36.2.2.2.1.specials :: obC b10 [.int .i64 s36.2.2.2.1.zone.offset, v38, v40, v42] 28 :: obC b1 [.int .i64 s36.2.2.2.2.zone.offset, v44, v46, v48] 28 :: []) := Hp.front hH (i := 2) rfl
        replace hH : Hp w.heap.size A50 w63 (obC b10 [.int .i64 s36.2.2.2.1.zone.offset, v38, v40, v42] 28 :: obS (α := cal_Change) 49 v38 s36.2.2.2.1.zone.changes :: obS (α := cal_Shift) 51 v40 s36.2.2.2.1.week :: obS (α := cal_Special) 53 v42 s36.2.2.2.1.specials :: obC b1 [.int .i64 s36.2.2.2.2.zone.offset, v44, v46, v48] 28 :: []) := Hp.front hH (i := 3) rfl
        obtain ⟨x66, hx66, h53⟩ := Option.bind_eq_some_iff.1 h53
        refine V_call Tryz.call8 rfl rfl rfl rfl (cal_Calendar_take_c w63 hB hA (Fz.tr (Dw := False) hT hK) s36.2.2.2.1 b10 v38 v40 v42 x62.1 s36.2.1 hH hx66) ?_
        rintro _ w73 ⟨v67, v69, v71, A74, rfl, hH75, ht76⟩
        replace h45 := Sl.tr (Dw := False) h45 ht76
        replace h47 := Sl.tr (Dw := False) h47 ht76
        replace h49 := Sl.tr (Dw := False) h49 ht76
        replace hK := Tr.trans (Dw := False) hK ht76
        replace hr17 := Tr.trans (Dw := False) hr17 ht76
        replace hB := Nat.le_trans hB ht76.ex.size
        replace hA := ht76.new
        replace hH : Hp w.heap.size A74 w73 (obC b10 [.int .i64 x66.2.2.zone.offset, v67, v69, v71] 28 :: obS (α := cal_Change) 49 v67 x66.2.2.zone.changes :: obS (α := cal_Shift) 51 v69 x66.2.2.week :: obS (α := cal_Special) 53 v71 x66.2.2.specials :: obC b1 [.int .i64 s36.2.2.2.2.zone.offset, v44, v46, v48] 28 :: []) := hH75
        refine V_y (Y_move rfl) rfl rfl rfl ?_
        refine V_y (Y_extract rfl rfl) rfl rfl rfl ?_
        refine V_y (Y_extract rfl rfl) rfl rfl rfl ?_
        refine V_y (Y_assign rfl) rfl rfl rfl ?_
        refine V_y (Y_assign rfl) rfl rfl rfl ?_
        refine V_to (fun _ _ => rfl) ?_
        refine C_seq ?_
        refine C_seq ?_
        refine C_region ?_
        refine V_y (Y_move rfl) rfl rfl rfl ?_
        refine V_y (Y_not rfl) rfl rfl rfl ?_
        refine V_y (Y_move rfl) rfl rfl rfl ?_
        refine V_cut 3 (fun _ : Unit => [(2, .pointer (some ⟨b1, 0, none⟩)), (5, .pointer (some ⟨b10, 0, none⟩)), (7, .int .i64 (w64 (s36.2.2.1 + 1))), (9, .string x62.2.1), (11, .int .i64 x66.1), (43, .bool ((!x66.2.1) || (!x62.2.2)))]) (fun _ w' => w73 = w') ?_ ?_
        · simp only [List.take, List.drop]
          rcases Bool.eq_false_or_eq_true (!x66.2.1) with hc77 | hc77
          · refine V_gn rfl rfl rfl hc77 rfl rfl rfl ?_
            refine V_gn rfl rfl rfl hc77 rfl rfl rfl ?_
            refine V_y (Y_pick_te rfl hc77 rfl) rfl rfl rfl ?_
            exact V_end fun a ha => ⟨(), ha.sub ⟨rfl, rfl, rfl, rfl, rfl, (by rw [hc77]; rfl), trivial⟩, rfl⟩
          · refine V_ge rfl rfl rfl hc77 ?_
            refine V_y (Y_move rfl) rfl rfl rfl ?_
            refine V_ge rfl rfl rfl hc77 ?_
            refine V_y (Y_not rfl) rfl rfl rfl ?_
            refine V_y (Y_pick_fe rfl hc77 rfl) rfl rfl rfl ?_
            exact V_end fun a ha => ⟨(), ha.sub ⟨rfl, rfl, rfl, rfl, rfl, (by rw [hc77]; rfl), trivial⟩, rfl⟩
        simp only [List.take, List.drop]
        rintro _ _ rfl
        refine V_to (fun _ _ => rfl) ?_
        refine C_cond rfl (fun hc79 => ?_) (fun hc79 => ?_)
        · rw [if_pos hc79] at h53
          refine C_seq ?_
          refine C_region ?_
          refine V_y (Y_build (cells := #[.int .i64 0, .slice none 0 0, .slice none 0 0, .slice none 0 0]) Tryz.underlying28 Tryz.zeroValue28 (Tryz_places28 _ Tryz.underlying28) rfl (by with_unfolding_all rfl)) rfl rfl rfl ?_
          refine V_y (Y_move rfl) rfl rfl rfl ?_
          refine V_storeC (Dw := False) (off := 0) (ds := [.int .i64 0, .slice none 0 0, .slice none 0 0, .slice none 0 0]) hH (i := 4) rfl Tryz.sizeOf28 rfl (Nat.le_of_ble_eq_true rfl) (by exact (List.forall_mem_cons.2 ⟨rfl, (List.forall_mem_cons.2 ⟨rfl, (List.forall_mem_cons.2 ⟨rfl, (List.forall_mem_cons.2 ⟨rfl, (fun _ h => nomatch h)⟩)⟩)⟩)⟩)) rfl hB hA rfl rfl ?_
          intro w80 hH81 ht82
          replace h45 := Sl.tr (Dw := False) h45 ht82
          replace h47 := Sl.tr (Dw := False) h47 ht82
          replace h49 := Sl.tr (Dw := False) h49 ht82
          replace hK := Tr.trans (Dw := False) hK ht82
          replace hr17 := Tr.trans (Dw := False) hr17 ht82
          replace hB := Nat.le_trans hB ht82.ex.size
          replace hA := ht82.new
          replace hH : Hp w.heap.size A74 w80 (obC b10 [.int .i64 x66.2.2.zone.offset, v67, v69, v71] 28 :: obS (α := cal_Change) 49 v67 x66.2.2.zone.changes :: obS (α := cal_Shift) 51 v69 x66.2.2.week :: obS (α := cal_Special) 53 v71 x66.2.2.specials :: obC b1 [.int .i64 0, .slice none 0 0, .slice none 0 0, .slice none 0 0] 28 :: []) := hH81
          refine V_y (Y_assign rfl) rfl rfl rfl ?_
          refine V_y (Y_assign rfl) rfl rfl rfl ?_
          refine V_to (fun _ _ => rfl) ?_
          obtain rfl := Option.some.inj h53
          obtain rfl := (h54 : Lp.rt _ = _)
          rw [Lp.andThen_rt] at hm
          obtain rfl := Option.some.inj hm
          refine C_ret ?_
          try simp only [↓inBlock_ret, ↓then_ret]
          exact retQ rfl (Res.l3 Tryz.results4 (RL.cell rfl (loadVar_agg (Hp.part (off := 0) (n := 4) (ds := [.int .i64 0, .slice none 0 0, .slice none 0 0, .slice none 0 0]) hH (i := 4) rfl rfl) Tryz.isAgg28 Tryz.sizeOf28)) (RL.tmp rfl) (RL.tmp rfl)) ⟨.slice none 0 0, .slice none 0 0, .slice none 0 0, rfl, Sl.nil, Sl.nil, Sl.nil, hK.kp⟩
        · rw [if_neg (nt hc79)] at h53
          refine C_skip_to (fun _ _ => rfl) ?_
          refine C_region ?_
          refine V_y (Y_move rfl) rfl rfl rfl ?_
          refine V_y (Y_move rfl) rfl rfl rfl ?_
          refine V_y (Y_assign rfl) rfl rfl rfl ?_
          refine V_y (Y_assign rfl) rfl rfl rfl ?_
          obtain rfl := Option.some.inj h53
          refine V_end (fun a ha83 => ?_)
          replace hH : Hp w.heap.size A74 w73 (obC b1 [.int .i64 s36.2.2.2.2.zone.offset, v44, v46, v48] 28 :: obC b10 [.int .i64 x66.2.2.zone.offset, v67, v69, v71] 28 :: obS (α := cal_Change) 49 v67 x66.2.2.zone.changes :: obS (α := cal_Shift) 51 v69 x66.2.2.week :: obS (α := cal_Special) 53 v71 x66.2.2.specials :: []) := Hp.front hH (i := 4) rfl
          replace hH : Hp w.heap.size A74 w73 (obC b10 [.int .i64 x66.2.2.zone.offset, v67, v69, v71] 28 :: obC b1 [.int .i64 s36.2.2.2.2.zone.offset, v44, v46, v48] 28 :: obS (α := cal_Change) 49 v67 x66.2.2.zone.changes :: obS (α := cal_Shift) 51 v69 x66.2.2.week :: obS (α := cal_Special) 53 v71 x66.2.2.specials :: []) := Hp.front hH (i := 1) rfl
          replace hH : Hp w.heap.size A74 w73 (obS (α := cal_Change) 49 v67 x66.2.2.zone.changes :: obC b10 [.int .i64 x66.2.2.zone.offset, v67, v69, v71] 28 :: obC b1 [.int .i64 s36.2.2.2.2.zone.offset, v44, v46, v48] 28 :: obS (α := cal_Shift) 51 v69 x66.2.2.week :: obS (α := cal_Special) 53 v71 x66.2.2.specials :: []) := Hp.front hH (i := 2) rfl
          replace hH : Hp w.heap.size A74 w73 (obS (α := cal_Shift) 51 v69 x66.2.2.week :: obS (α := cal_Change) 49 v67 x66.2.2.zone.changes :: obC b10 [.int .i64 x66.2.2.zone.offset, v67, v69, v71] 28 :: obC b1 [.int .i64 s36.2.2.2.2.zone.offset, v44, v46, v48] 28 :: obS (α := cal_Special) 53 v71 x66.2.2.specials :: []) := Hp.front hH (i := 3) rfl
          replace hH : Hp w.heap.size A74 w73 (obS (α := cal_Special) 53 v71 x66.2.2.specials :: obS (α := cal_Shift) 51 v69 x66.2.2.week :: obS (α := cal_Change) 49 v67 x66.2.2.zone.changes :: obC b10 [.int .i64 x66.2.2.zone.offset, v67, v69, v71] 28 :: obC b1 [.int .i64 s36.2.2.2.2.zone.offset, v44, v46, v48] 28 :: []) := Hp.front hH (i := 4) rfl
          exact ⟨(x62.2.1, x66.1, w64 (s36.2.2.1 + 1), x66.2.2, s36.2.2.2.2), h54, ⟨(v67, v69, v71, v44, v46, v48, A74), ha83.sub ⟨rfl, rfl, rfl, rfl, rfl, trivial⟩, ⟨h45, h47, h49, hH, hr17⟩⟩⟩
      · rw [if_neg (nt hc61)] at h53
        obtain rfl := Option.some.inj h53
        refine C_exit (fun a ha84 => ?_)
        exact ⟨((s36.1, s36.2.1, s36.2.2.1, s36.2.2.2.1, s36.2.2.2.2), v38, v40, v42, v44, v46, v48, A50), ha84.sub ⟨rfl, rfl, trivial⟩, ⟨h54.symm, h45, h47, h49, hH, hr17⟩⟩
    rintro ⟨s16, v22, v24, v26, v28, v30, v32, A34⟩ w19 ⟨rfl, h29, h31, h33, hH35, hk20⟩ a ha21
    rw [Lp.andThen_fin] at hm
    replace hK := Tr.trans (Dw := False) hK hk20
    replace hB := Nat.le_trans hB hk20.ex.size
    replace hA := hk20.new
    replace hH : Hp w.heap.size A34 w19 (obS (α := cal_Special) 53 v26 s16.2.2.2.1.specials :: obS (α := cal_Shift) 51 v24 s16.2.2.2.1.week :: obS (α := cal_Change) 49 v22 s16.2.2.2.1.zone.changes :: obC b10 [.int .i64 s16.2.2.2.1.zone.offset, v22, v24, v26] 28 :: obC b1 [.int .i64 s16.2.2.2.2.zone.offset, v28, v30, v32] 28 :: []) := hH35
    refine C_at (n := ⟨55, [], none⟩) (fun _ _ => rfl) ?_ ha21
    refine C_seq ?_
    refine C_seq ?_
    refine C_region ?_
    refine V_y (Y_loadA (Hp.part (off := 0) (n := 4) (ds := [.int .i64 s16.2.2.2.1.zone.offset, v22, v24, v26]) hH (i := 3) rfl rfl) Tryz.isAgg28 Tryz.sizeOf28 rfl) rfl rfl rfl ?_
    obtain ⟨x86, hx86, hm⟩ := Option.bind_eq_some_iff.1 hm
    refine V_call Tryz.call9 rfl rfl rfl rfl (cal_CheckCalendar_c (Dw := False) w19 (A := fun _ => True) (fun _ _ => trivial) s16.2.2.2.1 v22 (Hp.any (α := cal_Change) (e := 49) (v := v22) (l := s16.2.2.2.1.zone.changes) hH (i := 2) rfl) v24 (Hp.any (α := cal_Shift) (e := 51) (v := v24) (l := s16.2.2.2.1.week) hH (i := 1) rfl) v26 (Hp.any (α := cal_Special) (e := 53) (v := v26) (l := s16.2.2.2.1.specials) hH (i := 0) rfl) hx86) ?_
    rintro _ w87 ⟨rfl, hk88⟩
    have ht89 := Kp.tr (Dw := False) hk88 hA hB
    replace hH := Hp.kp (Dw := False) hH hk88
    replace h29 := Sl.tr (Dw := False) h29 ht89
    replace h31 := Sl.tr (Dw := False) h31 ht89
    replace h33 := Sl.tr (Dw := False) h33 ht89
    replace hK := Tr.trans (Dw := False) hK ht89
    replace hB := Nat.le_trans hB ht89.ex.size
    replace hA := ht89.new
    refine V_y (Y_assign rfl) rfl rfl rfl ?_
    refine V_to (fun _ _ => rfl) ?_
    refine C_seq ?_
    refine C_region ?_
    refine V_y (Y_move rfl) rfl rfl rfl ?_
    refine V_y (Y_neq rfl rfl) rfl rfl rfl ?_
    refine V_to (fun _ _ => rfl) ?_
    refine C_cond rfl (fun hc90 => ?_) (fun hc90 => ?_)
    · rw [if_pos hc90] at hm
      refine C_seq ?_
      refine C_region ?_
      refine V_y (Y_build (cells := #[.int .i64 0, .slice none 0 0, .slice none 0 0, .slice none 0 0]) Tryz.underlying28 Tryz.zeroValue28 (Tryz_places28 _ Tryz.underlying28) rfl (by with_unfolding_all rfl)) rfl rfl rfl ?_
      refine V_y (Y_move rfl) rfl rfl rfl ?_
      refine V_storeC (Dw := False) (off := 0) (ds := [.int .i64 0, .slice none 0 0, .slice none 0 0, .slice none 0 0]) hH (i := 4) rfl Tryz.sizeOf28 rfl (Nat.le_of_ble_eq_true rfl) (by exact (List.forall_mem_cons.2 ⟨rfl, (List.forall_mem_cons.2 ⟨rfl, (List.forall_mem_cons.2 ⟨rfl, (List.forall_mem_cons.2 ⟨rfl, (fun _ h => nomatch h)⟩)⟩)⟩)⟩)) rfl hB hA rfl rfl ?_
      intro w91 hH92 ht93
      replace h29 := Sl.tr (Dw := False) h29 ht93
      replace h31 := Sl.tr (Dw := False) h31 ht93
      replace h33 := Sl.tr (Dw := False) h33 ht93
      replace hK := Tr.trans (Dw := False) hK ht93
      replace hB := Nat.le_trans hB ht93.ex.size
      replace hA := ht93.new
      replace hH : Hp w.heap.size A34 w91 (obS (α := cal_Special) 53 v26 s16.2.2.2.1.specials :: obS (α := cal_Shift) 51 v24 s16.2.2.2.1.week :: obS (α := cal_Change) 49 v22 s16.2.2.2.1.zone.changes :: obC b10 [.int .i64 s16.2.2.2.1.zone.offset, v22, v24, v26] 28 :: obC b1 [.int .i64 0, .slice none 0 0, .slice none 0 0, .slice none 0 0] 28 :: []) := hH92
      refine V_y (Y_assign rfl) rfl rfl rfl ?_
      refine V_y (Y_assign rfl) rfl rfl rfl ?_
      refine V_to (fun _ _ => rfl) ?_
      obtain rfl := Option.some.inj hm
      refine C_ret ?_
      try simp only [↓inBlock_ret, ↓then_ret]
      exact retQ rfl (Res.l3 Tryz.results4 (RL.cell rfl (loadVar_agg (Hp.part (off := 0) (n := 4) (ds := [.int .i64 0, .slice none 0 0, .slice none 0 0, .slice none 0 0]) hH (i := 4) rfl rfl) Tryz.isAgg28 Tryz.sizeOf28)) (RL.tmp rfl) (RL.tmp rfl)) ⟨.slice none 0 0, .slice none 0 0, .slice none 0 0, rfl, Sl.nil, Sl.nil, Sl.nil, hK.kp⟩
    · rw [if_neg (nt hc90)] at hm
      refine C_skip_to (fun _ _ => rfl) ?_
      refine C_seq ?_
      refine C_region ?_
      refine V_y (Y_loadA (Hp.part (off := 0) (n := 4) (ds := [.int .i64 s16.2.2.2.1.zone.offset, v22, v24, v26]) hH (i := 3) rfl rfl) Tryz.isAgg28 Tryz.sizeOf28 rfl) rfl rfl rfl ?_
      obtain ⟨A94, ht95, h96, hH97⟩ := Hp.freeze (Dw := False) (α := cal_Change) (v := v22) (l := s16.2.2.2.1.zone.changes) hH (i := 2) rfl hA
      replace h29 := Sl.tr (Dw := False) h29 ht95
      replace h31 := Sl.tr (Dw := False) h31 ht95
      replace h33 := Sl.tr (Dw := False) h33 ht95
      replace hK := Tr.trans (Dw := False) hK ht95
      replace hB := Nat.le_trans hB ht95.ex.size
      replace hA := ht95.new
      replace hH : Hp w.heap.size A94 w87 (obS (α := cal_Special) 53 v26 s16.2.2.2.1.specials :: obS (α := cal_Shift) 51 v24 s16.2.2.2.1.week :: obC b10 [.int .i64 s16.2.2.2.1.zone.offset, v22, v24, v26] 28 :: obC b1 [.int .i64 s16.2.2.2.2.zone.offset, v28, v30, v32] 28 :: []) := hH97
      obtain ⟨A99, ht100, h101, hH102⟩ := Hp.freeze (Dw := False) (α := cal_Shift) (v := v24) (l := s16.2.2.2.1.week) hH (i := 1) rfl hA
      replace h96 := Sl.tr (Dw := False) h96 ht100
      replace h29 := Sl.tr (Dw := False) h29 ht100
      replace h31 := Sl.tr (Dw := False) h31 ht100
      replace h33 := Sl.tr (Dw := False) h33 ht100
      replace hK := Tr.trans (Dw := False) hK ht100
      replace hB := Nat.le_trans hB ht100.ex.size
      replace hA := ht100.new
      replace hH : Hp w.heap.size A99 w87 (obS (α := cal_Special) 53 v26 s16.2.2.2.1.specials :: obC b10 [.int .i64 s16.2.2.2.1.zone.offset, v22, v24, v26] 28 :: obC b1 [.int .i64 s16.2.2.2.2.zone.offset, v28, v30, v32] 28 :: []) := hH102
      obtain ⟨A104, ht105, h106, hH107⟩ := Hp.freeze (Dw := False) (α := cal_Special) (v := v26) (l := s16.2.2.2.1.specials) hH (i := 0) rfl hA
      replace h96 := Sl.tr (Dw := False) h96 ht105
      replace h101 := Sl.tr (Dw := False) h101 ht105
      replace h29 := Sl.tr (Dw := False) h29 ht105
      replace h31 := Sl.tr (Dw := False) h31 ht105
      replace h33 := Sl.tr (Dw := False) h33 ht105
      replace hK := Tr.trans (Dw := False) hK ht105
      replace hB := Nat.le_trans hB ht105.ex.size
      replace hA := ht105.new
      replace hH : Hp w.heap.size A104 w87 (obC b10 [.int .i64 s16.2.2.2.1.zone.offset, v22, v24, v26] 28 :: obC b1 [.int .i64 s16.2.2.2.2.zone.offset, v28, v30, v32] 28 :: []) := hH107
      have h114 : (v22).oneCell' = true := by obtain ⟨_, _, e, _⟩ := Sl.form h96; rw [e]; rfl
      have h117 : (v24).oneCell' = true := by obtain ⟨_, _, e, _⟩ := Sl.form h101; rw [e]; rfl
      have h120 : (v26).oneCell' = true := by obtain ⟨_, _, e, _⟩ := Sl.form h106; rw [e]; rfl
      refine V_storeC (Dw := False) (off := 0) (ds := [.int .i64 s16.2.2.2.1.zone.offset, v22, v24, v26]) hH (i := 1) rfl Tryz.sizeOf28 rfl (Nat.le_of_ble_eq_true rfl) (by exact (List.forall_mem_cons.2 ⟨rfl, (List.forall_mem_cons.2 ⟨h114, (List.forall_mem_cons.2 ⟨h117, (List.forall_mem_cons.2 ⟨h120, (fun _ h => nomatch h)⟩)⟩)⟩)⟩)) rfl hB hA rfl rfl ?_
      intro w109 hH110 ht111
      replace h96 := Sl.tr (Dw := False) h96 ht111
      replace h101 := Sl.tr (Dw := False) h101 ht111
      replace h106 := Sl.tr (Dw := False) h106 ht111
      replace h29 := Sl.tr (Dw := False) h29 ht111
      replace h31 := Sl.tr (Dw := False) h31 ht111
      replace h33 := Sl.tr (Dw := False) h33 ht111
      replace hK := Tr.trans (Dw := False) hK ht111
      replace hB := Nat.le_trans hB ht111.ex.size
      replace hA := ht111.new
      replace hH : Hp w.heap.size A104 w109 (obC b10 [.int .i64 s16.2.2.2.1.zone.offset, v22, v24, v26] 28 :: obC b1 [.int .i64 s16.2.2.2.1.zone.offset, v22, v24, v26] 28 :: []) := hH110
      refine V_y (Y_assign rfl) rfl rfl rfl ?_
      refine V_y (Y_assign rfl) rfl rfl rfl ?_
      refine V_to (fun _ _ => rfl) ?_
      obtain rfl := Option.some.inj hm
      refine C_ret ?_
      try simp only [↓inBlock_ret, ↓then_ret]
      exact retQ rfl (Res.l3 Tryz.results4 (RL.cell rfl (loadVar_agg (Hp.part (off := 0) (n := 4) (ds := [.int .i64 s16.2.2.2.1.zone.offset, v22, v24, v26]) hH (i := 1) rfl rfl) Tryz.isAgg28 Tryz.sizeOf28)) (RL.tmp rfl) (RL.tmp rfl)) ⟨v22, v24, v26, rfl, (Sl.out (Dw := False) h96 hA0 hK), (Sl.out (Dw := False) h101 hA0 hK), (Sl.out (Dw := False) h106 hA0 hK), hK.kp⟩

set_option maxRecDepth 4000 in
set_option maxHeartbeats 4000000 in
theorem strings_SplitAfter_c (w : World) {A : Nat → Prop} (hA : ∀ b, w.heap.size ≤ b → A b) (hT : Fz Tryz_FR A w) (s : ByteArray) (sep : ByteArray) {r : (List ByteArray)} (hm : strings_SplitAfter s sep = some r) : Ret Tryz.prog 10 #[.string s, .string sep] w fun v w' => ∃ s0, v = s0 ∧ Sl A w' s0 r ∧ Kp Dw w w' := by
  unfold strings_SplitAfter at hm
  refine enter Tryz.func10 rfl Tryz.ntmps10 rfl ?_
  have hA0 := hA
  have hB := Nat.le_refl w.heap.size
  have hK : Tr Dw w.heap.size A w A w := Tr.refl (Dw := Dw) hA
  have hH : Hp w.heap.size A w [] := Hp.nil
  refine C_seq ?_
  refine C_region ?_
  refine V_y (Y_assign rfl) rfl rfl rfl ?_
  refine V_to (fun _ _ => rfl) ?_
  refine C_seq ?_
  refine C_region ?_
  refine V_y (Y_move rfl) rfl rfl rfl ?_
  refine V_y (Y_move rfl) rfl rfl rfl ?_
  refine V_y (Y_move rfl) rfl rfl rfl ?_
  refine V_y (Y_lenStr rfl Tryz.underlying9 rfl) rfl rfl rfl ?_
  obtain ⟨x1, hx1, hm⟩ := Option.bind_eq_some_iff.1 hm
  refine V_call Tryz.call53 rfl rfl rfl rfl (strings_genSplit_c (Dw := Dw) w hA ((Fz.tr (Dw := Dw) hT hK)).2.1 s sep (sep.size : Int) (-1) hx1) ?_
  rintro v2 w4 ⟨_, rfl, h3, hk5⟩
  have ht6 := Kp.tr (Dw := Dw) hk5 hA hB
  replace hH := Hp.kp (Dw := Dw) hH hk5
  replace hK := Tr.trans (Dw := Dw) hK ht6
  replace hB := Nat.le_trans hB ht6.ex.size
  replace hA := ht6.new
  refine V_y (Y_assign rfl) rfl rfl rfl ?_
  refine V_to (fun _ _ => rfl) ?_
  obtain rfl := Option.some.inj hm
  refine C_ret ?_
  try simp only [↓inBlock_ret, ↓then_ret]
  exact retQ rfl (Res.one Tryz.results10 rfl) ⟨v2, rfl, (Sl.out (Dw := Dw) h3 hA0 hK), hK.kp⟩

set_option maxRecDepth 4000 in
set_option maxHeartbeats 4000000 in
theorem internal_stringslite_HasSuffix_c (w : World) (s : ByteArray) (suffix : ByteArray) {r : Bool} (hm : internal_stringslite_HasSuffix s suffix = some r) : Ret Tryz.prog 67 #[.string s, .string suffix] w fun v w' => v = .bool r ∧ w = w' := by
  unfold internal_stringslite_HasSuffix at hm
  refine enter Tryz.func67 rfl Tryz.ntmps67 rfl ?_
  refine C_seq ?_
  refine C_region ?_
  refine V_y (Y_assign rfl) rfl rfl rfl ?_
  refine V_to (fun _ _ => rfl) ?_
  refine C_seq ?_
  refine C_region ?_
  refine V_y (Y_move rfl) rfl rfl rfl ?_
  refine V_y (Y_lenStr rfl Tryz.underlying9 rfl) rfl rfl rfl ?_
  refine V_y (Y_move rfl) rfl rfl rfl ?_
  refine V_y (Y_lenStr rfl Tryz.underlying9 rfl) rfl rfl rfl ?_
  refine V_y (Y_geq rfl rfl) rfl rfl rfl ?_
  refine V_y (Y_move rfl) rfl rfl rfl ?_
  obtain ⟨s2, hs2, hm⟩ := Option.bind_eq_some_iff.1 hm
  refine V_cut 10 (fun _ : Unit => [(20, .bool s2)]) (fun _ w' => w = w') ?_ ?_
  · simp only [List.take, List.drop]
    rcases Bool.eq_false_or_eq_true (decide ((suffix.size : Int) ≤ (s.size : Int))) with hc1 | hc1
    · rw [if_pos hc1] at hs2
      refine V_ge rfl rfl rfl hc1 ?_
      refine V_y (Y_move rfl) rfl rfl rfl ?_
      refine V_ge rfl rfl rfl hc1 ?_
      refine V_y (Y_move rfl) rfl rfl rfl ?_
      refine V_ge rfl rfl rfl hc1 ?_
      refine V_y (Y_lenStr rfl Tryz.underlying9 rfl) rfl rfl rfl ?_
      refine V_ge rfl rfl rfl hc1 ?_
      refine V_y (Y_move rfl) rfl rfl rfl ?_
      refine V_ge rfl rfl rfl hc1 ?_
      refine V_y (Y_lenStr rfl Tryz.underlying9 rfl) rfl rfl rfl ?_
      refine V_ge rfl rfl rfl hc1 ?_
      refine V_y (Y_subI rfl rfl) rfl rfl rfl ?_
      refine V_ge rfl rfl rfl hc1 ?_
      obtain ⟨x3, hx3, hs2⟩ := Option.bind_eq_some_iff.1 hs2
      refine V_y (Y_sliceSL hx3 Tryz.underlying9 rfl rfl) rfl rfl rfl ?_
      refine V_ge rfl rfl rfl hc1 ?_
      refine V_y (Y_move rfl) rfl rfl rfl ?_
      refine V_ge rfl rfl rfl hc1 ?_
      refine V_y (Y_seql rfl rfl) rfl rfl rfl ?_
      refine V_y (Y_pick_te rfl hc1 rfl) rfl rfl rfl ?_
      obtain rfl := Option.some.inj hs2
      exact V_end fun a ha => ⟨(), ha.sub ⟨rfl, trivial⟩, rfl⟩
    · rw [if_neg (nt hc1)] at hs2
      refine V_gn rfl rfl rfl hc1 rfl rfl rfl ?_
      refine V_gn rfl rfl rfl hc1 rfl rfl rfl ?_
      refine V_gn rfl rfl rfl hc1 rfl rfl rfl ?_
      refine V_gn rfl rfl rfl hc1 rfl rfl rfl ?_
      refine V_gn rfl rfl rfl hc1 rfl rfl rfl ?_
      refine V_gn rfl rfl rfl hc1 rfl rfl rfl ?_
      refine V_gn rfl rfl rfl hc1 rfl rfl rfl ?_
      refine V_gn rfl rfl rfl hc1 rfl rfl rfl ?_
      refine V_gn rfl rfl rfl hc1 rfl rfl rfl ?_
      refine V_y (Y_pick_fe rfl hc1 rfl) rfl rfl rfl ?_
      obtain rfl := Option.some.inj hs2
      exact V_end fun a ha => ⟨(), ha.sub ⟨rfl, trivial⟩, rfl⟩
  simp only [List.take, List.drop]
  rintro _ _ rfl
  refine V_y (Y_assign rfl) rfl rfl rfl ?_
  refine V_to (fun _ _ => rfl) ?_
  obtain rfl := Option.some.inj hm
  refine C_ret ?_
  try simp only [↓inBlock_ret, ↓then_ret]
  exact retQ rfl (Res.one Tryz.results67 rfl) ⟨rfl, rfl⟩

set_option maxRecDepth 4000 in
set_option maxHeartbeats 4000000 in
theorem internal_stringslite_CutSuffix_c (w : World) (s : ByteArray) (suffix : ByteArray) {r : (ByteArray × Bool)} (hm : internal_stringslite_CutSuffix s suffix = some r) : Ret Tryz.prog 54 #[.string s, .string suffix] w fun v w' => v = .tuple #[.string r.1, .bool r.2] ∧ w = w' := by
  unfold internal_stringslite_CutSuffix at hm
  refine enter Tryz.func54 rfl Tryz.ntmps54 rfl ?_
  refine C_seq ?_
  refine C_region ?_
  refine V_y (Y_assign rfl) rfl rfl rfl ?_
  refine V_y (Y_assign rfl) rfl rfl rfl ?_
  refine V_to (fun _ _ => rfl) ?_
  refine C_seq ?_
  refine C_seq ?_
  refine C_region ?_
  refine V_y (Y_move rfl) rfl rfl rfl ?_
  refine V_y (Y_move rfl) rfl rfl rfl ?_
  obtain ⟨x1, hx1, hm⟩ := Option.bind_eq_some_iff.1 hm
  refine V_call Tryz.call67 rfl rfl rfl rfl (internal_stringslite_HasSuffix_c w s suffix hx1) ?_
  rintro _ _ ⟨rfl, rfl⟩
  refine V_y (Y_not rfl) rfl rfl rfl ?_
  refine V_to (fun _ _ => rfl) ?_
  refine C_cond rfl (fun hc2 => ?_) (fun hc2 => ?_)
  · rw [if_pos hc2] at hm
    refine C_seq ?_
    refine C_region ?_
    refine V_y (Y_move rfl) rfl rfl rfl ?_
    refine V_y (Y_assign rfl) rfl rfl rfl ?_
    refine V_y (Y_assign rfl) rfl rfl rfl ?_
    refine V_to (fun _ _ => rfl) ?_
    obtain rfl := Option.some.inj hm
    refine C_ret ?_
    try simp only [↓inBlock_ret, ↓then_ret]
    exact retQ rfl (Res.two Tryz.results54 rfl rfl) ⟨rfl, rfl⟩
  · rw [if_neg (nt hc2)] at hm
    refine C_skip_to (fun _ _ => rfl) ?_
    refine C_seq ?_
    refine C_region ?_
    refine V_y (Y_move rfl) rfl rfl rfl ?_
    refine V_y (Y_move rfl) rfl rfl rfl ?_
    refine V_y (Y_lenStr rfl Tryz.underlying9 rfl) rfl rfl rfl ?_
    refine V_y (Y_move rfl) rfl rfl rfl ?_
    refine V_y (Y_lenStr rfl Tryz.underlying9 rfl) rfl rfl rfl ?_
    refine V_y (Y_subI rfl rfl) rfl rfl rfl ?_
    obtain ⟨x3, hx3, hm⟩ := Option.bind_eq_some_iff.1 hm
    refine V_y (Y_sliceSH hx3 Tryz.underlying9 rfl rfl) rfl rfl rfl ?_
    refine V_y (Y_assign rfl) rfl rfl rfl ?_
    refine V_y (Y_assign rfl) rfl rfl rfl ?_
    refine V_to (fun _ _ => rfl) ?_
    obtain rfl := Option.some.inj hm
    refine C_ret ?_
    try simp only [↓inBlock_ret, ↓then_ret]
    exact retQ rfl (Res.two Tryz.results54 rfl rfl) ⟨rfl, rfl⟩

set_option maxRecDepth 4000 in
set_option maxHeartbeats 4000000 in
theorem strings_CutSuffix_c (w : World) (s : ByteArray) (suffix : ByteArray) {r : (ByteArray × Bool)} (hm : strings_CutSuffix s suffix = some r) : Ret Tryz.prog 12 #[.string s, .string suffix] w fun v w' => v = .tuple #[.string r.1, .bool r.2] ∧ w = w' := by
  unfold strings_CutSuffix at hm
  refine enter Tryz.func12 rfl Tryz.ntmps12 rfl ?_
  refine C_seq ?_
  refine C_region ?_
  refine V_y (Y_assign rfl) rfl rfl rfl ?_
  refine V_y (Y_assign rfl) rfl rfl rfl ?_
  refine V_to (fun _ _ => rfl) ?_
  refine C_seq ?_
  refine C_region ?_
  refine V_y (Y_move rfl) rfl rfl rfl ?_
  refine V_y (Y_move rfl) rfl rfl rfl ?_
  obtain ⟨x1, hx1, hm⟩ := Option.bind_eq_some_iff.1 hm
  refine V_call Tryz.call54 rfl rfl rfl rfl (internal_stringslite_CutSuffix_c w s suffix hx1) ?_
  rintro _ _ ⟨rfl, rfl⟩
  refine V_y (Y_extract rfl rfl) rfl rfl rfl ?_
  refine V_y (Y_extract rfl rfl) rfl rfl rfl ?_
  refine V_y (Y_assign rfl) rfl rfl rfl ?_
  refine V_y (Y_assign rfl) rfl rfl rfl ?_
  refine V_to (fun _ _ => rfl) ?_
  obtain rfl := Option.some.inj hm
  refine C_ret ?_
  try simp only [↓inBlock_ret, ↓then_ret]
  exact retQ rfl (Res.two Tryz.results12 rfl rfl) ⟨rfl, rfl⟩

def Tryz_strings_Trim_lay_ren : Go.Shelf.Ren := ⟨fun | 119 => 124 | 120 => 120 | 137 => 123 | 151 => 110 | 152 => 119 | 160 => 83 | 197 => 81 | 217 => 72 | 224 => 74 | 225 => 73 | 227 => 97 | 228 => 109 | 231 => 95 | 232 => 96 | 233 => 98 | 234 => 99 | 235 => 100 | 236 => 101 | 260 => 94 | 266 => 85 | 271 => 111 | n => n, fun | 0 => 0 | 1 => 1 | 2 => 2 | 3 => 3 | 4 => 4 | 5 => 5 | 6 => 6 | 7 => 7 | 8 => 8 | 9 => 9 | 10 => 10 | 11 => 11 | 12 => 12 | 13 => 13 | 14 => 14 | 15 => 15 | 16 => 16 | 17 => 17 | 18 => 18 | 19 => 19 | 20 => 20 | 21 => 21 | 22 => 165 | 23 => 162 | 24 => 42 | 25 => 43 | 27 => 156 | 28 => 44 | 31 => 39 | 32 => 47 | 34 => 80 | 37 => 181 | 40 => 224 | 41 => 211 | 43 => 169 | 46 => 172 | 47 => 221 | 51 => 177 | 52 => 223 | 53 => 195 | 54 => 203 | 55 => 170 | 59 => 34 | 60 => 35 | 61 => 40 | 63 => 212 | 64 => 222 | 69 => 198 | 74 => 157 | 75 => 158 | 76 => 159 | 77 => 160 | 80 => 227 | 81 => 233 | 83 => 161 | 84 => 187 | 85 => 182 | 86 => 183 | 101 => 74 | 103 => 174 | 104 => 33 | 105 => 175 | 106 => 176 | 108 => 201 | 111 => 167 | 113 => 152 | 114 => 171 | 115 => 189 | 116 => 190 | 117 => 191 | 118 => 192 | 119 => 207 | 122 => 188 | 123 => 193 | 124 => 194 | 127 => 214 | 128 => 173 | 131 => 36 | 137 => 208 | 138 => 209 | 139 => 210 | 143 => 215 | 144 => 216 | 145 => 217 | 146 => 178 | 150 => 164 | 151 => 179 | 164 => 246 | 167 => 180 | 168 => 184 | 169 => 185 | 170 => 186 | 171 => 202 | 172 => 204 | 173 => 205 | 174 => 206 | 175 => 196 | 176 => 197 | 209 => 199 | 210 => 200 | 211 => 218 | 212 => 219 | 213 => 220 | 214 => 213 | 232 => 225 | 233 => 226 | 238 => 228 | 239 => 229 | 240 => 230 | 241 => 231 | 242 => 232 | 243 => 234 | 244 => 235 | 245 => 236 | 246 => 237 | 247 => 238 | 248 => 239 | 249 => 240 | n => n, fun | 1 => 0 | 3 => 3 | 4 => 4 | 15 => 1 | 16 => 2 | 17 => 5 | 18 => 6 | 19 => 7 | n => n⟩
theorem Tryz_strings_Trim_lay : Go.Proofs.Lays.n160 Tryz.prog Tryz_strings_Trim_lay_ren := {
  mixed := by kernel_rfl,
  f119 := Tryz.func124.trans (congrArg some (by kernel_rfl)),
  f120 := Tryz.func120.trans (congrArg some (by kernel_rfl)),
  f137 := Tryz.func123.trans (congrArg some (by kernel_rfl)),
  f151 := Tryz.func110.trans (congrArg some (by kernel_rfl)),
  f152 := Tryz.func119.trans (congrArg some (by kernel_rfl)),
  f160 := Tryz.func83.trans (congrArg some (by kernel_rfl)),
  f197 := Tryz.func81.trans (congrArg some (by kernel_rfl)),
  f217 := Tryz.func72.trans (congrArg some (by kernel_rfl)),
  f224 := Tryz.func74.trans (congrArg some (by kernel_rfl)),
  f225 := Tryz.func73.trans (congrArg some (by kernel_rfl)),
  f227 := Tryz.func97.trans (congrArg some (by kernel_rfl)),
  f228 := Tryz.func109.trans (congrArg some (by kernel_rfl)),
  f231 := Tryz.func95.trans (congrArg some (by kernel_rfl)),
  f232 := Tryz.func96.trans (congrArg some (by kernel_rfl)),
  f233 := Tryz.func98.trans (congrArg some (by kernel_rfl)),
  f234 := Tryz.func99.trans (congrArg some (by kernel_rfl)),
  f235 := Tryz.func100.trans (congrArg some (by kernel_rfl)),
  f236 := Tryz.func101.trans (congrArg some (by kernel_rfl)),
  f260 := Tryz.func94.trans (congrArg some (by kernel_rfl)),
  f266 := Tryz.func85.trans (congrArg some (by kernel_rfl)),
  f271 := Tryz.func111.trans (congrArg some (by kernel_rfl)),
  t0 := Tryz.underlying0,
  a0 := Tryz.isAgg0,
  z0 := Tryz.sizeOf0,
  v0 := Tryz.zeroValue0,
  t3 := Tryz.underlying3,
  a3 := Tryz.isAgg3,
  z3 := Tryz.sizeOf3,
  v3 := Tryz.zeroValue3,
  t4 := Tryz.underlying4,
  a4 := Tryz.isAgg4,
  z4 := Tryz.sizeOf4,
  v4 := Tryz.zeroValue4,
  t5 := Tryz.underlying5,
  a5 := Tryz.isAgg5,
  z5 := Tryz.sizeOf5,
  v5 := Tryz.zeroValue5,
  t9 := Tryz.underlying9,
  a9 := Tryz.isAgg9,
  z9 := Tryz.sizeOf9,
  v9 := Tryz.zeroValue9,
  t21 := Tryz.underlying21,
  a21 := Tryz.isAgg21,
  z21 := Tryz.sizeOf21,
  v21 := Tryz.zeroValue21,
  t46 := Tryz.underlying172,
  a46 := Tryz.isAgg172,
  z46 := Tryz.sizeOf172,
  v46 := Tryz.zeroValue172,
  t105 := Tryz.underlying175,
  a105 := Tryz.isAgg175,
  z105 := Tryz.sizeOf175,
  v105 := Tryz.zeroValue175,
  t116 := Tryz.underlying190,
  a116 := Tryz.isAgg190,
  z116 := Tryz.sizeOf190,
  t117 := Tryz.underlying191,
  a117 := Tryz.isAgg191,
  z117 := Tryz.sizeOf191,
  v117 := Tryz.zeroValue191,
  t119 := Tryz.underlying207,
  a119 := Tryz.isAgg207,
  z119 := Tryz.sizeOf207,
  t124 := Tryz.underlying194,
  a124 := Tryz.isAgg194,
  z124 := Tryz.sizeOf194,
  v124 := Tryz.zeroValue194,
  t138 := Tryz.underlying209,
  a138 := Tryz.isAgg209,
  z138 := Tryz.sizeOf209,
  v138 := Tryz.zeroValue209,
  t139 := Tryz.underlying210,
  a139 := Tryz.isAgg210,
  z139 := Tryz.sizeOf210,
  v139 := Tryz.zeroValue210,
  g3 := by kernel_rfl,
  g4 := by kernel_rfl }
theorem strings_Trim_c (w : World) {A : Nat → Prop} (hA : ∀ b, w.heap.size ≤ b → A b) (s : ByteArray) (cutset : ByteArray) {r : ByteArray} (hm : strings_Trim s cutset = some r) : Ret Tryz.prog 83 #[.string s, .string cutset] w fun v w' => v = .string r ∧ Kp False w w' := by
  unfold strings_Trim at hm
  split at hm
  case isFalse => cases hm
  rename_i h
  obtain rfl := Option.some.inj hm
  refine Calls.mono (Go.Proofs.Any.strings_Trim_laid Tryz_strings_Trim_lay (by kernel_rfl) s cutset w h.1 h.2.1 (Go.Proofs.ascii_of_all h.2.2)) ?_
  rintro _ w' ⟨rfl, hk⟩
  exact ⟨_, rfl, rfl, .of hk⟩

set_option maxRecDepth 4000 in
set_option maxHeartbeats 4000000 in
theorem portref2_digits_c (w : World) {A : Nat → Prop} (hA : ∀ b, w.heap.size ≤ b → A b) (s : ByteArray) (most : Int) {r : Bool} (hm : portref2_digits s most = some r) : Ret Tryz.prog 68 #[.string s, .int .i64 most] w fun v w' => v = .bool r ∧ Kp False w w' := by
  unfold portref2_digits at hm
  refine enter Tryz.func68 rfl Tryz.ntmps68 rfl ?_
  have hA0 := hA
  have hB := Nat.le_refl w.heap.size
  have hK : Tr False w.heap.size A w A w := Tr.refl (Dw := False) hA
  have hH : Hp w.heap.size A w [] := Hp.nil
  refine C_seq ?_
  refine C_region ?_
  refine V_y (Y_assign rfl) rfl rfl rfl ?_
  refine V_to (fun _ _ => rfl) ?_
  refine C_seq ?_
  obtain ⟨s2, ho1, hm⟩ := Option.bind_eq_some_iff.1 hm
  refine C_cutG (ι := (Nat → Prop)) (fun (A7 : (Nat → Prop)) => [(4, .bool s2)]) (fun (A7 : (Nat → Prop)) => fun w' => Hp w.heap.size A7 w' ([]) ∧ Tr False w.heap.size A w A7 w') ?_ ?_
  · have hr3 : Tr False w.heap.size A w A w := Tr.refl (Dw := False) hA
    refine C_region ?_
    refine V_y (Y_move rfl) rfl rfl rfl ?_
    refine V_y (Y_sneq rfl rfl) rfl rfl rfl ?_
    refine V_y (Y_move rfl) rfl rfl rfl ?_
    rcases Bool.eq_false_or_eq_true (!(strEq s (⟨#[]⟩ : ByteArray))) with hc9 | hc9
    · rw [if_pos hc9] at ho1
      refine V_ge rfl rfl rfl hc9 ?_
      refine V_y (Y_move rfl) rfl rfl rfl ?_
      refine V_ge rfl rfl rfl hc9 ?_
      refine V_y (Y_lenStr rfl Tryz.underlying9 rfl) rfl rfl rfl ?_
      refine V_ge rfl rfl rfl hc9 ?_
      refine V_y (Y_move rfl) rfl rfl rfl ?_
      refine V_ge rfl rfl rfl hc9 ?_
      refine V_y (Y_leq rfl rfl) rfl rfl rfl ?_
      refine V_y (Y_pick_te rfl hc9 rfl) rfl rfl rfl ?_
      refine V_y (Y_move rfl) rfl rfl rfl ?_
      rcases Bool.eq_false_or_eq_true (decide ((s.size : Int) ≤ most)) with hc10 | hc10
      · rw [if_pos hc10] at ho1
        refine V_ge rfl rfl rfl hc10 ?_
        refine V_y (Y_move rfl) rfl rfl rfl ?_
        refine V_ge rfl rfl rfl hc10 ?_
        obtain ⟨x11, hx11, ho1⟩ := Option.bind_eq_some_iff.1 ho1
        refine V_call Tryz.call83 rfl rfl rfl rfl (strings_Trim_c w hA s (⟨#[48, 49, 50, 51, 52, 53, 54, 55, 56, 57]⟩ : ByteArray) hx11) ?_
        rintro _ w12 ⟨rfl, hk13⟩
        have ht14 := Kp.tr (Dw := False) hk13 hA hB
        replace hH := Hp.kp (Dw := False) hH hk13
        replace hK := Tr.trans (Dw := False) hK ht14
        replace hr3 := Tr.trans (Dw := False) hr3 ht14
        replace hB := Nat.le_trans hB ht14.ex.size
        replace hA := ht14.new
        refine V_ge rfl rfl rfl hc10 ?_
        refine V_y (Y_seql rfl rfl) rfl rfl rfl ?_
        refine V_y (Y_pick_te rfl hc10 rfl) rfl rfl rfl ?_
        refine V_y (Y_move rfl) rfl rfl rfl ?_
        rcases Bool.eq_false_or_eq_true (strEq x11 (⟨#[]⟩ : ByteArray)) with hc15 | hc15
        · rw [if_pos hc15] at ho1
          refine V_ge rfl rfl rfl hc15 ?_
          refine V_y (Y_move rfl) rfl rfl rfl ?_
          refine V_ge rfl rfl rfl hc15 ?_
          refine V_y (Y_lenStr rfl Tryz.underlying9 rfl) rfl rfl rfl ?_
          refine V_ge rfl rfl rfl hc15 ?_
          refine V_y (Y_eql rfl rfl) rfl rfl rfl ?_
          refine V_ge rfl rfl rfl hc15 ?_
          refine V_y (Y_move rfl) rfl rfl rfl ?_
          rcases Bool.eq_false_or_eq_true ((s.size : Int) == 1) with hc16 | hc16
          · rw [if_pos hc16] at ho1
            refine V_gn rfl rfl rfl hc16 rfl rfl rfl ?_
            refine V_gn rfl rfl rfl hc16 rfl rfl rfl ?_
            refine V_gn rfl rfl rfl hc16 rfl rfl rfl ?_
            refine V_ge rfl rfl rfl hc15 ?_
            refine V_y (Y_pick_te rfl hc16 rfl) rfl rfl rfl ?_
            refine V_y (Y_pick_te rfl hc15 rfl) rfl rfl rfl ?_
            refine V_y (Y_assign rfl) rfl rfl rfl ?_
            obtain rfl := Option.some.inj ho1
            refine V_end (fun a ha17 => ?_)
            exact ⟨A, ha17.sub ⟨rfl, trivial⟩, ⟨hH, hr3⟩⟩
          · rw [if_neg (nt hc16)] at ho1
            refine V_ge rfl rfl rfl hc16 ?_
            refine V_y (Y_move rfl) rfl rfl rfl ?_
            refine V_ge rfl rfl rfl hc16 ?_
            obtain ⟨x18, hx18, ho1⟩ := Option.bind_eq_some_iff.1 ho1
            refine V_y (Y_indexS hx18 Tryz.underlying9 rfl rfl) rfl rfl rfl ?_
            refine V_ge rfl rfl rfl hc16 ?_
            refine V_y (Y_neq rfl rfl) rfl rfl rfl ?_
            refine V_ge rfl rfl rfl hc15 ?_
            refine V_y (Y_pick_fe rfl hc16 rfl) rfl rfl rfl ?_
            refine V_y (Y_pick_te rfl hc15 rfl) rfl rfl rfl ?_
            refine V_y (Y_assign rfl) rfl rfl rfl ?_
            obtain rfl := Option.some.inj ho1
            refine V_end (fun a ha19 => ?_)
            exact ⟨A, ha19.sub ⟨rfl, trivial⟩, ⟨hH, hr3⟩⟩
        · rw [if_neg (nt hc15)] at ho1
          refine V_gn rfl rfl rfl hc15 rfl rfl rfl ?_
          refine V_gn rfl rfl rfl hc15 rfl rfl rfl ?_
          refine V_gn rfl rfl rfl hc15 rfl rfl rfl ?_
          refine V_gn rfl rfl rfl hc15 rfl rfl rfl ?_
          refine V_gu rfl rfl rfl rfl rfl ?_
          refine V_gu rfl rfl rfl rfl rfl ?_
          refine V_gu rfl rfl rfl rfl rfl ?_
          refine V_gn rfl rfl rfl hc15 rfl rfl rfl ?_
          refine V_y (Y_pick_fe rfl hc15 rfl) rfl rfl rfl ?_
          refine V_y (Y_assign rfl) rfl rfl rfl ?_
          obtain rfl := Option.some.inj ho1
          refine V_end (fun a ha20 => ?_)
          exact ⟨A, ha20.sub ⟨rfl, trivial⟩, ⟨hH, hr3⟩⟩
      · rw [if_neg (nt hc10)] at ho1
        refine V_gn rfl rfl rfl hc10 rfl rfl rfl ?_
        refine V_gn rfl rfl rfl hc10 rfl rfl rfl ?_
        refine V_gn rfl rfl rfl hc10 rfl rfl rfl ?_
        refine V_y (Y_pick_fe rfl hc10 rfl) rfl rfl rfl ?_
        refine V_y (Y_move rfl) rfl rfl rfl ?_
        rcases Bool.eq_false_or_eq_true (false) with hc21 | hc21
        · rw [if_pos hc21] at ho1
          refine V_ge rfl rfl rfl hc21 ?_
          refine V_y (Y_move rfl) rfl rfl rfl ?_
          refine V_ge rfl rfl rfl hc21 ?_
          refine V_y (Y_lenStr rfl Tryz.underlying9 rfl) rfl rfl rfl ?_
          refine V_ge rfl rfl rfl hc21 ?_
          refine V_y (Y_eql rfl rfl) rfl rfl rfl ?_
          refine V_ge rfl rfl rfl hc21 ?_
          refine V_y (Y_move rfl) rfl rfl rfl ?_
          rcases Bool.eq_false_or_eq_true ((s.size : Int) == 1) with hc22 | hc22
          · rw [if_pos hc22] at ho1
            refine V_gn rfl rfl rfl hc22 rfl rfl rfl ?_
            refine V_gn rfl rfl rfl hc22 rfl rfl rfl ?_
            refine V_gn rfl rfl rfl hc22 rfl rfl rfl ?_
            refine V_ge rfl rfl rfl hc21 ?_
            refine V_y (Y_pick_te rfl hc22 rfl) rfl rfl rfl ?_
            refine V_y (Y_pick_te rfl hc21 rfl) rfl rfl rfl ?_
            refine V_y (Y_assign rfl) rfl rfl rfl ?_
            obtain rfl := Option.some.inj ho1
            refine V_end (fun a ha23 => ?_)
            exact ⟨A, ha23.sub ⟨rfl, trivial⟩, ⟨hH, hr3⟩⟩
          · rw [if_neg (nt hc22)] at ho1
            refine V_ge rfl rfl rfl hc22 ?_
            refine V_y (Y_move rfl) rfl rfl rfl ?_
            refine V_ge rfl rfl rfl hc22 ?_
            obtain ⟨x24, hx24, ho1⟩ := Option.bind_eq_some_iff.1 ho1
            refine V_y (Y_indexS hx24 Tryz.underlying9 rfl rfl) rfl rfl rfl ?_
            refine V_ge rfl rfl rfl hc22 ?_
            refine V_y (Y_neq rfl rfl) rfl rfl rfl ?_
            refine V_ge rfl rfl rfl hc21 ?_
            refine V_y (Y_pick_fe rfl hc22 rfl) rfl rfl rfl ?_
            refine V_y (Y_pick_te rfl hc21 rfl) rfl rfl rfl ?_
            refine V_y (Y_assign rfl) rfl rfl rfl ?_
            obtain rfl := Option.some.inj ho1
            refine V_end (fun a ha25 => ?_)
            exact ⟨A, ha25.sub ⟨rfl, trivial⟩, ⟨hH, hr3⟩⟩
        · rw [if_neg (nt hc21)] at ho1
          refine V_gn rfl rfl rfl hc21 rfl rfl rfl ?_
          refine V_gn rfl rfl rfl hc21 rfl rfl rfl ?_
          refine V_gn rfl rfl rfl hc21 rfl rfl rfl ?_
          refine V_gn rfl rfl rfl hc21 rfl rfl rfl ?_
          refine V_gu rfl rfl rfl rfl rfl ?_
          refine V_gu rfl rfl rfl rfl rfl ?_
          refine V_gu rfl rfl rfl rfl rfl ?_
          refine V_gn rfl rfl rfl hc21 rfl rfl rfl ?_
          refine V_y (Y_pick_fe rfl hc21 rfl) rfl rfl rfl ?_
          refine V_y (Y_assign rfl) rfl rfl rfl ?_
          obtain rfl := Option.some.inj ho1
          refine V_end (fun a ha26 => ?_)
          exact ⟨A, ha26.sub ⟨rfl, trivial⟩, ⟨hH, hr3⟩⟩
    · rw [if_neg (nt hc9)] at ho1
      refine V_gn rfl rfl rfl hc9 rfl rfl rfl ?_
      refine V_gn rfl rfl rfl hc9 rfl rfl rfl ?_
      refine V_gn rfl rfl rfl hc9 rfl rfl rfl ?_
      refine V_gn rfl rfl rfl hc9 rfl rfl rfl ?_
      refine V_y (Y_pick_fe rfl hc9 rfl) rfl rfl rfl ?_
      refine V_y (Y_move rfl) rfl rfl rfl ?_
      rcases Bool.eq_false_or_eq_true (false) with hc27 | hc27
      · rw [if_pos hc27] at ho1
        refine V_ge rfl rfl rfl hc27 ?_
        refine V_y (Y_move rfl) rfl rfl rfl ?_
        refine V_ge rfl rfl rfl hc27 ?_
        obtain ⟨x28, hx28, ho1⟩ := Option.bind_eq_some_iff.1 ho1
        refine V_call Tryz.call83 rfl rfl rfl rfl (strings_Trim_c w hA s (⟨#[48, 49, 50, 51, 52, 53, 54, 55, 56, 57]⟩ : ByteArray) hx28) ?_
        rintro _ w29 ⟨rfl, hk30⟩
        have ht31 := Kp.tr (Dw := False) hk30 hA hB
        replace hH := Hp.kp (Dw := False) hH hk30
        replace hK := Tr.trans (Dw := False) hK ht31
        replace hr3 := Tr.trans (Dw := False) hr3 ht31
        replace hB := Nat.le_trans hB ht31.ex.size
        replace hA := ht31.new
        refine V_ge rfl rfl rfl hc27 ?_
        refine V_y (Y_seql rfl rfl) rfl rfl rfl ?_
        refine V_y (Y_pick_te rfl hc27 rfl) rfl rfl rfl ?_
        refine V_y (Y_move rfl) rfl rfl rfl ?_
        rcases Bool.eq_false_or_eq_true (strEq x28 (⟨#[]⟩ : ByteArray)) with hc32 | hc32
        · rw [if_pos hc32] at ho1
          refine V_ge rfl rfl rfl hc32 ?_
          refine V_y (Y_move rfl) rfl rfl rfl ?_
          refine V_ge rfl rfl rfl hc32 ?_
          refine V_y (Y_lenStr rfl Tryz.underlying9 rfl) rfl rfl rfl ?_
          refine V_ge rfl rfl rfl hc32 ?_
          refine V_y (Y_eql rfl rfl) rfl rfl rfl ?_
          refine V_ge rfl rfl rfl hc32 ?_
          refine V_y (Y_move rfl) rfl rfl rfl ?_
          rcases Bool.eq_false_or_eq_true ((s.size : Int) == 1) with hc33 | hc33
          · rw [if_pos hc33] at ho1
            refine V_gn rfl rfl rfl hc33 rfl rfl rfl ?_
            refine V_gn rfl rfl rfl hc33 rfl rfl rfl ?_
            refine V_gn rfl rfl rfl hc33 rfl rfl rfl ?_
            refine V_ge rfl rfl rfl hc32 ?_
            refine V_y (Y_pick_te rfl hc33 rfl) rfl rfl rfl ?_
            refine V_y (Y_pick_te rfl hc32 rfl) rfl rfl rfl ?_
            refine V_y (Y_assign rfl) rfl rfl rfl ?_
            obtain rfl := Option.some.inj ho1
            refine V_end (fun a ha34 => ?_)
            exact ⟨A, ha34.sub ⟨rfl, trivial⟩, ⟨hH, hr3⟩⟩
          · rw [if_neg (nt hc33)] at ho1
            refine V_ge rfl rfl rfl hc33 ?_
            refine V_y (Y_move rfl) rfl rfl rfl ?_
            refine V_ge rfl rfl rfl hc33 ?_
            obtain ⟨x35, hx35, ho1⟩ := Option.bind_eq_some_iff.1 ho1
            refine V_y (Y_indexS hx35 Tryz.underlying9 rfl rfl) rfl rfl rfl ?_
            refine V_ge rfl rfl rfl hc33 ?_
            refine V_y (Y_neq rfl rfl) rfl rfl rfl ?_
            refine V_ge rfl rfl rfl hc32 ?_
            refine V_y (Y_pick_fe rfl hc33 rfl) rfl rfl rfl ?_
            refine V_y (Y_pick_te rfl hc32 rfl) rfl rfl rfl ?_
            refine V_y (Y_assign rfl) rfl rfl rfl ?_
            obtain rfl := Option.some.inj ho1
            refine V_end (fun a ha36 => ?_)
            exact ⟨A, ha36.sub ⟨rfl, trivial⟩, ⟨hH, hr3⟩⟩
        · rw [if_neg (nt hc32)] at ho1
          refine V_gn rfl rfl rfl hc32 rfl rfl rfl ?_
          refine V_gn rfl rfl rfl hc32 rfl rfl rfl ?_
          refine V_gn rfl rfl rfl hc32 rfl rfl rfl ?_
          refine V_gn rfl rfl rfl hc32 rfl rfl rfl ?_
          refine V_gu rfl rfl rfl rfl rfl ?_
          refine V_gu rfl rfl rfl rfl rfl ?_
          refine V_gu rfl rfl rfl rfl rfl ?_
          refine V_gn rfl rfl rfl hc32 rfl rfl rfl ?_
          refine V_y (Y_pick_fe rfl hc32 rfl) rfl rfl rfl ?_
          refine V_y (Y_assign rfl) rfl rfl rfl ?_
          obtain rfl := Option.some.inj ho1
          refine V_end (fun a ha37 => ?_)
          exact ⟨A, ha37.sub ⟨rfl, trivial⟩, ⟨hH, hr3⟩⟩
      · rw [if_neg (nt hc27)] at ho1
        refine V_gn rfl rfl rfl hc27 rfl rfl rfl ?_
        refine V_gn rfl rfl rfl hc27 rfl rfl rfl ?_
        refine V_gn rfl rfl rfl hc27 rfl rfl rfl ?_
        refine V_y (Y_pick_fe rfl hc27 rfl) rfl rfl rfl ?_
        refine V_y (Y_move rfl) rfl rfl rfl ?_
        rcases Bool.eq_false_or_eq_true (false) with hc38 | hc38
        · rw [if_pos hc38] at ho1
          refine V_ge rfl rfl rfl hc38 ?_
          refine V_y (Y_move rfl) rfl rfl rfl ?_
          refine V_ge rfl rfl rfl hc38 ?_
          refine V_y (Y_lenStr rfl Tryz.underlying9 rfl) rfl rfl rfl ?_
          refine V_ge rfl rfl rfl hc38 ?_
          refine V_y (Y_eql rfl rfl) rfl rfl rfl ?_
          refine V_ge rfl rfl rfl hc38 ?_
          refine V_y (Y_move rfl) rfl rfl rfl ?_
          rcases Bool.eq_false_or_eq_true ((s.size : Int) == 1) with hc39 | hc39
          · rw [if_pos hc39] at ho1
            refine V_gn rfl rfl rfl hc39 rfl rfl rfl ?_
            refine V_gn rfl rfl rfl hc39 rfl rfl rfl ?_
            refine V_gn rfl rfl rfl hc39 rfl rfl rfl ?_
            refine V_ge rfl rfl rfl hc38 ?_
            refine V_y (Y_pick_te rfl hc39 rfl) rfl rfl rfl ?_
            refine V_y (Y_pick_te rfl hc38 rfl) rfl rfl rfl ?_
            refine V_y (Y_assign rfl) rfl rfl rfl ?_
            obtain rfl := Option.some.inj ho1
            refine V_end (fun a ha40 => ?_)
            exact ⟨A, ha40.sub ⟨rfl, trivial⟩, ⟨hH, hr3⟩⟩
          · rw [if_neg (nt hc39)] at ho1
            refine V_ge rfl rfl rfl hc39 ?_
            refine V_y (Y_move rfl) rfl rfl rfl ?_
            refine V_ge rfl rfl rfl hc39 ?_
            obtain ⟨x41, hx41, ho1⟩ := Option.bind_eq_some_iff.1 ho1
            refine V_y (Y_indexS hx41 Tryz.underlying9 rfl rfl) rfl rfl rfl ?_
            refine V_ge rfl rfl rfl hc39 ?_
            refine V_y (Y_neq rfl rfl) rfl rfl rfl ?_
            refine V_ge rfl rfl rfl hc38 ?_
            refine V_y (Y_pick_fe rfl hc39 rfl) rfl rfl rfl ?_
            refine V_y (Y_pick_te rfl hc38 rfl) rfl rfl rfl ?_
            refine V_y (Y_assign rfl) rfl rfl rfl ?_
            obtain rfl := Option.some.inj ho1
            refine V_end (fun a ha42 => ?_)
            exact ⟨A, ha42.sub ⟨rfl, trivial⟩, ⟨hH, hr3⟩⟩
        · rw [if_neg (nt hc38)] at ho1
          refine V_gn rfl rfl rfl hc38 rfl rfl rfl ?_
          refine V_gn rfl rfl rfl hc38 rfl rfl rfl ?_
          refine V_gn rfl rfl rfl hc38 rfl rfl rfl ?_
          refine V_gn rfl rfl rfl hc38 rfl rfl rfl ?_
          refine V_gu rfl rfl rfl rfl rfl ?_
          refine V_gu rfl rfl rfl rfl rfl ?_
          refine V_gu rfl rfl rfl rfl rfl ?_
          refine V_gn rfl rfl rfl hc38 rfl rfl rfl ?_
          refine V_y (Y_pick_fe rfl hc38 rfl) rfl rfl rfl ?_
          refine V_y (Y_assign rfl) rfl rfl rfl ?_
          obtain rfl := Option.some.inj ho1
          refine V_end (fun a ha43 => ?_)
          exact ⟨A, ha43.sub ⟨rfl, trivial⟩, ⟨hH, hr3⟩⟩
  rintro A7 w4 ⟨hH8, hk5⟩ a ha6
  replace hK := Tr.trans (Dw := False) hK hk5
  replace hB := Nat.le_trans hB hk5.ex.size
  replace hA := hk5.new
  replace hH : Hp w.heap.size A7 w4 ([]) := hH8
  refine C_at (n := ⟨28, [], none⟩) (fun _ _ => rfl) ?_ ha6
  obtain rfl := Option.some.inj hm
  refine C_ret ?_
  try simp only [↓inBlock_ret, ↓then_ret]
  exact retQ rfl (Res.one Tryz.results68 rfl) ⟨rfl, hK.kp⟩

set_option maxRecDepth 4000 in
set_option maxHeartbeats 4000000 in
theorem portref2_number_c (w : World) {A : Nat → Prop} (hA : ∀ b, w.heap.size ≤ b → A b) (hT : Fz Tryz_FR A w) (s : ByteArray) (most : Int) {r : (Int × Bool)} (hm : portref2_number s most = some r) : Ret Tryz.prog 55 #[.string s, .int .i64 most] w fun v w' => v = .tuple #[.int .i64 r.1, .bool r.2] ∧ Kp False w w' := by
  unfold portref2_number at hm
  refine enter Tryz.func55 rfl Tryz.ntmps55 rfl ?_
  have hA0 := hA
  have hB := Nat.le_refl w.heap.size
  have hK : Tr False w.heap.size A w A w := Tr.refl (Dw := False) hA
  have hH : Hp w.heap.size A w [] := Hp.nil
  refine C_seq ?_
  refine C_region ?_
  refine V_y (Y_assign rfl) rfl rfl rfl ?_
  refine V_y (Y_assign rfl) rfl rfl rfl ?_
  refine V_to (fun _ _ => rfl) ?_
  refine C_seq ?_
  refine C_region ?_
  refine V_y (Y_move rfl) rfl rfl rfl ?_
  obtain ⟨x1, hx1, hm⟩ := Option.bind_eq_some_iff.1 hm
  refine V_call Tryz.call62 rfl rfl rfl rfl (strings_TrimPrefix_c w s (⟨#[45]⟩ : ByteArray) hx1) ?_
  rintro _ _ ⟨rfl, rfl⟩
  refine V_y (Y_assign rfl) rfl rfl rfl ?_
  refine V_to (fun _ _ => rfl) ?_
  refine C_seq ?_
  refine C_seq ?_
  refine C_region ?_
  refine V_y (Y_move rfl) rfl rfl rfl ?_
  refine V_y (Y_move rfl) rfl rfl rfl ?_
  obtain ⟨x2, hx2, hm⟩ := Option.bind_eq_some_iff.1 hm
  refine V_call Tryz.call68 rfl rfl rfl rfl (portref2_digits_c w hA x1 most hx2) ?_
  rintro _ w3 ⟨rfl, hk4⟩
  have ht5 := Kp.tr (Dw := False) hk4 hA hB
  replace hH := Hp.kp (Dw := False) hH hk4
  replace hK := Tr.trans (Dw := False) hK ht5
  replace hB := Nat.le_trans hB ht5.ex.size
  replace hA := ht5.new
  refine V_y (Y_not rfl) rfl rfl rfl ?_
  refine V_y (Y_move rfl) rfl rfl rfl ?_
  refine V_cut 7 (fun _ : Unit => [(0, .string s), (22, .bool ((!x2) || ((strEq x1 (⟨#[48]⟩ : ByteArray)) && (!(strEq s (⟨#[48]⟩ : ByteArray))))))]) (fun _ w' => w3 = w') ?_ ?_
  · simp only [List.take, List.drop]
    rcases Bool.eq_false_or_eq_true (!x2) with hc6 | hc6
    · refine V_gn rfl rfl rfl hc6 rfl rfl rfl ?_
      refine V_gn rfl rfl rfl hc6 rfl rfl rfl ?_
      refine V_gn rfl rfl rfl hc6 rfl rfl rfl ?_
      refine V_gu rfl rfl rfl rfl rfl ?_
      refine V_gu rfl rfl rfl rfl rfl ?_
      refine V_gn rfl rfl rfl hc6 rfl rfl rfl ?_
      refine V_y (Y_pick_te rfl hc6 rfl) rfl rfl rfl ?_
      exact V_end fun a ha => ⟨(), ha.sub ⟨rfl, (by rw [hc6]; rfl), trivial⟩, rfl⟩
    · refine V_ge rfl rfl rfl hc6 ?_
      refine V_y (Y_move rfl) rfl rfl rfl ?_
      refine V_ge rfl rfl rfl hc6 ?_
      refine V_y (Y_seql rfl rfl) rfl rfl rfl ?_
      refine V_ge rfl rfl rfl hc6 ?_
      refine V_y (Y_move rfl) rfl rfl rfl ?_
      refine V_cut 3 (fun _ : Unit => [(0, .string s), (15, .bool (!x2)), (21, .bool ((strEq x1 (⟨#[48]⟩ : ByteArray)) && (!(strEq s (⟨#[48]⟩ : ByteArray)))))]) (fun _ w' => w3 = w') ?_ ?_
      · simp only [List.take, List.drop]
        rcases Bool.eq_false_or_eq_true (strEq x1 (⟨#[48]⟩ : ByteArray)) with hc8 | hc8
        · refine V_ge rfl rfl rfl hc8 ?_
          refine V_y (Y_move rfl) rfl rfl rfl ?_
          refine V_ge rfl rfl rfl hc8 ?_
          refine V_y (Y_sneq rfl rfl) rfl rfl rfl ?_
          refine V_ge rfl rfl rfl hc6 ?_
          refine V_y (Y_pick_te rfl hc8 rfl) rfl rfl rfl ?_
          exact V_end fun a ha => ⟨(), ha.sub ⟨rfl, rfl, (by rw [hc8]; rfl), trivial⟩, rfl⟩
        · refine V_gn rfl rfl rfl hc8 rfl rfl rfl ?_
          refine V_gn rfl rfl rfl hc8 rfl rfl rfl ?_
          refine V_ge rfl rfl rfl hc6 ?_
          refine V_y (Y_pick_fe rfl hc8 rfl) rfl rfl rfl ?_
          exact V_end fun a ha => ⟨(), ha.sub ⟨rfl, rfl, (by rw [hc8]; rfl), trivial⟩, rfl⟩
      simp only [List.take, List.drop]
      rintro _ _ rfl
      refine V_y (Y_pick_fe rfl hc6 rfl) rfl rfl rfl ?_
      exact V_end fun a ha => ⟨(), ha.sub ⟨rfl, (by rw [hc6]; rfl), trivial⟩, rfl⟩
  simp only [List.take, List.drop]
  rintro _ _ rfl
  refine V_to (fun _ _ => rfl) ?_
  refine C_cond rfl (fun hc10 => ?_) (fun hc10 => ?_)
  · rw [if_pos hc10] at hm
    refine C_seq ?_
    refine C_region ?_
    refine V_y (Y_assign rfl) rfl rfl rfl ?_
    refine V_y (Y_assign rfl) rfl rfl rfl ?_
    refine V_to (fun _ _ => rfl) ?_
    obtain rfl := Option.some.inj hm
    refine C_ret ?_
    try simp only [↓inBlock_ret, ↓then_ret]
    exact retQ rfl (Res.two Tryz.results55 rfl rfl) ⟨rfl, hK.kp⟩
  · rw [if_neg (nt hc10)] at hm
    refine C_skip_to (fun _ _ => rfl) ?_
    refine C_seq ?_
    refine C_region ?_
    refine V_y (Y_move rfl) rfl rfl rfl ?_
    obtain ⟨x11, hx11, hm⟩ := Option.bind_eq_some_iff.1 hm
    refine V_call Tryz.call60 rfl rfl rfl rfl (strconv_Atoi_c w3 hA ⟨((Fz.tr (Dw := False) hT hK)).2.2.1, ((Fz.tr (Dw := False) hT hK)).2.2.2⟩ s hx11) ?_
    rintro _ w14 ⟨v12, rfl, h13, hk15⟩
    have ht16 := Kp.tr (Dw := False) hk15 hA hB
    replace hH := Hp.kp (Dw := False) hH hk15
    replace hK := Tr.trans (Dw := False) hK ht16
    replace hB := Nat.le_trans hB ht16.ex.size
    replace hA := ht16.new
    refine V_y (Y_move rfl) rfl rfl rfl ?_
    refine V_y (Y_extract rfl rfl) rfl rfl rfl ?_
    refine V_y (Y_extract rfl rfl) rfl rfl rfl ?_
    refine V_y (Y_assign rfl) rfl rfl rfl ?_
    refine V_y (Y_assign rfl) rfl rfl rfl ?_
    refine V_to (fun _ _ => rfl) ?_
    refine C_seq ?_
    refine C_region_q (Dw := False) Tryz_mixed (by kernel_rfl) ?_
    refine VQ_y (fun w' hw' => Y_move rfl) rfl rfl rfl ?_
    refine VQ_y (fun w' hw' => Y_move rfl) rfl rfl rfl ?_
    refine VQ_y (fun w' hw' => Y_eqlER h13 Tryz.underlying158 rfl) rfl rfl rfl ?_
    refine VQ_y (fun w' hw' => Y_assign rfl) rfl rfl rfl ?_
    refine VQ_y (fun w' hw' => Y_assign rfl) rfl rfl rfl ?_
    refine VQ_to (fun _ _ => rfl) (fun w17 hk18 => ?_)
    have ht19 := Kp.tr (Dw := False) hk18 hA hB
    replace hH := Hp.kp (Dw := False) hH hk18
    replace hK := Tr.trans (Dw := False) hK ht19
    replace hB := Nat.le_trans hB ht19.ex.size
    replace hA := ht19.new
    obtain rfl := Option.some.inj hm
    refine C_ret ?_
    try simp only [↓inBlock_ret, ↓then_ret]
    exact retQ rfl (Res.two Tryz.results55 rfl rfl) ⟨rfl, hK.kp⟩

set_option maxRecDepth 4000 in
set_option maxHeartbeats 4000000 in
theorem portref2_lineNumbers_c (w : World) {A : Nat → Prop} (hA : ∀ b, w.heap.size ≤ b → A b) (hT : Fz Tryz_FR A w) (s : ByteArray) (most : Int) {r : (ByteArray × (List Int) × Bool)} (hm : portref2_lineNumbers s most = some r) : Ret Tryz.prog 13 #[.string s, .int .i64 most] w fun v w' => ∃ s0, v = .tuple #[.string r.1, s0, .bool r.2.2] ∧ Ownd 3 w w' s0 r.2.1 ∧ Kp False w w' := by
  unfold portref2_lineNumbers at hm
  refine enter Tryz.func13 rfl Tryz.ntmps13 rfl ?_
  have hA0 := hA
  have hB := Nat.le_refl w.heap.size
  have hK : Tr False w.heap.size A w A w := Tr.refl (Dw := False) hA
  have hH : Hp w.heap.size A w [] := Hp.nil
  refine C_seq ?_
  refine C_region ?_
  refine V_y (Y_assign rfl) rfl rfl rfl ?_
  refine V_y (Y_assign rfl) rfl rfl rfl ?_
  refine V_y (Y_assign rfl) rfl rfl rfl ?_
  refine V_to (fun _ _ => rfl) ?_
  refine C_seq ?_
  refine C_region ?_
  refine V_y (Y_move rfl) rfl rfl rfl ?_
  obtain ⟨x1, hx1, hm⟩ := Option.bind_eq_some_iff.1 hm
  refine V_call Tryz.call48 rfl rfl rfl rfl (strings_Split_c (Dw := False) w hA (Fz.tr (Dw := False) hT hK) s (⟨#[32]⟩ : ByteArray) hx1) ?_
  rintro v2 w4 ⟨_, rfl, h3, hk5⟩
  have ht6 := Kp.tr (Dw := False) hk5 hA hB
  replace hH := Hp.kp (Dw := False) hH hk5
  replace hK := Tr.trans (Dw := False) hK ht6
  replace hB := Nat.le_trans hB ht6.ex.size
  replace hA := ht6.new
  refine V_y (Y_assign rfl) rfl rfl rfl ?_
  refine V_to (fun _ _ => rfl) ?_
  refine C_seq ?_
  refine C_region ?_
  refine V_y (Y_assign rfl) rfl rfl rfl ?_
  refine V_to (fun _ _ => rfl) ?_
  refine C_seq ?_
  refine C_seq ?_
  refine C_region ?_
  refine V_y (Y_move rfl) rfl rfl rfl ?_
  obtain ⟨x7, hx7, hm⟩ := Option.bind_eq_some_iff.1 hm
  obtain ⟨v8, h9, h9y⟩ := sliceL_val hx7 h3
  refine V_y (Y_sliceLL h9y Tryz.underlying39 Tryz.sizeOf9 rfl rfl) rfl rfl rfl ?_
  refine V_y (Y_lenSl h9 rfl Tryz.underlying39 rfl) rfl rfl rfl ?_
  refine V_y (Y_move rfl) rfl rfl rfl ?_
  refine V_to (fun _ _ => rfl) ?_
  replace hH : Hp w.heap.size A w4 (obS (α := Int) 3 (.slice none 0 0) ([] : (List Int)) :: []) := Hp.addNil (α := Int) (e := 3) hH
  have hn34 := Sl.le h9
  obtain ⟨o10, ho10, hm⟩ := Option.bind_eq_some_iff.1 hm
  refine C_cutG (ι := ((List Int) × Value × (Nat → Prop))) (fun ⟨s11, v17, A19⟩ => [(7, v2), (8, v17)]) (fun ⟨s11, v17, A19⟩ => fun w' => o10 = .fin s11 ∧ Hp w.heap.size A19 w' (obS (α := Int) 3 v17 s11 :: []) ∧ Tr False w.heap.size A w4 A19 w') ?_ ?_
  · refine C_block ?_
    refine C_range ho10 (fun k13 s21 a w' => ∃ i : (Value × (Nat → Prop)), Has ⟨39, [], none⟩ a ([(1, .int .i64 most), (7, v2), (8, i.1), (16, v8), (17, .int .i64 (x7.length : Int)), (18, .int .i64 (k13 : Int))]) ∧ Hp w.heap.size i.2 w' (obS (α := Int) 3 i.1 s21 :: []) ∧ Tr False w.heap.size A w4 i.2 w') (fun a ha => ⟨(.slice none 0 0, A), ha.sub ⟨rfl, rfl, rfl, rfl, rfl, rfl, trivial⟩, ⟨hH, Tr.refl (Dw := False) hA⟩⟩) ?_
    rintro K k13 s21 a w22 ⟨⟨v23, A25⟩, ha58, hH26, hr12⟩ hle30 K33 h32
    refine C_of ?_ ha58
    replace h3 := Sl.tr (Dw := False) h3 hr12
    replace h9 := Sl.tr (Dw := False) h9 hr12
    replace hK := Tr.trans (Dw := False) hK hr12
    replace hB := Nat.le_trans hB hr12.ex.size
    replace hA := hr12.new
    replace hH : Hp w.heap.size A25 w22 (obS (α := Int) 3 v23 s21 :: []) := hH26
    refine C_seq (C_region (V_y (Y_lss rfl rfl) rfl rfl rfl (V_to (fun _ _ => rfl) ?_)))
    refine C_seq ?_
    refine C_cond rfl (fun hc35 => ?_) (fun hc35 => ?_)
    · have hlt31 := lt_of_dec hc35
      obtain ⟨x27, h28, h29⟩ := K33 hlt31
      refine C_skip_to (fun _ _ => rfl) ?_
      refine C_seq ?_
      refine C_block ?_
      refine C_seq ?_
      refine C_region ?_
      obtain ⟨x36, hx36, h28⟩ := Option.bind_eq_some_iff.1 h28
      refine V_indexAddr h9 hx36 Tryz.underlying39 Tryz.sizeOf9 rfl rfl rfl ?_
      intro b37 o38 h39
      refine V_y (Y_load (El.str h39) Tryz.isAgg9 rfl) rfl rfl rfl ?_
      refine V_y (Y_assign rfl) rfl rfl rfl ?_
      refine V_to (fun _ _ => rfl) ?_
      refine C_seq ?_
      refine C_region ?_
      refine V_y (Y_move rfl) rfl rfl rfl ?_
      refine V_y (Y_move rfl) rfl rfl rfl ?_
      obtain ⟨x40, hx40, h28⟩ := Option.bind_eq_some_iff.1 h28
      refine V_call Tryz.call55 rfl rfl rfl rfl (portref2_number_c w22 hA (Fz.tr (Dw := False) hT hK) x36 most hx40) ?_
      rintro _ w41 ⟨rfl, hk42⟩
      have ht43 := Kp.tr (Dw := False) hk42 hA hB
      replace hH := Hp.kp (Dw := False) hH hk42
      replace h3 := Sl.tr (Dw := False) h3 ht43
      replace h9 := Sl.tr (Dw := False) h9 ht43
      replace hK := Tr.trans (Dw := False) hK ht43
      replace hr12 := Tr.trans (Dw := False) hr12 ht43
      replace hB := Nat.le_trans hB ht43.ex.size
      replace hA := ht43.new
      refine V_y (Y_move rfl) rfl rfl rfl ?_
      refine V_y (Y_extract rfl rfl) rfl rfl rfl ?_
      refine V_y (Y_extract rfl rfl) rfl rfl rfl ?_
      refine V_y (Y_assign rfl) rfl rfl rfl ?_
      refine V_y (Y_assign rfl) rfl rfl rfl ?_
      refine V_to (fun _ _ => rfl) ?_
      refine C_seq ?_
      refine C_seq ?_
      refine C_region ?_
      refine V_y (Y_move rfl) rfl rfl rfl ?_
      refine V_y (Y_not rfl) rfl rfl rfl ?_
      refine V_to (fun _ _ => rfl) ?_
      refine C_cond rfl (fun hc44 => ?_) (fun hc44 => ?_)
      · rw [if_pos hc44] at h28
        refine C_seq ?_
        refine C_region ?_
        refine V_y (Y_assign rfl) rfl rfl rfl ?_
        refine V_y (Y_assign rfl) rfl rfl rfl ?_
        refine V_y (Y_assign rfl) rfl rfl rfl ?_
        refine V_to (fun _ _ => rfl) ?_
        obtain rfl := Option.some.inj h28
        obtain rfl := (h29 : Lp.rt _ = _)
        rw [Lp.andThen_rt] at hm
        obtain rfl := Option.some.inj hm
        replace hH : Hp w.heap.size A25 w41 (obS (α := Int) 3 (.slice none 0 0) ([] : (List Int)) :: obS (α := Int) 3 v23 s21 :: []) := Hp.addNil (α := Int) (e := 3) hH
        refine C_ret ?_
        try simp only [↓inBlock_ret, ↓then_ret]
        exact retQ rfl (Res.three Tryz.results13 rfl rfl rfl) ⟨.slice none 0 0, rfl, (Hp.ownd hH (i := 0) rfl), hK.kp⟩
      · rw [if_neg (nt hc44)] at h28
        refine C_skip_to (fun _ _ => rfl) ?_
        refine C_region ?_
        refine V_y (Y_move rfl) rfl rfl rfl ?_
        refine V_y (Y_move rfl) rfl rfl rfl ?_
        refine V_buildSlice (Dw := False) (l := ([x40.1] : List Int)) (len := 1) Tryz.underlying44 Tryz.sizeOf3 Tryz.zeroValue3 rfl (by with_unfolding_all rfl) (show (1 * 1 : Nat) ≠ 0 by decide) (show (1 * 1 : Nat) ≤ 2 ^ 24 by decide) hA ⟨[.int .i64 x40.1], _, rfl, rfl, rfl⟩ rfl rfl ?_
        intro v45 w46 hk48 h47
        have ht49 := Kp.tr (Dw := False) hk48 hA hB
        replace hH := Hp.kp (Dw := False) hH hk48
        replace h3 := Sl.tr (Dw := False) h3 ht49
        replace h9 := Sl.tr (Dw := False) h9 ht49
        replace hK := Tr.trans (Dw := False) hK ht49
        replace hr12 := Tr.trans (Dw := False) hr12 ht49
        replace hB := Nat.le_trans hB ht49.ex.size
        replace hA := ht49.new
        obtain ⟨x50, hx50, h28⟩ := Option.bind_eq_some_iff.1 h28
        refine V_appendH (Dw := False) (e := 3) (v := v23) (l := s21) (ti := Tryz.t3) (bytes := 8) (lim := 17592186044416) hH (i := 0) rfl h47 hx50 Tryz.underlying44 Tryz_info3 rfl rfl rfl rfl (by decide) (by decide) (by decide) hB hA rfl rfl rfl ?_
        intro v51 w52 A53 hH54 ht55
        replace h3 := Sl.tr (Dw := False) h3 ht55
        replace h9 := Sl.tr (Dw := False) h9 ht55
        replace h47 := Sl.tr (Dw := False) h47 ht55
        replace hK := Tr.trans (Dw := False) hK ht55
        replace hr12 := Tr.trans (Dw := False) hr12 ht55
        replace hB := Nat.le_trans hB ht55.ex.size
        replace hA := ht55.new
        replace hH : Hp w.heap.size A53 w52 (obS (α := Int) 3 v51 x50 :: []) := hH54
        refine V_y (Y_assign rfl) rfl rfl rfl ?_
        refine V_to (fun _ _ => rfl) ?_
        refine C_region ?_
        refine V_y (Y_addI rfl rfl) rfl rfl rfl ?_
        refine V_y (Y_move rfl) rfl rfl rfl ?_
        obtain rfl := Option.some.inj h28
        refine V_end (fun a ha56 => ?_)
        exact ⟨x50, hlt31, h29, ⟨(v51, A53), ha56.sub ⟨rfl, rfl, rfl, rfl, rfl, (congrArg (fun z => some (Value.int .i64 z)) (w64_succ hlt31 hn34)), trivial⟩, ⟨hH, hr12⟩⟩⟩
    · refine C_exit (fun a ha57 => ?_)
      exact ⟨(s21, v23, A25), ha57.sub ⟨rfl, rfl, trivial⟩, ⟨(h32 (eq_of_dec hle30 hc35)).symm, hH, hr12⟩⟩
  rintro ⟨s11, v17, A19⟩ w14 ⟨rfl, hH20, hk15⟩ a ha16
  rw [Lp.andThen_fin] at hm
  replace h3 := Sl.tr (Dw := False) h3 hk15
  replace hK := Tr.trans (Dw := False) hK hk15
  replace hB := Nat.le_trans hB hk15.ex.size
  replace hA := hk15.new
  replace hH : Hp w.heap.size A19 w14 (obS (α := Int) 3 v17 s11 :: []) := hH20
  refine C_at (n := ⟨39, [], none⟩) (fun _ _ => rfl) ?_ ha16
  refine C_seq ?_
  refine C_region ?_
  refine V_y (Y_move rfl) rfl rfl rfl ?_
  obtain ⟨x59, hx59, hm⟩ := Option.bind_eq_some_iff.1 hm
  refine V_indexAddr h3 hx59 Tryz.underlying39 Tryz.sizeOf9 rfl rfl rfl ?_
  intro b60 o61 h62
  refine V_y (Y_load (El.str h62) Tryz.isAgg9 rfl) rfl rfl rfl ?_
  refine V_y (Y_move rfl) rfl rfl rfl ?_
  refine V_y (Y_assign rfl) rfl rfl rfl ?_
  refine V_y (Y_assign rfl) rfl rfl rfl ?_
  refine V_y (Y_assign rfl) rfl rfl rfl ?_
  refine V_to (fun _ _ => rfl) ?_
  obtain rfl := Option.some.inj hm
  refine C_ret ?_
  try simp only [↓inBlock_ret, ↓then_ret]
  exact retQ rfl (Res.three Tryz.results13 rfl rfl rfl) ⟨v17, rfl, (Hp.ownd hH (i := 0) rfl), hK.kp⟩

set_option maxRecDepth 4000 in
set_option maxHeartbeats 4000000 in
theorem portref2_ReadCalendarOf_1_c (w : World) {A : Nat → Prop} (hA : ∀ b, w.heap.size ≤ b → A b) (p0 : Int) (b_p0 : Nat) (h_p0 : El A w b_p0 0 p0) {r : (cal_Calendar × Int × Int)} (hm : portref2_ReadCalendarOf_1 p0 = some r) : Ret Tryz.prog 11 #[.pointer (some ⟨b_p0, 0, none⟩)] w fun v w' => ∃ s0 s1 s2, v = .tuple #[.agg #[.int .i64 r.1.zone.offset, s0, s1, s2], .int .i64 r.2.1, .int .i64 r.2.2] ∧ Sl A w' s0 r.1.zone.changes ∧ Sl A w' s1 r.1.week ∧ Sl A w' s2 r.1.specials ∧ Kp Dw w w' := by
  unfold portref2_ReadCalendarOf_1 at hm
  refine enter Tryz.func11 rfl Tryz.ntmps11 rfl ?_
  have hA0 := hA
  have hB := Nat.le_refl w.heap.size
  have hK : Tr Dw w.heap.size A w A w := Tr.refl (Dw := Dw) hA
  have hH : Hp w.heap.size A w [] := Hp.nil
  refine C_seq ?_
  refine C_region ?_
  refine V_allocH (Dw := Dw) (B := w.heap.size) hH Tryz.zeroValue28 hB hA rfl ?_
  intro b1 w2 A3 hH4 ht5
  replace h_p0 := El.tr (Dw := Dw) h_p0 ht5
  replace hK := Tr.trans (Dw := Dw) hK ht5
  replace hB := Nat.le_trans hB ht5.ex.size
  replace hA := ht5.new
  replace hH : Hp w.heap.size A3 w2 (obC b1 [.int .i64 0, .slice none 0 0, .slice none 0 0, .slice none 0 0] 28 :: []) := hH4
  refine V_y (Y_assign rfl) rfl rfl rfl ?_
  refine V_y (Y_assign rfl) rfl rfl rfl ?_
  refine V_to (fun _ _ => rfl) ?_
  refine C_seq ?_
  refine C_region_ch (Dw := Dw) A3 6 [(1, 0), (1, 1), (1, 2), (3, 3), (1, 4), (1, 5)] Tryz_mixed (by kernel_rfl) (fun w6 hk7 => ?_)
  have ht8 := Kp.tr (Dw := Dw) hk7 hA hB
  replace hH := Hp.kp (Dw := Dw) hH hk7
  replace h_p0 := El.tr (Dw := Dw) h_p0 ht8
  replace hK := Tr.trans (Dw := Dw) hK ht8
  replace hB := Nat.le_trans hB ht8.ex.size
  replace hA := ht8.new
  refine CH_q2 (Dw := Dw) rfl ?_
  refine VQ_y (fun w' hw' => Y_build (cells := #[.int .i64 0, .slice none 0 0, .slice none 0 0, .slice none 0 0]) Tryz.underlying28 Tryz.zeroValue28 (Tryz_places28 _ Tryz.underlying28) rfl (by with_unfolding_all rfl)) rfl rfl rfl ?_
  refine VQ_CH (Dw := Dw) ?_
  refine CH_q2 (Dw := Dw) rfl ?_
  refine VQ_y (fun w' hw' => Y_load (El.int (El.keep h_p0 (XA.ex hw'))) Tryz.isAgg3 rfl) rfl rfl rfl ?_
  refine VQ_CH (Dw := Dw) ?_
  refine CH_q2 (Dw := Dw) rfl ?_
  refine VQ_y (fun w' hw' => Y_addI rfl rfl) rfl rfl rfl ?_
  refine VQ_CH (Dw := Dw) ?_
  refine CH_l1 (Dw := Dw) (k := 1) rfl ?_
  refine V_storeC (Dw := Dw) (off := 0) (ds := [.int .i64 0, .slice none 0 0, .slice none 0 0, .slice none 0 0]) hH (i := 0) rfl Tryz.sizeOf28 rfl (Nat.le_of_ble_eq_true rfl) (by exact (List.forall_mem_cons.2 ⟨rfl, (List.forall_mem_cons.2 ⟨rfl, (List.forall_mem_cons.2 ⟨rfl, (List.forall_mem_cons.2 ⟨rfl, (fun _ h => nomatch h)⟩)⟩)⟩)⟩)) rfl hB hA rfl rfl ?_
  intro w9 hH10 ht11
  replace h_p0 := El.tr (Dw := Dw) h_p0 ht11
  replace hK := Tr.trans (Dw := Dw) hK ht11
  replace hB := Nat.le_trans hB ht11.ex.size
  replace hA := ht11.new
  replace hH : Hp w.heap.size A3 w9 (obC b1 [.int .i64 0, .slice none 0 0, .slice none 0 0, .slice none 0 0] 28 :: []) := hH10
  refine V_CHx (Dw := Dw) (XA.tr (Dw := Dw) ht11) ?_
  refine CH_q2 (Dw := Dw) rfl ?_
  refine VQ_y (fun w' hw' => Y_assign rfl) rfl rfl rfl ?_
  refine VQ_CH (Dw := Dw) ?_
  refine CH_q2 (Dw := Dw) rfl ?_
  refine VQ_y (fun w' hw' => Y_assign rfl) rfl rfl rfl ?_
  refine VQ_CH (Dw := Dw) ?_
  refine CH_tail (Dw := Dw) ?_
  show V _ _ _ _ [] _ _
  refine V_to (fun _ _ => rfl) ?_
  obtain rfl := Option.some.inj hm
  refine C_ret ?_
  try simp only [↓inBlock_ret, ↓then_ret]
  exact retQ rfl (Res.l3 Tryz.results11 (RL.cell rfl (loadVar_agg (Hp.part (off := 0) (n := 4) (ds := [.int .i64 0, .slice none 0 0, .slice none 0 0, .slice none 0 0]) hH (i := 0) rfl rfl) Tryz.isAgg28 Tryz.sizeOf28)) (RL.tmp rfl) (RL.tmp rfl)) ⟨.slice none 0 0, .slice none 0 0, .slice none 0 0, rfl, Sl.nil, Sl.nil, Sl.nil, hK.kp⟩

end Go.Proofs.YtebbjefkndfkpaaGreatDoor.W
