/-
  Written by program (gen.py) from the IR of the dump: each function computes its model.
-/
import Derived.Test.YtoflhekllembeaaCalCommonW1
namespace Go.Proofs.Ytoflhekllembeaa.W
open Go Go.RowKit Go.Pu Go.Gw Go.Proofs Go.Proofs.Ytoflhekllembeaa.M
set_option linter.unusedVariables false
set_option linter.unusedSimpArgs false
variable {Dw : Prop}

set_option maxRecDepth 4000 in
set_option maxHeartbeats 4000000 in
theorem cal_Common_c (w : World) {A : Nat → Prop} (hA : ∀ b, w.heap.size ≤ b → A b) (l : (List cal_Calendar)) (v_l : Value) (h_l : Sl A w v_l l) (need : Int) (from_ : Int) (to_ : Int) {r : ((List cal_Span) × Int)} (hm : cal_Common l need from_ to_ = some r) : Ret Try.prog 4 #[v_l, .int .i64 need, .int .i64 from_, .int .i64 to_] w fun v w' => ∃ s0, v = .tuple #[s0, .int .i64 r.2] ∧ Sl A w' s0 r.1 ∧ Kp Dw w w' := by
  unfold cal_Common at hm
  refine enter Try.func4 rfl Try.ntmps4 rfl ?_
  have hA0 := hA
  have hB := Nat.le_refl w.heap.size
  have hK : Tr Dw w.heap.size A w A w := Tr.refl (Dw := Dw) hA
  have hH : Hp w.heap.size A w [] := Hp.nil
  refine C_seq ?_
  refine C_region ?_
  refine V_box rfl rfl ?_
  intro b3 w4 h5
  have hk7 := h5.kp (Dw := Dw)
  have h6 : El (α := Int) A w4 b3 0 need := h5.el hA rfl
  have ht8 := Kp.tr (Dw := Dw) hk7 hA hB
  replace hH := Hp.kp (Dw := Dw) hH hk7
  replace h_l := Sl.tr (Dw := Dw) h_l ht8
  replace hK := Tr.trans (Dw := Dw) hK ht8
  replace hB := Nat.le_trans hB ht8.ex.size
  replace hA := ht8.new
  refine V_y (Y_assign rfl) rfl rfl rfl ?_
  refine V_y (Y_assign rfl) rfl rfl rfl ?_
  refine V_to (fun _ _ => rfl) ?_
  refine C_seq ?_
  refine C_seq ?_
  refine C_region ?_
  refine V_y (Y_move rfl) rfl rfl rfl ?_
  refine V_y (Y_lenSl h_l rfl Try.underlying22 rfl) rfl rfl rfl ?_
  refine V_y (Y_gtr rfl rfl) rfl rfl rfl ?_
  refine V_to (fun _ _ => rfl) ?_
  refine C_cond rfl (fun hc9 => ?_) (fun hc9 => ?_)
  · rw [if_pos hc9] at hm
    refine C_seq ?_
    refine C_region ?_
    refine V_y (Y_assign rfl) rfl rfl rfl ?_
    refine V_y (Y_assign rfl) rfl rfl rfl ?_
    refine V_to (fun _ _ => rfl) ?_
    obtain rfl := Option.some.inj hm
    refine C_ret ?_
    try simp only [↓inBlock_ret, ↓then_ret]
    exact retQ rfl (Res.two Try.results4 rfl rfl) ⟨.slice none 0 0, rfl, Sl.nil, hK.kp⟩
  · rw [if_neg (nt hc9)] at hm
    refine C_skip_to (fun _ _ => rfl) ?_
    refine C_seq ?_
    refine C_seq ?_
    refine C_region ?_
    refine V_y (Y_move rfl) rfl rfl rfl ?_
    refine V_y (Y_lenSl h_l rfl Try.underlying22 rfl) rfl rfl rfl ?_
    refine V_y (Y_move rfl) rfl rfl rfl ?_
    refine V_to (fun _ _ => rfl) ?_
    have hn30 := Sl.le h_l
    obtain ⟨o10, ho10, hm⟩ := Option.bind_eq_some_iff.1 hm
    refine C_cutG (ι := (Unit × (Nat → Prop))) (fun ⟨s11, A17⟩ => [(0, v_l), (2, .int .i64 from_), (3, .int .i64 to_), (5, .pointer (some ⟨b3, 0, none⟩))]) (fun ⟨s11, A17⟩ => fun w' => o10 = .fin s11 ∧ Hp w.heap.size A17 w' ([]) ∧ Tr Dw w.heap.size A w4 A17 w') ?_ ?_
    · refine C_block ?_
      refine C_range ho10 (fun k13 _ a w' => ∃ i : (Nat → Prop), Has ⟨61, [], none⟩ a ([(0, v_l), (2, .int .i64 from_), (3, .int .i64 to_), (5, .pointer (some ⟨b3, 0, none⟩)), (20, v_l), (21, .int .i64 (l.length : Int)), (22, .int .i64 (k13 : Int))]) ∧ Hp w.heap.size i w' ([]) ∧ Tr Dw w.heap.size A w4 i w') (fun a ha => ⟨A, ha.sub ⟨rfl, rfl, rfl, rfl, rfl, rfl, rfl, trivial⟩, ⟨hH, Tr.refl (Dw := Dw) hA⟩⟩) ?_
      rintro K k13 _ a w20 ⟨A21, ha74, hH22, hr12⟩ hle26 K29 h28
      refine C_of ?_ ha74
      replace h_l := Sl.tr (Dw := Dw) h_l hr12
      replace h6 := El.tr (Dw := Dw) h6 hr12
      replace hK := Tr.trans (Dw := Dw) hK hr12
      replace hB := Nat.le_trans hB hr12.ex.size
      replace hA := hr12.new
      replace hH : Hp w.heap.size A21 w20 ([]) := hH22
      refine C_seq (C_region (V_y (Y_lss rfl rfl) rfl rfl rfl (V_to (fun _ _ => rfl) ?_)))
      refine C_seq ?_
      refine C_cond rfl (fun hc31 => ?_) (fun hc31 => ?_)
      · have hlt27 := lt_of_dec hc31
        obtain ⟨x23, h24, h25⟩ := K29 hlt27
        refine C_skip_to (fun _ _ => rfl) ?_
        refine C_seq ?_
        refine C_block ?_
        refine C_seq ?_
        refine C_region ?_
        obtain ⟨x32, hx32, h24⟩ := Option.bind_eq_some_iff.1 h24
        refine V_indexAddr h_l hx32 Try.underlying22 Try.sizeOf37 rfl rfl rfl ?_
        intro b33 o34 h35
        obtain ⟨v36, v38, v40, h42, h37, h39, h41⟩ := El_cal_Calendar h35
        refine V_y (Y_loadA h42 Try.isAgg37 Try.sizeOf37 rfl) rfl rfl rfl ?_
        refine V_alloc Try.zeroValue37 rfl ?_
        intro b43 w44 h45
        have h50 : (v36).oneCell' = true := by obtain ⟨_, _, e, _⟩ := Sl.form h37; rw [e]; rfl
        have h53 : (v38).oneCell' = true := by obtain ⟨_, _, e, _⟩ := Sl.form h39; rw [e]; rfl
        have h56 : (v40).oneCell' = true := by obtain ⟨_, _, e, _⟩ := Sl.form h41; rw [e]; rfl
        refine V_storeNew h45 Try.sizeOf37 rfl rfl rfl rfl (by exact (List.forall_mem_cons.2 ⟨rfl, (List.forall_mem_cons.2 ⟨h50, (List.forall_mem_cons.2 ⟨h53, (List.forall_mem_cons.2 ⟨h56, (fun _ h => nomatch h)⟩)⟩)⟩)⟩)) ?_
        intro w46 h47
        have hk58 := h47.kp (Dw := Dw)
        have h57 : El (α := cal_Calendar) A21 w46 b43 0 x32 := h47.el hA ⟨[.int .i64 x32.zone.offset, v36], _, rfl, ⟨[.int .i64 x32.zone.offset], _, rfl, rfl, ⟨_, rfl, h37⟩⟩, ⟨[v38], _, rfl, ⟨_, rfl, h39⟩, ⟨_, rfl, h41⟩⟩⟩
        have ht59 := Kp.tr (Dw := Dw) hk58 hA hB
        replace hH := Hp.kp (Dw := Dw) hH hk58
        replace h_l := Sl.tr (Dw := Dw) h_l ht59
        replace h6 := El.tr (Dw := Dw) h6 ht59
        replace h35 := El.tr (Dw := Dw) h35 ht59
        replace h37 := Sl.tr (Dw := Dw) h37 ht59
        replace h39 := Sl.tr (Dw := Dw) h39 ht59
        replace h41 := Sl.tr (Dw := Dw) h41 ht59
        replace hK := Tr.trans (Dw := Dw) hK ht59
        replace hr12 := Tr.trans (Dw := Dw) hr12 ht59
        replace hB := Nat.le_trans hB ht59.ex.size
        replace hA := ht59.new
        refine V_to (fun _ _ => rfl) ?_
        refine C_seq ?_
        refine C_region ?_
        obtain ⟨v60, v62, v64, h66, h61, h63, h65⟩ := El_cal_Calendar h57
        refine V_y (Y_loadA h66 Try.isAgg37 Try.sizeOf37 rfl) rfl rfl rfl ?_
        obtain ⟨x67, hx67, h24⟩ := Option.bind_eq_some_iff.1 h24
        refine V_call Try.call7 rfl rfl rfl rfl (cal_CheckCalendar_c (Dw := Dw) w46 hA x32 v60 h61 v62 h63 v64 h65 hx67) ?_
        rintro _ w68 ⟨rfl, hk69⟩
        have ht70 := Kp.tr (Dw := Dw) hk69 hA hB
        replace hH := Hp.kp (Dw := Dw) hH hk69
        replace h_l := Sl.tr (Dw := Dw) h_l ht70
        replace h6 := El.tr (Dw := Dw) h6 ht70
        replace h57 := El.tr (Dw := Dw) h57 ht70
        replace h61 := Sl.tr (Dw := Dw) h61 ht70
        replace h63 := Sl.tr (Dw := Dw) h63 ht70
        replace h65 := Sl.tr (Dw := Dw) h65 ht70
        replace hK := Tr.trans (Dw := Dw) hK ht70
        replace hr12 := Tr.trans (Dw := Dw) hr12 ht70
        replace hB := Nat.le_trans hB ht70.ex.size
        replace hA := ht70.new
        refine V_y (Y_assign rfl) rfl rfl rfl ?_
        refine V_to (fun _ _ => rfl) ?_
        refine C_seq ?_
        refine C_region ?_
        refine V_y (Y_move rfl) rfl rfl rfl ?_
        refine V_y (Y_neq rfl rfl) rfl rfl rfl ?_
        refine V_to (fun _ _ => rfl) ?_
        refine C_cond rfl (fun hc71 => ?_) (fun hc71 => ?_)
        · rw [if_pos hc71] at h24
          refine C_seq ?_
          refine C_region ?_
          refine V_y (Y_move rfl) rfl rfl rfl ?_
          refine V_y (Y_assign rfl) rfl rfl rfl ?_
          refine V_y (Y_assign rfl) rfl rfl rfl ?_
          refine V_to (fun _ _ => rfl) ?_
          obtain rfl := Option.some.inj h24
          obtain rfl := (h25 : Lp.rt _ = _)
          rw [Lp.andThen_rt] at hm
          obtain rfl := Option.some.inj hm
          refine C_ret ?_
          try simp only [↓inBlock_ret, ↓then_ret]
          exact retQ rfl (Res.two Try.results4 rfl rfl) ⟨.slice none 0 0, rfl, Sl.nil, hK.kp⟩
        · rw [if_neg (nt hc71)] at h24
          refine C_skip_to (fun _ _ => rfl) ?_
          refine C_region ?_
          refine V_y (Y_addI rfl rfl) rfl rfl rfl ?_
          refine V_y (Y_move rfl) rfl rfl rfl ?_
          obtain rfl := Option.some.inj h24
          refine V_end (fun a ha72 => ?_)
          exact ⟨(), hlt27, h25, ⟨A21, ha72.sub ⟨rfl, rfl, rfl, rfl, rfl, rfl, (congrArg (fun z => some (Value.int .i64 z)) (w64_succ hlt27 hn30)), trivial⟩, ⟨hH, hr12⟩⟩⟩
      · refine C_exit (fun a ha73 => ?_)
        exact ⟨((), A21), ha73.sub ⟨rfl, rfl, rfl, rfl, trivial⟩, ⟨(h28 (eq_of_dec hle26 hc31)).symm, hH, hr12⟩⟩
    rintro ⟨s11, A17⟩ w14 ⟨rfl, hH18, hk15⟩ a ha16
    rw [Lp.andThen_fin] at hm
    replace h_l := Sl.tr (Dw := Dw) h_l hk15
    replace h6 := El.tr (Dw := Dw) h6 hk15
    replace hK := Tr.trans (Dw := Dw) hK hk15
    replace hB := Nat.le_trans hB hk15.ex.size
    replace hA := hk15.new
    replace hH : Hp w.heap.size A17 w14 ([]) := hH18
    refine C_at (n := ⟨61, [], none⟩) (fun _ _ => rfl) ?_ ha16
    refine C_seq ?_
    refine C_seq ?_
    refine C_region ?_
    refine V_y (Y_load (El.int h6) Try.isAgg3 rfl) rfl rfl rfl ?_
    refine V_call Try.call8 rfl rfl rfl rfl (cal_within_c w14 need 1 50) ?_
    rintro _ _ ⟨rfl, rfl⟩
    refine V_y (Y_not rfl) rfl rfl rfl ?_
    refine V_to (fun _ _ => rfl) ?_
    refine C_cond rfl (fun hc75 => ?_) (fun hc75 => ?_)
    · rw [if_pos hc75] at hm
      refine C_seq ?_
      refine C_region ?_
      refine V_y (Y_assign rfl) rfl rfl rfl ?_
      refine V_y (Y_assign rfl) rfl rfl rfl ?_
      refine V_to (fun _ _ => rfl) ?_
      obtain rfl := Option.some.inj hm
      refine C_ret ?_
      try simp only [↓inBlock_ret, ↓then_ret]
      exact retQ rfl (Res.two Try.results4 rfl rfl) ⟨.slice none 0 0, rfl, Sl.nil, hK.kp⟩
    · rw [if_neg (nt hc75)] at hm
      refine C_skip_to (fun _ _ => rfl) ?_
      refine C_seq ?_
      refine C_seq ?_
      refine C_region ?_
      refine V_y (Y_move rfl) rfl rfl rfl ?_
      refine V_y (Y_move rfl) rfl rfl rfl ?_
      refine V_call Try.call9 rfl rfl rfl rfl (cal_stretch_c w14 from_ to_) ?_
      rintro _ _ ⟨rfl, rfl⟩
      refine V_y (Y_assign rfl) rfl rfl rfl ?_
      refine V_to (fun _ _ => rfl) ?_
      refine C_seq ?_
      refine C_region ?_
      refine V_y (Y_move rfl) rfl rfl rfl ?_
      refine V_y (Y_neq rfl rfl) rfl rfl rfl ?_
      refine V_to (fun _ _ => rfl) ?_
      refine C_cond rfl (fun hc76 => ?_) (fun hc76 => ?_)
      · rw [if_pos hc76] at hm
        refine C_seq ?_
        refine C_region ?_
        refine V_y (Y_move rfl) rfl rfl rfl ?_
        refine V_y (Y_assign rfl) rfl rfl rfl ?_
        refine V_y (Y_assign rfl) rfl rfl rfl ?_
        refine V_to (fun _ _ => rfl) ?_
        obtain rfl := Option.some.inj hm
        refine C_ret ?_
        try simp only [↓inBlock_ret, ↓then_ret]
        exact retQ rfl (Res.two Try.results4 rfl rfl) ⟨.slice none 0 0, rfl, Sl.nil, hK.kp⟩
      · rw [if_neg (nt hc76)] at hm
        refine C_skip_to (fun _ _ => rfl) ?_
        refine C_seq ?_
        refine C_region ?_
        refine V_y (Y_assign rfl) rfl rfl rfl ?_
        refine V_to (fun _ _ => rfl) ?_
        refine C_seq ?_
        refine C_seq ?_
        refine C_region ?_
        refine V_y (Y_move rfl) rfl rfl rfl ?_
        refine V_y (Y_lenSl h_l rfl Try.underlying22 rfl) rfl rfl rfl ?_
        refine V_y (Y_move rfl) rfl rfl rfl ?_
        refine V_to (fun _ _ => rfl) ?_
        replace hH : Hp w.heap.size A17 w14 (obS (α := cal_Span) 29 (.slice none 0 0) ([] : (List cal_Span)) :: []) := Hp.addNil (α := cal_Span) (e := 29) hH
        have hn101 := Sl.le h_l
        obtain ⟨o77, ho77, hm⟩ := Option.bind_eq_some_iff.1 hm
        refine C_cutG (ι := ((List cal_Span) × Value × (Nat → Prop))) (fun ⟨s78, v84, A86⟩ => [(5, .pointer (some ⟨b3, 0, none⟩)), (14, v84)]) (fun ⟨s78, v84, A86⟩ => fun w' => o77 = .fin s78 ∧ Hp w.heap.size A86 w' (obS (α := cal_Span) 29 v84 s78 :: []) ∧ Tr Dw w.heap.size A17 w14 A86 w') ?_ ?_
        · refine C_block ?_
          refine C_range ho77 (fun k80 s88 a w' => ∃ i : (Value × (Nat → Prop)), Has ⟨61, [], none⟩ a ([(2, .int .i64 from_), (3, .int .i64 to_), (5, .pointer (some ⟨b3, 0, none⟩)), (14, i.1), (41, v_l), (42, .int .i64 (l.length : Int)), (43, .int .i64 (k80 : Int))]) ∧ Hp w.heap.size i.2 w' (obS (α := cal_Span) 29 i.1 s88 :: []) ∧ Tr Dw w.heap.size A17 w14 i.2 w') (fun a ha => ⟨(.slice none 0 0, A17), ha.sub ⟨rfl, rfl, rfl, rfl, rfl, rfl, rfl, trivial⟩, ⟨hH, Tr.refl (Dw := Dw) hA⟩⟩) ?_
          rintro K k80 s88 a w89 ⟨⟨v90, A92⟩, ha157, hH93, hr79⟩ hle97 K100 h99
          refine C_of ?_ ha157
          replace h6 := El.tr (Dw := Dw) h6 hr79
          replace h_l := Sl.tr (Dw := Dw) h_l hr79
          replace hK := Tr.trans (Dw := Dw) hK hr79
          replace hB := Nat.le_trans hB hr79.ex.size
          replace hA := hr79.new
          replace hH : Hp w.heap.size A92 w89 (obS (α := cal_Span) 29 v90 s88 :: []) := hH93
          refine C_seq (C_region (V_y (Y_lss rfl rfl) rfl rfl rfl (V_to (fun _ _ => rfl) ?_)))
          refine C_seq ?_
          refine C_cond rfl (fun hc102 => ?_) (fun hc102 => ?_)
          · have hlt98 := lt_of_dec hc102
            obtain ⟨x94, h95, h96⟩ := K100 hlt98
            refine C_skip_to (fun _ _ => rfl) ?_
            refine C_seq ?_
            refine C_block ?_
            refine C_seq ?_
            refine C_region ?_
            obtain ⟨x103, hx103, h95⟩ := Option.bind_eq_some_iff.1 h95
            refine V_indexAddr h_l hx103 Try.underlying22 Try.sizeOf37 rfl rfl rfl ?_
            intro b104 o105 h106
            obtain ⟨v107, v109, v111, h113, h108, h110, h112⟩ := El_cal_Calendar h106
            refine V_y (Y_loadA h113 Try.isAgg37 Try.sizeOf37 rfl) rfl rfl rfl ?_
            refine V_alloc Try.zeroValue37 rfl ?_
            intro b114 w115 h116
            have h121 : (v107).oneCell' = true := by obtain ⟨_, _, e, _⟩ := Sl.form h108; rw [e]; rfl
            have h124 : (v109).oneCell' = true := by obtain ⟨_, _, e, _⟩ := Sl.form h110; rw [e]; rfl
            have h127 : (v111).oneCell' = true := by obtain ⟨_, _, e, _⟩ := Sl.form h112; rw [e]; rfl
            refine V_storeNew h116 Try.sizeOf37 rfl rfl rfl rfl (by exact (List.forall_mem_cons.2 ⟨rfl, (List.forall_mem_cons.2 ⟨h121, (List.forall_mem_cons.2 ⟨h124, (List.forall_mem_cons.2 ⟨h127, (fun _ h => nomatch h)⟩)⟩)⟩)⟩)) ?_
            intro w117 h118
            have hk129 := h118.kp (Dw := Dw)
            have h128 : El (α := cal_Calendar) A92 w117 b114 0 x103 := h118.el hA ⟨[.int .i64 x103.zone.offset, v107], _, rfl, ⟨[.int .i64 x103.zone.offset], _, rfl, rfl, ⟨_, rfl, h108⟩⟩, ⟨[v109], _, rfl, ⟨_, rfl, h110⟩, ⟨_, rfl, h112⟩⟩⟩
            have ht130 := Kp.tr (Dw := Dw) hk129 hA hB
            replace hH := Hp.kp (Dw := Dw) hH hk129
            replace h6 := El.tr (Dw := Dw) h6 ht130
            replace h_l := Sl.tr (Dw := Dw) h_l ht130
            replace h106 := El.tr (Dw := Dw) h106 ht130
            replace h108 := Sl.tr (Dw := Dw) h108 ht130
            replace h110 := Sl.tr (Dw := Dw) h110 ht130
            replace h112 := Sl.tr (Dw := Dw) h112 ht130
            replace hK := Tr.trans (Dw := Dw) hK ht130
            replace hr79 := Tr.trans (Dw := Dw) hr79 ht130
            replace hB := Nat.le_trans hB ht130.ex.size
            replace hA := ht130.new
            refine V_to (fun _ _ => rfl) ?_
            refine C_region ?_
            refine V_y (Y_move rfl) rfl rfl rfl ?_
            obtain ⟨v131, v133, v135, h137, h132, h134, h136⟩ := El_cal_Calendar h128
            refine V_y (Y_loadA h137 Try.isAgg37 Try.sizeOf37 rfl) rfl rfl rfl ?_
            refine V_y (Y_move rfl) rfl rfl rfl ?_
            refine V_y (Y_move rfl) rfl rfl rfl ?_
            obtain ⟨x138, hx138, h95⟩ := Option.bind_eq_some_iff.1 h95
            refine V_call Try.call11 rfl rfl rfl rfl (cal_Calendar_open_c (Dw := Dw) w117 hA x103 v131 h132 v133 h134 v135 h136 from_ to_ hx138) ?_
            rintro _ w145 ⟨b139, b141, b143, rfl, h140, h142, h144, hk146⟩
            have ht147 := Kp.tr (Dw := Dw) hk146 hA hB
            replace hH := Hp.kp (Dw := Dw) hH hk146
            replace h6 := El.tr (Dw := Dw) h6 ht147
            replace h_l := Sl.tr (Dw := Dw) h_l ht147
            replace h128 := El.tr (Dw := Dw) h128 ht147
            replace h132 := Sl.tr (Dw := Dw) h132 ht147
            replace h134 := Sl.tr (Dw := Dw) h134 ht147
            replace h136 := Sl.tr (Dw := Dw) h136 ht147
            replace hK := Tr.trans (Dw := Dw) hK ht147
            replace hr79 := Tr.trans (Dw := Dw) hr79 ht147
            replace hB := Nat.le_trans hB ht147.ex.size
            replace hA := ht147.new
            obtain ⟨x148, hx148, h95⟩ := Option.bind_eq_some_iff.1 h95
            refine V_call Try.call10 rfl rfl rfl rfl (slices_AppendSeq_Lcal_Span_cal_Span_c (Dw := Dw) w145 hB hA s88 v90 (fun _ y s => cal_Calendar_open_1 y s x138.1 x138.2.1 x138.2.2) 23 #[.pointer (some ⟨b139, 0, none⟩), .pointer (some ⟨b141, 0, none⟩), .pointer (some ⟨b143, 0, none⟩)] Try.call23 (fun S y Ys yv s0 zf w1 A1 L1 h1 h2 h3 h4 h0 h5 h6 => (cal_Calendar_open_1_c (Dw := Dw) w1 h1 h2 y Ys yv h0 s0 h5 x138.1 b139 (El.tr (Dw := Dw) h140 h3) x138.2.1 b141 (El.tr (Dw := Dw) h142 h3) x138.2.2 b143 (El.tr (Dw := Dw) h144 h3) h4 h6).mono fun _ _ ⟨A3, _, hh, tt⟩ => ⟨A3, tt, hh⟩) hH hx148) ?_
            rintro v149 w151 ⟨_, A152, rfl, hH153, ht154⟩
            replace h6 := El.tr (Dw := Dw) h6 ht154
            replace h_l := Sl.tr (Dw := Dw) h_l ht154
            replace h128 := El.tr (Dw := Dw) h128 ht154
            replace h132 := Sl.tr (Dw := Dw) h132 ht154
            replace h134 := Sl.tr (Dw := Dw) h134 ht154
            replace h136 := Sl.tr (Dw := Dw) h136 ht154
            replace h140 := El.tr (Dw := Dw) h140 ht154
            replace h142 := El.tr (Dw := Dw) h142 ht154
            replace h144 := El.tr (Dw := Dw) h144 ht154
            replace hK := Tr.trans (Dw := Dw) hK ht154
            replace hr79 := Tr.trans (Dw := Dw) hr79 ht154
            replace hB := Nat.le_trans hB ht154.ex.size
            replace hA := ht154.new
            replace hH : Hp w.heap.size A152 w151 (obS (α := cal_Span) 29 v149 x148 :: []) := hH153
            refine V_y (Y_assign rfl) rfl rfl rfl ?_
            refine V_to (fun _ _ => rfl) ?_
            refine C_region ?_
            refine V_y (Y_addI rfl rfl) rfl rfl rfl ?_
            refine V_y (Y_move rfl) rfl rfl rfl ?_
            obtain rfl := Option.some.inj h95
            refine V_end (fun a ha155 => ?_)
            exact ⟨x148, hlt98, h96, ⟨(v149, A152), ha155.sub ⟨rfl, rfl, rfl, rfl, rfl, rfl, (congrArg (fun z => some (Value.int .i64 z)) (w64_succ hlt98 hn101)), trivial⟩, ⟨hH, hr79⟩⟩⟩
          · refine C_exit (fun a ha156 => ?_)
            exact ⟨(s88, v90, A92), ha156.sub ⟨rfl, rfl, trivial⟩, ⟨(h99 (eq_of_dec hle97 hc102)).symm, hH, hr79⟩⟩
        rintro ⟨s78, v84, A86⟩ w81 ⟨rfl, hH87, hk82⟩ a ha83
        rw [Lp.andThen_fin] at hm
        replace h6 := El.tr (Dw := Dw) h6 hk82
        replace hK := Tr.trans (Dw := Dw) hK hk82
        replace hB := Nat.le_trans hB hk82.ex.size
        replace hA := hk82.new
        replace hH : Hp w.heap.size A86 w81 (obS (α := cal_Span) 29 v84 s78 :: []) := hH87
        refine C_at (n := ⟨61, [], none⟩) (fun _ _ => rfl) ?_ ha83
        refine C_seq ?_
        refine C_region ?_
        refine V_y (Y_move rfl) rfl rfl rfl ?_
        obtain ⟨A158, ht159, h160, hH161⟩ := Hp.freeze (Dw := Dw) (α := cal_Span) (v := v84) (l := s78) hH (i := 0) rfl hA
        replace h6 := El.tr (Dw := Dw) h6 ht159
        replace hK := Tr.trans (Dw := Dw) hK ht159
        replace hB := Nat.le_trans hB ht159.ex.size
        replace hA := ht159.new
        replace hH : Hp w.heap.size A158 w81 ([]) := hH161
        refine V_buildSlice (Dw := Dw) (cells := #[v84]) (l := ([s78] : List (List cal_Span))) (len := 1) Try.underlying47 Try.sizeOf23 Try.zeroValue23 rfl (by obtain ⟨a167, c168, e169, _⟩ := Sl.form h160; subst e169; kernel_rfl) (show (1 * 1 : Nat) ≠ 0 by decide) (show (1 * 1 : Nat) ≤ 2 ^ 24 by decide) hA ⟨[v84], _, rfl, ⟨_, rfl, h160⟩, rfl⟩ rfl rfl ?_
        intro v163 w164 hk166 h165
        have ht170 := Kp.tr (Dw := Dw) hk166 hA hB
        replace hH := Hp.kp (Dw := Dw) hH hk166
        replace h6 := El.tr (Dw := Dw) h6 ht170
        replace h160 := Sl.tr (Dw := Dw) h160 ht170
        replace hK := Tr.trans (Dw := Dw) hK ht170
        replace hB := Nat.le_trans hB ht170.ex.size
        replace hA := ht170.new
        refine V_y (Y_makeFunc rfl rfl) rfl rfl rfl ?_
        obtain ⟨x172, hx172, hm⟩ := Option.bind_eq_some_iff.1 hm
        refine V_call Try.call13 rfl rfl rfl rfl (cal_swept_c (Dw := Dw) w164 hA ([s78] : List (List cal_Span)) v163 h165 (fun y185 => cal_Common_1 y185 need) 14 #[] #[.pointer (some ⟨b3, 0, none⟩)] Try.call14 (fun w180 A181 ht182 h183 A184 y175 v176 h177 r178 h179 => (cal_Common_1_c (Dw := Dw) (A := fun _ => True) w180 (fun _ _ => trivial) y175 v176 (Sl.any h177) need b3 (El.keep (El.tr (Dw := Dw) h6 ht182) .any) h179).mono (fun _ _ h => ⟨h.1, h.2⟩)) hx172) ?_
        rintro v173 w186 ⟨_, rfl, h174, hk187⟩
        obtain ⟨A188, ht189, hH190⟩ := Hp.addOwnd (Dw := Dw) hH hB hA hk187 h174
        replace h6 := El.tr (Dw := Dw) h6 ht189
        replace h160 := Sl.tr (Dw := Dw) h160 ht189
        replace h165 := Sl.tr (Dw := Dw) h165 ht189
        replace hK := Tr.trans (Dw := Dw) hK ht189
        replace hB := Nat.le_trans hB ht189.ex.size
        replace hA := ht189.new
        replace hH : Hp w.heap.size A188 w186 (obS (α := cal_Span) 29 v173 x172 :: []) := hH190
        obtain ⟨A191, ht192, h193, hH194⟩ := Hp.freeze (Dw := Dw) (α := cal_Span) (v := v173) (l := x172) hH (i := 0) rfl hA
        replace h6 := El.tr (Dw := Dw) h6 ht192
        replace h160 := Sl.tr (Dw := Dw) h160 ht192
        replace h165 := Sl.tr (Dw := Dw) h165 ht192
        replace hK := Tr.trans (Dw := Dw) hK ht192
        replace hB := Nat.le_trans hB ht192.ex.size
        replace hA := ht192.new
        replace hH : Hp w.heap.size A191 w186 ([]) := hH194
        refine V_call Try.call12 rfl rfl rfl rfl (cal_limited_c w186 x172 v173 h193) ?_
        rintro _ _ ⟨v196, rfl, h197, rfl⟩
        refine V_y (Y_extract rfl rfl) rfl rfl rfl ?_
        refine V_y (Y_extract rfl rfl) rfl rfl rfl ?_
        refine V_y (Y_assign rfl) rfl rfl rfl ?_
        refine V_y (Y_assign rfl) rfl rfl rfl ?_
        refine V_to (fun _ _ => rfl) ?_
        obtain rfl := Option.some.inj hm
        refine C_ret ?_
        try simp only [↓inBlock_ret, ↓then_ret]
        exact retQ rfl (Res.two Try.results4 rfl rfl) ⟨v196, rfl, (Sl.out (Dw := Dw) h197 hA0 hK), hK.kp⟩

set_option maxRecDepth 4000 in
set_option maxHeartbeats 4000000 in
theorem portref2_ZoneFault_1_c (w : World) (n : Int) : Ret Try.prog 43 #[.int .i64 n] w fun v w' => v = .bool (portref2_ZoneFault_1 n) ∧ w = w' := by
  generalize hm : portref2_ZoneFault_1 n = r
  unfold portref2_ZoneFault_1 at hm
  refine enter Try.func43 rfl Try.ntmps43 rfl ?_
  refine C_seq ?_
  refine C_region ?_
  refine V_y (Y_assign rfl) rfl rfl rfl ?_
  refine V_to (fun _ _ => rfl) ?_
  refine C_seq ?_
  refine C_region ?_
  refine V_y (Y_move rfl) rfl rfl rfl ?_
  refine V_y (Y_lss rfl rfl) rfl rfl rfl ?_
  refine V_y (Y_move rfl) rfl rfl rfl ?_
  refine V_cut 3 (fun _ : Unit => [(8, .bool ((decide (n < (-1440))) || (decide ((1440 : Int) < n))))]) (fun _ w' => w = w') ?_ ?_
  · simp only [List.take, List.drop]
    rcases Bool.eq_false_or_eq_true (decide (n < (-1440))) with hc1 | hc1
    · refine V_gn rfl rfl rfl hc1 rfl rfl rfl ?_
      refine V_gn rfl rfl rfl hc1 rfl rfl rfl ?_
      refine V_y (Y_pick_te rfl hc1 rfl) rfl rfl rfl ?_
      exact V_end fun a ha => ⟨(), ha.sub ⟨(by rw [hc1]; rfl), trivial⟩, rfl⟩
    · refine V_ge rfl rfl rfl hc1 ?_
      refine V_y (Y_move rfl) rfl rfl rfl ?_
      refine V_ge rfl rfl rfl hc1 ?_
      refine V_y (Y_gtr rfl rfl) rfl rfl rfl ?_
      refine V_y (Y_pick_fe rfl hc1 rfl) rfl rfl rfl ?_
      exact V_end fun a ha => ⟨(), ha.sub ⟨(by rw [hc1]; rfl), trivial⟩, rfl⟩
  simp only [List.take, List.drop]
  rintro _ _ rfl
  refine V_y (Y_assign rfl) rfl rfl rfl ?_
  refine V_to (fun _ _ => rfl) ?_
  obtain rfl := hm
  refine C_ret ?_
  try simp only [↓inBlock_ret, ↓then_ret]
  exact retQ rfl (Res.one Try.results43 rfl) ⟨rfl, rfl⟩

set_option maxRecDepth 4000 in
set_option maxHeartbeats 4000000 in
theorem portref2_ZoneFault_c (w : World) {A : Nat → Prop} (hA : ∀ b, w.heap.size ≤ b → A b) (z : cal_Zone) (v_z : Value) (h_z : Sl A w v_z z.changes) {r : Int} (hm : portref2_ZoneFault z = some r) : Ret Try.prog 28 #[.agg #[.int .i64 z.offset, v_z]] w fun v w' => v = .int .i64 r ∧ Kp Dw w w' := by
  unfold portref2_ZoneFault at hm
  refine enter Try.func28 rfl Try.ntmps28 rfl ?_
  have hA0 := hA
  have hB := Nat.le_refl w.heap.size
  have hK : Tr Dw w.heap.size A w A w := Tr.refl (Dw := Dw) hA
  have hH : Hp w.heap.size A w [] := Hp.nil
  refine C_seq ?_
  refine C_region ?_
  refine V_box rfl rfl ?_
  intro b3 w4 h5
  have hk7 := h5.kp (Dw := Dw)
  have h6 : El (α := cal_Zone) A w4 b3 0 z := h5.el hA ⟨[.int .i64 z.offset], _, rfl, rfl, ⟨_, rfl, h_z⟩⟩
  have ht8 := Kp.tr (Dw := Dw) hk7 hA hB
  replace hH := Hp.kp (Dw := Dw) hH hk7
  replace h_z := Sl.tr (Dw := Dw) h_z ht8
  replace hK := Tr.trans (Dw := Dw) hK ht8
  replace hB := Nat.le_trans hB ht8.ex.size
  replace hA := ht8.new
  refine V_y (Y_assign rfl) rfl rfl rfl ?_
  refine V_to (fun _ _ => rfl) ?_
  refine C_seq ?_
  refine C_region ?_
  refine V_y (Y_assign rfl) rfl rfl rfl ?_
  refine V_to (fun _ _ => rfl) ?_
  refine C_seq ?_
  refine C_seq ?_
  refine C_region ?_
  refine V_y (Y_move rfl) rfl rfl rfl ?_
  have h9 := El_cal_Zone_0 h6
  refine V_y (Y_fieldAddr Try.underlying33 rfl Try.sizeOf3 (by decide) rfl) rfl rfl rfl ?_
  refine V_y (Y_load (El.int h9) Try.isAgg3 rfl) rfl rfl rfl ?_
  refine V_call Try.call43 rfl rfl rfl rfl (portref2_ZoneFault_1_c w4 z.offset) ?_
  rintro _ _ ⟨rfl, rfl⟩
  refine V_to (fun _ _ => rfl) ?_
  refine C_cond rfl (fun hc10 => ?_) (fun hc10 => ?_)
  · rw [if_pos hc10] at hm
    refine C_seq ?_
    refine C_region ?_
    refine V_y (Y_assign rfl) rfl rfl rfl ?_
    refine V_to (fun _ _ => rfl) ?_
    obtain rfl := Option.some.inj hm
    refine C_ret ?_
    try simp only [↓inBlock_ret, ↓then_ret]
    exact retQ rfl (Res.one Try.results28 rfl) ⟨rfl, hK.kp⟩
  · rw [if_neg (nt hc10)] at hm
    refine C_skip_to (fun _ _ => rfl) ?_
    refine C_seq ?_
    refine C_seq ?_
    refine C_region ?_
    have h11 := El_cal_Zone_1 h6
    refine V_y (Y_fieldAddr Try.underlying33 rfl Try.sizeOf31 (by decide) rfl) rfl rfl rfl ?_
    obtain ⟨v12, h13, h14⟩ := El.list h11
    refine V_y (Y_load h13 Try.isAgg31 rfl) rfl rfl rfl ?_
    refine V_y (Y_lenSl h14 rfl Try.underlying31 rfl) rfl rfl rfl ?_
    refine V_y (Y_gtr rfl rfl) rfl rfl rfl ?_
    refine V_to (fun _ _ => rfl) ?_
    refine C_cond rfl (fun hc15 => ?_) (fun hc15 => ?_)
    · rw [if_pos hc15] at hm
      refine C_seq ?_
      refine C_region ?_
      refine V_y (Y_assign rfl) rfl rfl rfl ?_
      refine V_to (fun _ _ => rfl) ?_
      obtain rfl := Option.some.inj hm
      refine C_ret ?_
      try simp only [↓inBlock_ret, ↓then_ret]
      exact retQ rfl (Res.one Try.results28 rfl) ⟨rfl, hK.kp⟩
    · rw [if_neg (nt hc15)] at hm
      refine C_skip_to (fun _ _ => rfl) ?_
      refine C_seq ?_
      refine C_region ?_
      have h16 := El_cal_Zone_0 h6
      refine V_y (Y_fieldAddr Try.underlying33 rfl Try.sizeOf3 (by decide) rfl) rfl rfl rfl ?_
      refine V_y (Y_load (El.int h16) Try.isAgg3 rfl) rfl rfl rfl ?_
      refine V_y (Y_assign rfl) rfl rfl rfl ?_
      refine V_to (fun _ _ => rfl) ?_
      refine C_seq ?_
      refine C_seq ?_
      refine C_region ?_
      have h17 := El_cal_Zone_1 h6
      refine V_y (Y_fieldAddr Try.underlying33 rfl Try.sizeOf31 (by decide) rfl) rfl rfl rfl ?_
      obtain ⟨v18, h19, h20⟩ := El.list h17
      refine V_y (Y_load h19 Try.isAgg31 rfl) rfl rfl rfl ?_
      refine V_y (Y_lenSl h20 rfl Try.underlying31 rfl) rfl rfl rfl ?_
      refine V_y (Y_move rfl) rfl rfl rfl ?_
      refine V_to (fun _ _ => rfl) ?_
      have hn41 := Sl.le h20
      obtain ⟨o21, ho21, hm⟩ := Option.bind_eq_some_iff.1 hm
      refine C_cutG (ι := (Int × (Nat → Prop))) (fun ⟨s22, A28⟩ => []) (fun ⟨s22, A28⟩ => fun w' => o21 = .fin s22 ∧ Hp w.heap.size A28 w' ([]) ∧ Tr Dw w.heap.size A w4 A28 w') ?_ ?_
      · refine C_block ?_
        refine C_range ho21 (fun k24 s30 a w' => ∃ i : (Nat → Prop), Has ⟨63, [], none⟩ a ([(1, .pointer (some ⟨b3, 0, none⟩)), (3, .func (.func 43) #[] #[]), (4, .int .i64 s30), (18, v18), (19, .int .i64 (z.changes.length : Int)), (20, .int .i64 (k24 : Int))]) ∧ Hp w.heap.size i w' ([]) ∧ Tr Dw w.heap.size A w4 i w') (fun a ha => ⟨A, ha.sub ⟨rfl, rfl, rfl, rfl, rfl, rfl, trivial⟩, ⟨hH, Tr.refl (Dw := Dw) hA⟩⟩) ?_
        rintro K k24 s30 a w31 ⟨A32, ha97, hH33, hr23⟩ hle37 K40 h39
        refine C_of ?_ ha97
        replace h6 := El.tr (Dw := Dw) h6 hr23
        replace h20 := Sl.tr (Dw := Dw) h20 hr23
        replace hK := Tr.trans (Dw := Dw) hK hr23
        replace hB := Nat.le_trans hB hr23.ex.size
        replace hA := hr23.new
        replace hH : Hp w.heap.size A32 w31 ([]) := hH33
        refine C_seq (C_region (V_y (Y_lss rfl rfl) rfl rfl rfl (V_to (fun _ _ => rfl) ?_)))
        refine C_seq ?_
        refine C_cond rfl (fun hc42 => ?_) (fun hc42 => ?_)
        · have hlt38 := lt_of_dec hc42
          obtain ⟨x34, h35, h36⟩ := K40 hlt38
          refine C_skip_to (fun _ _ => rfl) ?_
          refine C_seq ?_
          refine C_block ?_
          refine C_seq ?_
          refine C_region ?_
          refine V_y (Y_move rfl) rfl rfl rfl ?_
          obtain ⟨x43, hx43, h35⟩ := Option.bind_eq_some_iff.1 h35
          refine V_indexAddr h20 hx43 Try.underlying31 Try.sizeOf75 rfl rfl rfl ?_
          intro b44 o45 h46
          obtain ⟨h47, _⟩ := El_cal_Change h46
          refine V_y (Y_loadA h47 Try.isAgg75 Try.sizeOf75 rfl) rfl rfl rfl ?_
          refine V_alloc Try.zeroValue75 rfl ?_
          intro b48 w49 h50
          refine V_y (Y_assign rfl) rfl rfl rfl ?_
          refine V_storeNew h50 Try.sizeOf75 rfl rfl rfl rfl (by exact (List.forall_mem_cons.2 ⟨rfl, (List.forall_mem_cons.2 ⟨rfl, (fun _ h => nomatch h)⟩)⟩)) ?_
          intro w51 h52
          have hk54 := h52.kp (Dw := Dw)
          have h53 : El (α := cal_Change) A32 w51 b48 0 x43 := h52.el hA ⟨[.int .i64 x43.at_], _, rfl, rfl, rfl⟩
          have ht55 := Kp.tr (Dw := Dw) hk54 hA hB
          replace hH := Hp.kp (Dw := Dw) hH hk54
          replace h6 := El.tr (Dw := Dw) h6 ht55
          replace h20 := Sl.tr (Dw := Dw) h20 ht55
          replace h46 := El.tr (Dw := Dw) h46 ht55
          replace hK := Tr.trans (Dw := Dw) hK ht55
          replace hr23 := Tr.trans (Dw := Dw) hr23 ht55
          replace hB := Nat.le_trans hB ht55.ex.size
          replace hA := ht55.new
          refine V_to (fun _ _ => rfl) ?_
          refine C_seq ?_
          refine C_block ?_
          refine C_seq ?_
          obtain ⟨s57, ho56, h35⟩ := Option.bind_eq_some_iff.1 h35
          refine C_cutG (ι := (Nat → Prop)) (fun (A62 : (Nat → Prop)) => [(1, .pointer (some ⟨b3, 0, none⟩)), (3, .func (.func 43) #[] #[]), (4, .int .i64 s30), (5, .int .i64 (k24 : Int)), (6, .pointer (some ⟨b48, 0, none⟩)), (18, v18), (19, .int .i64 (z.changes.length : Int)), (20, .int .i64 (k24 : Int)), (25, .bool s57)]) (fun (A62 : (Nat → Prop)) => fun w' => Hp w.heap.size A62 w' ([]) ∧ Tr Dw w.heap.size A32 w51 A62 w') ?_ ?_
          · have hr58 : Tr Dw w.heap.size A32 w51 A32 w51 := Tr.refl (Dw := Dw) hA
            refine C_region ?_
            have h64 := El_cal_Change_0 h53
            refine V_y (Y_fieldAddr Try.underlying75 rfl Try.sizeOf3 (by decide) rfl) rfl rfl rfl ?_
            refine V_y (Y_load (El.int h64) Try.isAgg3 rfl) rfl rfl rfl ?_
            refine V_y (Y_lss rfl rfl) rfl rfl rfl ?_
            refine V_y (Y_move rfl) rfl rfl rfl ?_
            rcases Bool.eq_false_or_eq_true (decide (x43.at_ < 1)) with hc65 | hc65
            · rw [if_pos hc65] at ho56
              refine V_gn rfl rfl rfl hc65 rfl rfl rfl ?_
              refine V_gn rfl rfl rfl hc65 rfl rfl rfl ?_
              refine V_gn rfl rfl rfl hc65 rfl rfl rfl ?_
              refine V_y (Y_pick_te rfl hc65 rfl) rfl rfl rfl ?_
              refine V_y (Y_move rfl) rfl rfl rfl ?_
              rcases Bool.eq_false_or_eq_true (true) with hc66 | hc66
              · rw [if_pos hc66] at ho56
                refine V_gn rfl rfl rfl hc66 rfl rfl rfl ?_
                refine V_gn rfl rfl rfl hc66 rfl rfl rfl ?_
                refine V_gn rfl rfl rfl hc66 rfl rfl rfl ?_
                refine V_gn rfl rfl rfl hc66 rfl rfl rfl ?_
                refine V_y (Y_pick_te rfl hc66 rfl) rfl rfl rfl ?_
                refine V_y (Y_assign rfl) rfl rfl rfl ?_
                obtain rfl := Option.some.inj ho56
                refine V_end (fun a ha67 => ?_)
                exact ⟨A32, ha67.sub ⟨rfl, rfl, rfl, rfl, rfl, rfl, rfl, rfl, rfl, trivial⟩, ⟨hH, hr58⟩⟩
              · rw [if_neg (nt hc66)] at ho56
                refine V_ge rfl rfl rfl hc66 ?_
                refine V_y (Y_move rfl) rfl rfl rfl ?_
                refine V_ge rfl rfl rfl hc66 ?_
                have h68 := El_cal_Change_1 h53
                refine V_y (Y_fieldAddr Try.underlying75 rfl Try.sizeOf3 (by decide) rfl) rfl rfl rfl ?_
                refine V_ge rfl rfl rfl hc66 ?_
                refine V_y (Y_load (El.int h68) Try.isAgg3 rfl) rfl rfl rfl ?_
                refine V_ge rfl rfl rfl hc66 ?_
                refine V_call Try.call43 rfl rfl rfl rfl (portref2_ZoneFault_1_c w51 x43.offset) ?_
                rintro _ _ ⟨rfl, rfl⟩
                refine V_y (Y_pick_fe rfl hc66 rfl) rfl rfl rfl ?_
                refine V_y (Y_assign rfl) rfl rfl rfl ?_
                obtain rfl := Option.some.inj ho56
                refine V_end (fun a ha69 => ?_)
                exact ⟨A32, ha69.sub ⟨rfl, rfl, rfl, rfl, rfl, rfl, rfl, rfl, rfl, trivial⟩, ⟨hH, hr58⟩⟩
            · rw [if_neg (nt hc65)] at ho56
              refine V_ge rfl rfl rfl hc65 ?_
              have h70 := El_cal_Change_0 h53
              refine V_y (Y_fieldAddr Try.underlying75 rfl Try.sizeOf3 (by decide) rfl) rfl rfl rfl ?_
              refine V_ge rfl rfl rfl hc65 ?_
              refine V_y (Y_load (El.int h70) Try.isAgg3 rfl) rfl rfl rfl ?_
              refine V_ge rfl rfl rfl hc65 ?_
              refine V_y (Y_gtr rfl rfl) rfl rfl rfl ?_
              refine V_y (Y_pick_fe rfl hc65 rfl) rfl rfl rfl ?_
              refine V_y (Y_move rfl) rfl rfl rfl ?_
              rcases Bool.eq_false_or_eq_true (decide ((3000000 : Int) < x43.at_)) with hc71 | hc71
              · rw [if_pos hc71] at ho56
                refine V_gn rfl rfl rfl hc71 rfl rfl rfl ?_
                refine V_gn rfl rfl rfl hc71 rfl rfl rfl ?_
                refine V_gn rfl rfl rfl hc71 rfl rfl rfl ?_
                refine V_gn rfl rfl rfl hc71 rfl rfl rfl ?_
                refine V_y (Y_pick_te rfl hc71 rfl) rfl rfl rfl ?_
                refine V_y (Y_assign rfl) rfl rfl rfl ?_
                obtain rfl := Option.some.inj ho56
                refine V_end (fun a ha72 => ?_)
                exact ⟨A32, ha72.sub ⟨rfl, rfl, rfl, rfl, rfl, rfl, rfl, rfl, rfl, trivial⟩, ⟨hH, hr58⟩⟩
              · rw [if_neg (nt hc71)] at ho56
                refine V_ge rfl rfl rfl hc71 ?_
                refine V_y (Y_move rfl) rfl rfl rfl ?_
                refine V_ge rfl rfl rfl hc71 ?_
                have h73 := El_cal_Change_1 h53
                refine V_y (Y_fieldAddr Try.underlying75 rfl Try.sizeOf3 (by decide) rfl) rfl rfl rfl ?_
                refine V_ge rfl rfl rfl hc71 ?_
                refine V_y (Y_load (El.int h73) Try.isAgg3 rfl) rfl rfl rfl ?_
                refine V_ge rfl rfl rfl hc71 ?_
                refine V_call Try.call43 rfl rfl rfl rfl (portref2_ZoneFault_1_c w51 x43.offset) ?_
                rintro _ _ ⟨rfl, rfl⟩
                refine V_y (Y_pick_fe rfl hc71 rfl) rfl rfl rfl ?_
                refine V_y (Y_assign rfl) rfl rfl rfl ?_
                obtain rfl := Option.some.inj ho56
                refine V_end (fun a ha74 => ?_)
                exact ⟨A32, ha74.sub ⟨rfl, rfl, rfl, rfl, rfl, rfl, rfl, rfl, rfl, trivial⟩, ⟨hH, hr58⟩⟩
          rintro A62 w59 ⟨hH63, hk60⟩ a ha61
          replace h6 := El.tr (Dw := Dw) h6 hk60
          replace h20 := Sl.tr (Dw := Dw) h20 hk60
          replace h53 := El.tr (Dw := Dw) h53 hk60
          replace hK := Tr.trans (Dw := Dw) hK hk60
          replace hr23 := Tr.trans (Dw := Dw) hr23 hk60
          replace hB := Nat.le_trans hB hk60.ex.size
          replace hA := hk60.new
          replace hH : Hp w.heap.size A62 w59 ([]) := hH63
          refine C_at (n := ⟨63, [], none⟩) (fun _ _ => rfl) ?_ ha61
          refine C_cond rfl (fun hc75 => ?_) (fun hc75 => ?_)
          · rw [if_pos hc75] at h35
            refine C_seq ?_
            refine C_region ?_
            refine V_y (Y_assign rfl) rfl rfl rfl ?_
            refine V_to (fun _ _ => rfl) ?_
            obtain rfl := Option.some.inj h35
            obtain rfl := (h36 : Lp.rt _ = _)
            rw [Lp.andThen_rt] at hm
            obtain rfl := Option.some.inj hm
            refine C_ret ?_
            try simp only [↓inBlock_ret, ↓then_ret]
            exact retQ rfl (Res.one Try.results28 rfl) ⟨rfl, hK.kp⟩
          · rw [if_neg (nt hc75)] at h35
            refine C_seq ?_
            refine C_region_q (Dw := Dw) Try_mixed (by kernel_rfl) ?_
            refine VQ_y (fun w' hw' => Y_move rfl) rfl rfl rfl ?_
            refine VQ_y (fun w' hw' => Y_gtr rfl rfl) rfl rfl rfl ?_
            refine VQ_y (fun w' hw' => Y_move rfl) rfl rfl rfl ?_
            obtain ⟨s77, hs77, h35⟩ := Option.bind_eq_some_iff.1 h35
            refine VQ_cut 11 (fun _ : Unit => [(1, .pointer (some ⟨b3, 0, none⟩)), (3, .func (.func 43) #[] #[]), (4, .int .i64 s30), (6, .pointer (some ⟨b48, 0, none⟩)), (18, v18), (19, .int .i64 (z.changes.length : Int)), (20, .int .i64 (k24 : Int)), (54, .bool s77)]) (fun _ => True) ?_ ?_
            · simp only [List.take, List.drop]
              rcases Bool.eq_false_or_eq_true (decide ((0 : Int) < (k24 : Int))) with hc76 | hc76
              · rw [if_pos hc76] at hs77
                refine VQ_ge rfl rfl rfl hc76 ?_
                have h78 := El_cal_Change_0 h53
                refine VQ_y (fun w' hw' => Y_fieldAddr Try.underlying75 rfl Try.sizeOf3 (by decide) rfl) rfl rfl rfl ?_
                refine VQ_ge rfl rfl rfl hc76 ?_
                refine VQ_y (fun w' hw' => Y_load (El.int (El.kp (Dw := Dw) h78 hw')) Try.isAgg3 rfl) rfl rfl rfl ?_
                refine VQ_ge rfl rfl rfl hc76 ?_
                have h79 := El_cal_Zone_1 h6
                refine VQ_y (fun w' hw' => Y_fieldAddr Try.underlying33 rfl Try.sizeOf31 (by decide) rfl) rfl rfl rfl ?_
                refine VQ_ge rfl rfl rfl hc76 ?_
                obtain ⟨v80, h81, h82⟩ := El.list h79
                refine VQ_y (fun w' hw' => Y_load ((World.cell?_of_block (hw'.block _ (World.block_lt_of_cell? _ _ h81))).trans h81) Try.isAgg31 rfl) rfl rfl rfl ?_
                refine VQ_ge rfl rfl rfl hc76 ?_
                refine VQ_y (fun w' hw' => Y_move rfl) rfl rfl rfl ?_
                refine VQ_ge rfl rfl rfl hc76 ?_
                refine VQ_y (fun w' hw' => Y_subI rfl rfl) rfl rfl rfl ?_
                refine VQ_ge rfl rfl rfl hc76 ?_
                obtain ⟨x83, hx83, hs77⟩ := Option.bind_eq_some_iff.1 hs77
                refine VQ_indexAddr h82 hx83 Try.underlying31 Try.sizeOf75 rfl rfl rfl ?_
                intro b84 o85 h86
                refine VQ_ge rfl rfl rfl hc76 ?_
                have h87 := El_cal_Change_0 h86
                refine VQ_y (fun w' hw' => Y_fieldAddr Try.underlying75 rfl Try.sizeOf3 (by decide) rfl) rfl rfl rfl ?_
                refine VQ_ge rfl rfl rfl hc76 ?_
                refine VQ_y (fun w' hw' => Y_load (El.int (El.kp (Dw := Dw) h87 hw')) Try.isAgg3 rfl) rfl rfl rfl ?_
                refine VQ_ge rfl rfl rfl hc76 ?_
                refine VQ_y (fun w' hw' => Y_leq rfl rfl) rfl rfl rfl ?_
                refine VQ_y (fun _ _ => Y_pick_te rfl hc76 rfl) rfl rfl rfl ?_
                obtain rfl := Option.some.inj hs77
                exact VQ_end fun a ha => ⟨(), ha.sub ⟨rfl, rfl, rfl, rfl, rfl, rfl, rfl, rfl, trivial⟩, trivial⟩
              · rw [if_neg (nt hc76)] at hs77
                refine VQ_gn rfl rfl rfl hc76 rfl rfl rfl ?_
                refine VQ_gn rfl rfl rfl hc76 rfl rfl rfl ?_
                refine VQ_gn rfl rfl rfl hc76 rfl rfl rfl ?_
                refine VQ_gn rfl rfl rfl hc76 rfl rfl rfl ?_
                refine VQ_gn rfl rfl rfl hc76 rfl rfl rfl ?_
                refine VQ_gn rfl rfl rfl hc76 rfl rfl rfl ?_
                refine VQ_gn rfl rfl rfl hc76 rfl rfl rfl ?_
                refine VQ_gn rfl rfl rfl hc76 rfl rfl rfl ?_
                refine VQ_gn rfl rfl rfl hc76 rfl rfl rfl ?_
                refine VQ_gn rfl rfl rfl hc76 rfl rfl rfl ?_
                refine VQ_y (fun _ _ => Y_pick_fe rfl hc76 rfl) rfl rfl rfl ?_
                obtain rfl := Option.some.inj hs77
                exact VQ_end fun a ha => ⟨(), ha.sub ⟨rfl, rfl, rfl, rfl, rfl, rfl, rfl, rfl, trivial⟩, trivial⟩
            simp only [List.take, List.drop]
            rintro _ _
            refine VQ_y (fun w' hw' => Y_assign rfl) rfl rfl rfl ?_
            refine VQ_to (fun _ _ => rfl) (fun w88 hk89 => ?_)
            have ht90 := Kp.tr (Dw := Dw) hk89 hA hB
            replace hH := Hp.kp (Dw := Dw) hH hk89
            replace h6 := El.tr (Dw := Dw) h6 ht90
            replace h20 := Sl.tr (Dw := Dw) h20 ht90
            replace h53 := El.tr (Dw := Dw) h53 ht90
            replace hK := Tr.trans (Dw := Dw) hK ht90
            replace hr23 := Tr.trans (Dw := Dw) hr23 ht90
            replace hB := Nat.le_trans hB ht90.ex.size
            replace hA := ht90.new
            refine C_cond rfl (fun hc91 => ?_) (fun hc91 => ?_)
            · rw [if_pos hc91] at h35
              refine C_seq ?_
              refine C_region ?_
              refine V_y (Y_assign rfl) rfl rfl rfl ?_
              refine V_to (fun _ _ => rfl) ?_
              obtain rfl := Option.some.inj h35
              obtain rfl := (h36 : Lp.rt _ = _)
              rw [Lp.andThen_rt] at hm
              obtain rfl := Option.some.inj hm
              refine C_ret ?_
              try simp only [↓inBlock_ret, ↓then_ret]
              exact retQ rfl (Res.one Try.results28 rfl) ⟨rfl, hK.kp⟩
            · rw [if_neg (nt hc91)] at h35
              refine C_seq ?_
              refine C_region ?_
              have h92 := El_cal_Change_1 h53
              refine V_y (Y_fieldAddr Try.underlying75 rfl Try.sizeOf3 (by decide) rfl) rfl rfl rfl ?_
              refine V_y (Y_load (El.int h92) Try.isAgg3 rfl) rfl rfl rfl ?_
              refine V_y (Y_move rfl) rfl rfl rfl ?_
              refine V_y (Y_eql rfl rfl) rfl rfl rfl ?_
              refine V_y (Y_assign rfl) rfl rfl rfl ?_
              refine V_to (fun _ _ => rfl) ?_
              refine C_cond rfl (fun hc93 => ?_) (fun hc93 => ?_)
              · rw [if_pos hc93] at h35
                refine C_seq ?_
                refine C_region ?_
                refine V_y (Y_assign rfl) rfl rfl rfl ?_
                refine V_to (fun _ _ => rfl) ?_
                obtain rfl := Option.some.inj h35
                obtain rfl := (h36 : Lp.rt _ = _)
                rw [Lp.andThen_rt] at hm
                obtain rfl := Option.some.inj hm
                refine C_ret ?_
                try simp only [↓inBlock_ret, ↓then_ret]
                exact retQ rfl (Res.one Try.results28 rfl) ⟨rfl, hK.kp⟩
              · rw [if_neg (nt hc93)] at h35
                refine C_skip_to (fun _ _ => rfl) ?_
                refine C_region ?_
                have h94 := El_cal_Change_1 h53
                refine V_y (Y_fieldAddr Try.underlying75 rfl Try.sizeOf3 (by decide) rfl) rfl rfl rfl ?_
                refine V_y (Y_load (El.int h94) Try.isAgg3 rfl) rfl rfl rfl ?_
                refine V_y (Y_assign rfl) rfl rfl rfl ?_
                refine V_to (fun _ _ => rfl) ?_
                refine C_region ?_
                refine V_y (Y_addI rfl rfl) rfl rfl rfl ?_
                refine V_y (Y_move rfl) rfl rfl rfl ?_
                obtain rfl := Option.some.inj h35
                refine V_end (fun a ha95 => ?_)
                exact ⟨x43.offset, hlt38, h36, ⟨A62, ha95.sub ⟨rfl, rfl, rfl, rfl, rfl, (congrArg (fun z => some (Value.int .i64 z)) (w64_succ hlt38 hn41)), trivial⟩, ⟨hH, hr23⟩⟩⟩
        · refine C_exit (fun a ha96 => ?_)
          exact ⟨(s30, A32), ha96.sub trivial, ⟨(h39 (eq_of_dec hle37 hc42)).symm, hH, hr23⟩⟩
      rintro ⟨s22, A28⟩ w25 ⟨rfl, hH29, hk26⟩ a ha27
      rw [Lp.andThen_fin] at hm
      replace hK := Tr.trans (Dw := Dw) hK hk26
      replace hB := Nat.le_trans hB hk26.ex.size
      replace hA := hk26.new
      replace hH : Hp w.heap.size A28 w25 ([]) := hH29
      refine C_at (n := ⟨63, [], none⟩) (fun _ _ => rfl) ?_ ha27
      refine C_seq ?_
      refine C_region ?_
      refine V_y (Y_assign rfl) rfl rfl rfl ?_
      refine V_to (fun _ _ => rfl) ?_
      obtain rfl := Option.some.inj hm
      refine C_ret ?_
      try simp only [↓inBlock_ret, ↓then_ret]
      exact retQ rfl (Res.one Try.results28 rfl) ⟨rfl, hK.kp⟩

set_option maxRecDepth 4000 in
set_option maxHeartbeats 4000000 in
theorem portref2_shiftFault_c (w : World) {A : Nat → Prop} (hA : ∀ b, w.heap.size ≤ b → A b) (l : (List cal_Shift)) (v_l : Value) (h_l : Sl A w v_l l) (week : Bool) {r : Int} (hm : portref2_shiftFault l week = some r) : Ret Try.prog 29 #[v_l, .bool week] w fun v w' => v = .int .i64 r ∧ Kp Dw w w' := by
  unfold portref2_shiftFault at hm
  refine enter Try.func29 rfl Try.ntmps29 rfl ?_
  have hA0 := hA
  have hB := Nat.le_refl w.heap.size
  have hK : Tr Dw w.heap.size A w A w := Tr.refl (Dw := Dw) hA
  have hH : Hp w.heap.size A w [] := Hp.nil
  refine C_seq ?_
  refine C_region ?_
  refine V_y (Y_assign rfl) rfl rfl rfl ?_
  refine V_to (fun _ _ => rfl) ?_
  refine C_seq ?_
  refine C_seq ?_
  refine C_region ?_
  refine V_y (Y_move rfl) rfl rfl rfl ?_
  refine V_y (Y_lenSl h_l rfl Try.underlying34 rfl) rfl rfl rfl ?_
  refine V_y (Y_move rfl) rfl rfl rfl ?_
  refine V_to (fun _ _ => rfl) ?_
  have hn23 := Sl.le h_l
  obtain ⟨o3, ho3, hm⟩ := Option.bind_eq_some_iff.1 hm
  refine C_cutG (ι := (Unit × (Nat → Prop))) (fun ⟨s4, A10⟩ => []) (fun ⟨s4, A10⟩ => fun w' => o3 = .fin s4 ∧ Hp w.heap.size A10 w' ([]) ∧ Tr Dw w.heap.size A w A10 w') ?_ ?_
  · refine C_block ?_
    refine C_range ho3 (fun k6 _ a w' => ∃ i : (Nat → Prop), Has ⟨81, [], none⟩ a ([(0, v_l), (1, .bool week), (8, v_l), (9, .int .i64 (l.length : Int)), (10, .int .i64 (k6 : Int))]) ∧ Hp w.heap.size i w' ([]) ∧ Tr Dw w.heap.size A w i w') (fun a ha => ⟨A, ha.sub ⟨rfl, rfl, rfl, rfl, rfl, trivial⟩, ⟨hH, Tr.refl (Dw := Dw) hA⟩⟩) ?_
    rintro K k6 _ a w13 ⟨A14, ha115, hH15, hr5⟩ hle19 K22 h21
    refine C_of ?_ ha115
    replace h_l := Sl.tr (Dw := Dw) h_l hr5
    replace hK := Tr.trans (Dw := Dw) hK hr5
    replace hB := Nat.le_trans hB hr5.ex.size
    replace hA := hr5.new
    replace hH : Hp w.heap.size A14 w13 ([]) := hH15
    refine C_seq (C_region (V_y (Y_lss rfl rfl) rfl rfl rfl (V_to (fun _ _ => rfl) ?_)))
    refine C_seq ?_
    refine C_cond rfl (fun hc24 => ?_) (fun hc24 => ?_)
    · have hlt20 := lt_of_dec hc24
      obtain ⟨x16, h17, h18⟩ := K22 hlt20
      refine C_skip_to (fun _ _ => rfl) ?_
      refine C_seq ?_
      obtain ⟨o25, ho25, h17⟩ := Option.bind_eq_some_iff.1 h17
      refine C_cutG (ι := (Unit × (Nat → Prop))) (fun ⟨s26, A31⟩ => [(0, v_l), (1, .bool week), (8, v_l), (9, .int .i64 (l.length : Int)), (10, .int .i64 (k6 : Int))]) (fun ⟨s26, A31⟩ => fun w' => o25 = .fin s26 ∧ Hp w.heap.size A31 w' ([]) ∧ Tr Dw w.heap.size A14 w13 A31 w') ?_ ?_
      · have hr27 : Tr Dw w.heap.size A14 w13 A14 w13 := Tr.refl (Dw := Dw) hA
        refine C_block ?_
        refine C_seq ?_
        refine C_region ?_
        refine V_y (Y_move rfl) rfl rfl rfl ?_
        obtain ⟨x33, hx33, ho25⟩ := Option.bind_eq_some_iff.1 ho25
        refine V_indexAddr h_l hx33 Try.underlying34 Try.sizeOf73 rfl rfl rfl ?_
        intro b34 o35 h36
        obtain ⟨h37, _⟩ := El_cal_Shift h36
        refine V_y (Y_loadA h37 Try.isAgg73 Try.sizeOf73 rfl) rfl rfl rfl ?_
        refine V_alloc Try.zeroValue73 rfl ?_
        intro b38 w39 h40
        refine V_y (Y_assign rfl) rfl rfl rfl ?_
        refine V_storeNew h40 Try.sizeOf73 rfl rfl rfl rfl (by exact (List.forall_mem_cons.2 ⟨rfl, (List.forall_mem_cons.2 ⟨rfl, (List.forall_mem_cons.2 ⟨rfl, (fun _ h => nomatch h)⟩)⟩)⟩)) ?_
        intro w41 h42
        have hk44 := h42.kp (Dw := Dw)
        have h43 : El (α := cal_Shift) A14 w41 b38 0 x33 := h42.el hA ⟨[.int .i64 x33.day], _, rfl, rfl, ⟨[.int .i64 x33.from_], _, rfl, rfl, rfl⟩⟩
        have ht45 := Kp.tr (Dw := Dw) hk44 hA hB
        replace hH := Hp.kp (Dw := Dw) hH hk44
        replace h_l := Sl.tr (Dw := Dw) h_l ht45
        replace h36 := El.tr (Dw := Dw) h36 ht45
        replace hK := Tr.trans (Dw := Dw) hK ht45
        replace hr5 := Tr.trans (Dw := Dw) hr5 ht45
        replace hr27 := Tr.trans (Dw := Dw) hr27 ht45
        replace hB := Nat.le_trans hB ht45.ex.size
        replace hA := ht45.new
        refine V_to (fun _ _ => rfl) ?_
        refine C_seq ?_
        refine C_seq ?_
        refine C_region ?_
        refine V_y (Y_move rfl) rfl rfl rfl ?_
        refine V_y (Y_not rfl) rfl rfl rfl ?_
        refine V_y (Y_move rfl) rfl rfl rfl ?_
        refine V_cut 4 (fun _ : Unit => [(0, v_l), (1, .bool week), (5, .int .i64 (k6 : Int)), (6, .pointer (some ⟨b38, 0, none⟩)), (8, v_l), (9, .int .i64 (l.length : Int)), (10, .int .i64 (k6 : Int)), (21, .bool ((!week) && (x33.day != 0)))]) (fun _ w' => w41 = w') ?_ ?_
        · simp only [List.take, List.drop]
          rcases Bool.eq_false_or_eq_true (!week) with hc46 | hc46
          · refine V_ge rfl rfl rfl hc46 ?_
            have h48 := El_cal_Shift_0 h43
            refine V_y (Y_fieldAddr Try.underlying73 rfl Try.sizeOf3 (by decide) rfl) rfl rfl rfl ?_
            refine V_ge rfl rfl rfl hc46 ?_
            refine V_y (Y_load (El.int h48) Try.isAgg3 rfl) rfl rfl rfl ?_
            refine V_ge rfl rfl rfl hc46 ?_
            refine V_y (Y_neq rfl rfl) rfl rfl rfl ?_
            refine V_y (Y_pick_te rfl hc46 rfl) rfl rfl rfl ?_
            exact V_end fun a ha => ⟨(), ha.sub ⟨rfl, rfl, rfl, rfl, rfl, rfl, rfl, (by rw [hc46]; rfl), trivial⟩, rfl⟩
          · refine V_gn rfl rfl rfl hc46 rfl rfl rfl ?_
            refine V_gn rfl rfl rfl hc46 rfl rfl rfl ?_
            refine V_gn rfl rfl rfl hc46 rfl rfl rfl ?_
            refine V_y (Y_pick_fe rfl hc46 rfl) rfl rfl rfl ?_
            exact V_end fun a ha => ⟨(), ha.sub ⟨rfl, rfl, rfl, rfl, rfl, rfl, rfl, (by rw [hc46]; rfl), trivial⟩, rfl⟩
        simp only [List.take, List.drop]
        rintro _ _ rfl
        refine V_to (fun _ _ => rfl) ?_
        refine C_cond rfl (fun hc49 => ?_) (fun hc49 => ?_)
        · rw [if_pos hc49] at ho25
          refine C_seq ?_
          refine C_region ?_
          refine V_y (Y_assign rfl) rfl rfl rfl ?_
          refine V_to (fun _ _ => rfl) ?_
          obtain rfl := Option.some.inj ho25
          rw [Lp.andThen_rt] at h17
          obtain rfl := Option.some.inj h17
          obtain rfl := (h18 : Lp.rt _ = _)
          rw [Lp.andThen_rt] at hm
          obtain rfl := Option.some.inj hm
          refine C_ret ?_
          try simp only [↓inBlock_ret, ↓then_ret]
          exact retQ rfl (Res.one Try.results29 rfl) ⟨rfl, hK.kp⟩
        · rw [if_neg (nt hc49)] at ho25
          refine C_skip_to (fun _ _ => rfl) ?_
          refine C_seq ?_
          refine C_seq ?_
          refine C_region ?_
          have h50 := El_cal_Shift_0 h43
          refine V_y (Y_fieldAddr Try.underlying73 rfl Try.sizeOf3 (by decide) rfl) rfl rfl rfl ?_
          refine V_y (Y_load (El.int h50) Try.isAgg3 rfl) rfl rfl rfl ?_
          refine V_y (Y_lss rfl rfl) rfl rfl rfl ?_
          refine V_y (Y_move rfl) rfl rfl rfl ?_
          refine V_cut 4 (fun _ : Unit => [(0, v_l), (1, .bool week), (5, .int .i64 (k6 : Int)), (6, .pointer (some ⟨b38, 0, none⟩)), (8, v_l), (9, .int .i64 (l.length : Int)), (10, .int .i64 (k6 : Int)), (29, .bool ((decide (x33.day < 0)) || (decide ((6 : Int) < x33.day))))]) (fun _ w' => w41 = w') ?_ ?_
          · simp only [List.take, List.drop]
            rcases Bool.eq_false_or_eq_true (decide (x33.day < 0)) with hc51 | hc51
            · refine V_gn rfl rfl rfl hc51 rfl rfl rfl ?_
              refine V_gn rfl rfl rfl hc51 rfl rfl rfl ?_
              refine V_gn rfl rfl rfl hc51 rfl rfl rfl ?_
              refine V_y (Y_pick_te rfl hc51 rfl) rfl rfl rfl ?_
              exact V_end fun a ha => ⟨(), ha.sub ⟨rfl, rfl, rfl, rfl, rfl, rfl, rfl, (by rw [hc51]; rfl), trivial⟩, rfl⟩
            · refine V_ge rfl rfl rfl hc51 ?_
              have h53 := El_cal_Shift_0 h43
              refine V_y (Y_fieldAddr Try.underlying73 rfl Try.sizeOf3 (by decide) rfl) rfl rfl rfl ?_
              refine V_ge rfl rfl rfl hc51 ?_
              refine V_y (Y_load (El.int h53) Try.isAgg3 rfl) rfl rfl rfl ?_
              refine V_ge rfl rfl rfl hc51 ?_
              refine V_y (Y_gtr rfl rfl) rfl rfl rfl ?_
              refine V_y (Y_pick_fe rfl hc51 rfl) rfl rfl rfl ?_
              exact V_end fun a ha => ⟨(), ha.sub ⟨rfl, rfl, rfl, rfl, rfl, rfl, rfl, (by rw [hc51]; rfl), trivial⟩, rfl⟩
          simp only [List.take, List.drop]
          rintro _ _ rfl
          refine V_y (Y_move rfl) rfl rfl rfl ?_
          refine V_cut 4 (fun _ : Unit => [(0, v_l), (1, .bool week), (5, .int .i64 (k6 : Int)), (6, .pointer (some ⟨b38, 0, none⟩)), (8, v_l), (9, .int .i64 (l.length : Int)), (10, .int .i64 (k6 : Int)), (34, .bool (((decide (x33.day < 0)) || (decide ((6 : Int) < x33.day))) || (decide (x33.from_ < 0))))]) (fun _ w' => w41 = w') ?_ ?_
          · simp only [List.take, List.drop]
            rcases Bool.eq_false_or_eq_true (((decide (x33.day < 0)) || (decide ((6 : Int) < x33.day)))) with hc54 | hc54
            · refine V_gn rfl rfl rfl hc54 rfl rfl rfl ?_
              refine V_gn rfl rfl rfl hc54 rfl rfl rfl ?_
              refine V_gn rfl rfl rfl hc54 rfl rfl rfl ?_
              refine V_y (Y_pick_te rfl hc54 rfl) rfl rfl rfl ?_
              exact V_end fun a ha => ⟨(), ha.sub ⟨rfl, rfl, rfl, rfl, rfl, rfl, rfl, (by rw [hc54]; rfl), trivial⟩, rfl⟩
            · refine V_ge rfl rfl rfl hc54 ?_
              have h56 := El_cal_Shift_1 h43
              refine V_y (Y_fieldAddr Try.underlying73 rfl Try.sizeOf3 (by decide) rfl) rfl rfl rfl ?_
              refine V_ge rfl rfl rfl hc54 ?_
              refine V_y (Y_load (El.int h56) Try.isAgg3 rfl) rfl rfl rfl ?_
              refine V_ge rfl rfl rfl hc54 ?_
              refine V_y (Y_lss rfl rfl) rfl rfl rfl ?_
              refine V_y (Y_pick_fe rfl hc54 rfl) rfl rfl rfl ?_
              exact V_end fun a ha => ⟨(), ha.sub ⟨rfl, rfl, rfl, rfl, rfl, rfl, rfl, (by rw [hc54]; rfl), trivial⟩, rfl⟩
          simp only [List.take, List.drop]
          rintro _ _ rfl
          refine V_y (Y_move rfl) rfl rfl rfl ?_
          refine V_cut 4 (fun _ : Unit => [(0, v_l), (1, .bool week), (5, .int .i64 (k6 : Int)), (6, .pointer (some ⟨b38, 0, none⟩)), (8, v_l), (9, .int .i64 (l.length : Int)), (10, .int .i64 (k6 : Int)), (39, .bool ((((decide (x33.day < 0)) || (decide ((6 : Int) < x33.day))) || (decide (x33.from_ < 0))) || (decide ((1440 : Int) ≤ x33.from_))))]) (fun _ w' => w41 = w') ?_ ?_
          · simp only [List.take, List.drop]
            rcases Bool.eq_false_or_eq_true ((((decide (x33.day < 0)) || (decide ((6 : Int) < x33.day))) || (decide (x33.from_ < 0)))) with hc57 | hc57
            · refine V_gn rfl rfl rfl hc57 rfl rfl rfl ?_
              refine V_gn rfl rfl rfl hc57 rfl rfl rfl ?_
              refine V_gn rfl rfl rfl hc57 rfl rfl rfl ?_
              refine V_y (Y_pick_te rfl hc57 rfl) rfl rfl rfl ?_
              exact V_end fun a ha => ⟨(), ha.sub ⟨rfl, rfl, rfl, rfl, rfl, rfl, rfl, (by rw [hc57]; rfl), trivial⟩, rfl⟩
            · refine V_ge rfl rfl rfl hc57 ?_
              have h59 := El_cal_Shift_1 h43
              refine V_y (Y_fieldAddr Try.underlying73 rfl Try.sizeOf3 (by decide) rfl) rfl rfl rfl ?_
              refine V_ge rfl rfl rfl hc57 ?_
              refine V_y (Y_load (El.int h59) Try.isAgg3 rfl) rfl rfl rfl ?_
              refine V_ge rfl rfl rfl hc57 ?_
              refine V_y (Y_geq rfl rfl) rfl rfl rfl ?_
              refine V_y (Y_pick_fe rfl hc57 rfl) rfl rfl rfl ?_
              exact V_end fun a ha => ⟨(), ha.sub ⟨rfl, rfl, rfl, rfl, rfl, rfl, rfl, (by rw [hc57]; rfl), trivial⟩, rfl⟩
          simp only [List.take, List.drop]
          rintro _ _ rfl
          refine V_y (Y_move rfl) rfl rfl rfl ?_
          refine V_cut 6 (fun _ : Unit => [(0, v_l), (1, .bool week), (5, .int .i64 (k6 : Int)), (6, .pointer (some ⟨b38, 0, none⟩)), (8, v_l), (9, .int .i64 (l.length : Int)), (10, .int .i64 (k6 : Int)), (46, .bool (((((decide (x33.day < 0)) || (decide ((6 : Int) < x33.day))) || (decide (x33.from_ < 0))) || (decide ((1440 : Int) ≤ x33.from_))) || (decide (x33.to_ ≤ x33.from_))))]) (fun _ w' => w41 = w') ?_ ?_
          · simp only [List.take, List.drop]
            rcases Bool.eq_false_or_eq_true (((((decide (x33.day < 0)) || (decide ((6 : Int) < x33.day))) || (decide (x33.from_ < 0))) || (decide ((1440 : Int) ≤ x33.from_)))) with hc60 | hc60
            · refine V_gn rfl rfl rfl hc60 rfl rfl rfl ?_
              refine V_gn rfl rfl rfl hc60 rfl rfl rfl ?_
              refine V_gn rfl rfl rfl hc60 rfl rfl rfl ?_
              refine V_gn rfl rfl rfl hc60 rfl rfl rfl ?_
              refine V_gn rfl rfl rfl hc60 rfl rfl rfl ?_
              refine V_y (Y_pick_te rfl hc60 rfl) rfl rfl rfl ?_
              exact V_end fun a ha => ⟨(), ha.sub ⟨rfl, rfl, rfl, rfl, rfl, rfl, rfl, (by rw [hc60]; rfl), trivial⟩, rfl⟩
            · refine V_ge rfl rfl rfl hc60 ?_
              have h62 := El_cal_Shift_2 h43
              refine V_y (Y_fieldAddr Try.underlying73 rfl Try.sizeOf3 (by decide) rfl) rfl rfl rfl ?_
              refine V_ge rfl rfl rfl hc60 ?_
              refine V_y (Y_load (El.int h62) Try.isAgg3 rfl) rfl rfl rfl ?_
              refine V_ge rfl rfl rfl hc60 ?_
              have h63 := El_cal_Shift_1 h43
              refine V_y (Y_fieldAddr Try.underlying73 rfl Try.sizeOf3 (by decide) rfl) rfl rfl rfl ?_
              refine V_ge rfl rfl rfl hc60 ?_
              refine V_y (Y_load (El.int h63) Try.isAgg3 rfl) rfl rfl rfl ?_
              refine V_ge rfl rfl rfl hc60 ?_
              refine V_y (Y_leq rfl rfl) rfl rfl rfl ?_
              refine V_y (Y_pick_fe rfl hc60 rfl) rfl rfl rfl ?_
              exact V_end fun a ha => ⟨(), ha.sub ⟨rfl, rfl, rfl, rfl, rfl, rfl, rfl, (by rw [hc60]; rfl), trivial⟩, rfl⟩
          simp only [List.take, List.drop]
          rintro _ _ rfl
          refine V_y (Y_move rfl) rfl rfl rfl ?_
          refine V_cut 7 (fun _ : Unit => [(0, v_l), (1, .bool week), (5, .int .i64 (k6 : Int)), (6, .pointer (some ⟨b38, 0, none⟩)), (8, v_l), (9, .int .i64 (l.length : Int)), (10, .int .i64 (k6 : Int)), (54, .bool ((((((decide (x33.day < 0)) || (decide ((6 : Int) < x33.day))) || (decide (x33.from_ < 0))) || (decide ((1440 : Int) ≤ x33.from_))) || (decide (x33.to_ ≤ x33.from_))) || (decide ((w64 (x33.from_ + 1440)) < x33.to_))))]) (fun _ w' => w41 = w') ?_ ?_
          · simp only [List.take, List.drop]
            rcases Bool.eq_false_or_eq_true ((((((decide (x33.day < 0)) || (decide ((6 : Int) < x33.day))) || (decide (x33.from_ < 0))) || (decide ((1440 : Int) ≤ x33.from_))) || (decide (x33.to_ ≤ x33.from_)))) with hc64 | hc64
            · refine V_gn rfl rfl rfl hc64 rfl rfl rfl ?_
              refine V_gn rfl rfl rfl hc64 rfl rfl rfl ?_
              refine V_gn rfl rfl rfl hc64 rfl rfl rfl ?_
              refine V_gn rfl rfl rfl hc64 rfl rfl rfl ?_
              refine V_gn rfl rfl rfl hc64 rfl rfl rfl ?_
              refine V_gn rfl rfl rfl hc64 rfl rfl rfl ?_
              refine V_y (Y_pick_te rfl hc64 rfl) rfl rfl rfl ?_
              exact V_end fun a ha => ⟨(), ha.sub ⟨rfl, rfl, rfl, rfl, rfl, rfl, rfl, (by rw [hc64]; rfl), trivial⟩, rfl⟩
            · refine V_ge rfl rfl rfl hc64 ?_
              have h66 := El_cal_Shift_2 h43
              refine V_y (Y_fieldAddr Try.underlying73 rfl Try.sizeOf3 (by decide) rfl) rfl rfl rfl ?_
              refine V_ge rfl rfl rfl hc64 ?_
              refine V_y (Y_load (El.int h66) Try.isAgg3 rfl) rfl rfl rfl ?_
              refine V_ge rfl rfl rfl hc64 ?_
              have h67 := El_cal_Shift_1 h43
              refine V_y (Y_fieldAddr Try.underlying73 rfl Try.sizeOf3 (by decide) rfl) rfl rfl rfl ?_
              refine V_ge rfl rfl rfl hc64 ?_
              refine V_y (Y_load (El.int h67) Try.isAgg3 rfl) rfl rfl rfl ?_
              refine V_ge rfl rfl rfl hc64 ?_
              refine V_y (Y_addI rfl rfl) rfl rfl rfl ?_
              refine V_ge rfl rfl rfl hc64 ?_
              refine V_y (Y_gtr rfl rfl) rfl rfl rfl ?_
              refine V_y (Y_pick_fe rfl hc64 rfl) rfl rfl rfl ?_
              exact V_end fun a ha => ⟨(), ha.sub ⟨rfl, rfl, rfl, rfl, rfl, rfl, rfl, (by rw [hc64]; rfl), trivial⟩, rfl⟩
          simp only [List.take, List.drop]
          rintro _ _ rfl
          refine V_to (fun _ _ => rfl) ?_
          refine C_cond rfl (fun hc68 => ?_) (fun hc68 => ?_)
          · rw [if_pos hc68] at ho25
            refine C_seq ?_
            refine C_region ?_
            refine V_y (Y_assign rfl) rfl rfl rfl ?_
            refine V_to (fun _ _ => rfl) ?_
            obtain rfl := Option.some.inj ho25
            rw [Lp.andThen_rt] at h17
            obtain rfl := Option.some.inj h17
            obtain rfl := (h18 : Lp.rt _ = _)
            rw [Lp.andThen_rt] at hm
            obtain rfl := Option.some.inj hm
            refine C_ret ?_
            try simp only [↓inBlock_ret, ↓then_ret]
            exact retQ rfl (Res.one Try.results29 rfl) ⟨rfl, hK.kp⟩
          · rw [if_neg (nt hc68)] at ho25
            refine C_skip_to (fun _ _ => rfl) ?_
            refine C_seq ?_
            refine C_region ?_
            refine V_y (Y_move rfl) rfl rfl rfl ?_
            refine V_y (Y_gtr rfl rfl) rfl rfl rfl ?_
            refine V_to (fun _ _ => rfl) ?_
            obtain ⟨o69, ho69, ho25⟩ := Option.bind_eq_some_iff.1 ho25
            refine C_cutG (ι := (Unit × (Nat → Prop))) (fun ⟨s70, A75⟩ => [(0, v_l), (1, .bool week), (8, v_l), (9, .int .i64 (l.length : Int)), (10, .int .i64 (k6 : Int))]) (fun ⟨s70, A75⟩ => fun w' => o69 = .fin s70 ∧ Hp w.heap.size A75 w' ([]) ∧ Tr Dw w.heap.size A14 w41 A75 w') ?_ ?_
            · have hr71 : Tr Dw w.heap.size A14 w41 A14 w41 := Tr.refl (Dw := Dw) hA
              refine C_cond rfl (fun hc77 => ?_) (fun hc77 => ?_)
              · rw [if_pos hc77] at ho69
                refine C_seq ?_
                refine C_region ?_
                refine V_y (Y_move rfl) rfl rfl rfl ?_
                refine V_y (Y_move rfl) rfl rfl rfl ?_
                refine V_y (Y_subI rfl rfl) rfl rfl rfl ?_
                obtain ⟨x78, hx78, ho69⟩ := Option.bind_eq_some_iff.1 ho69
                refine V_indexAddr h_l hx78 Try.underlying34 Try.sizeOf73 rfl rfl rfl ?_
                intro b79 o80 h81
                obtain ⟨h82, _⟩ := El_cal_Shift h81
                refine V_y (Y_loadA h82 Try.isAgg73 Try.sizeOf73 rfl) rfl rfl rfl ?_
                refine V_alloc Try.zeroValue73 rfl ?_
                intro b83 w84 h85
                refine V_storeNew h85 Try.sizeOf73 rfl rfl rfl rfl (by exact (List.forall_mem_cons.2 ⟨rfl, (List.forall_mem_cons.2 ⟨rfl, (List.forall_mem_cons.2 ⟨rfl, (fun _ h => nomatch h)⟩)⟩)⟩)) ?_
                intro w86 h87
                have hk89 := h87.kp (Dw := Dw)
                have h88 : El (α := cal_Shift) A14 w86 b83 0 x78 := h87.el hA ⟨[.int .i64 x78.day], _, rfl, rfl, ⟨[.int .i64 x78.from_], _, rfl, rfl, rfl⟩⟩
                have ht90 := Kp.tr (Dw := Dw) hk89 hA hB
                replace hH := Hp.kp (Dw := Dw) hH hk89
                replace h_l := Sl.tr (Dw := Dw) h_l ht90
                replace h43 := El.tr (Dw := Dw) h43 ht90
                replace h81 := El.tr (Dw := Dw) h81 ht90
                replace hK := Tr.trans (Dw := Dw) hK ht90
                replace hr5 := Tr.trans (Dw := Dw) hr5 ht90
                replace hr27 := Tr.trans (Dw := Dw) hr27 ht90
                replace hr71 := Tr.trans (Dw := Dw) hr71 ht90
                replace hB := Nat.le_trans hB ht90.ex.size
                replace hA := ht90.new
                refine V_to (fun _ _ => rfl) ?_
                refine C_seq ?_
                refine C_region_qt (Dw := Dw) 15 Try_mixed (by kernel_rfl) ?_
                simp only [List.take, List.drop]
                have h91 := El_cal_Shift_0 h88
                refine VQ_y (fun w' hw' => Y_fieldAddr Try.underlying73 rfl Try.sizeOf3 (by decide) rfl) rfl rfl rfl ?_
                refine VQ_y (fun w' hw' => Y_load (El.int (El.kp (Dw := Dw) h91 hw')) Try.isAgg3 rfl) rfl rfl rfl ?_
                have h92 := El_cal_Shift_0 h43
                refine VQ_y (fun w' hw' => Y_fieldAddr Try.underlying73 rfl Try.sizeOf3 (by decide) rfl) rfl rfl rfl ?_
                refine VQ_y (fun w' hw' => Y_load (El.int (El.kp (Dw := Dw) h92 hw')) Try.isAgg3 rfl) rfl rfl rfl ?_
                refine VQ_call (.int .i64 (cmp_Compare_int x78.day x33.day)) Try.call27 rfl rfl rfl rfl (fun w' hw' => (cmp_Compare_int_c w' x78.day x33.day).mono (fun _ _ h => ⟨h.1, h.2 ▸ hw'⟩)) ?_
                have h93 := El_cal_Shift_1 h88
                refine VQ_y (fun w' hw' => Y_fieldAddr Try.underlying73 rfl Try.sizeOf3 (by decide) rfl) rfl rfl rfl ?_
                refine VQ_y (fun w' hw' => Y_load (El.int (El.kp (Dw := Dw) h93 hw')) Try.isAgg3 rfl) rfl rfl rfl ?_
                have h94 := El_cal_Shift_1 h43
                refine VQ_y (fun w' hw' => Y_fieldAddr Try.underlying73 rfl Try.sizeOf3 (by decide) rfl) rfl rfl rfl ?_
                refine VQ_y (fun w' hw' => Y_load (El.int (El.kp (Dw := Dw) h94 hw')) Try.isAgg3 rfl) rfl rfl rfl ?_
                refine VQ_call (.int .i64 (cmp_Compare_int x78.from_ x33.from_)) Try.call27 rfl rfl rfl rfl (fun w' hw' => (cmp_Compare_int_c w' x78.from_ x33.from_).mono (fun _ _ h => ⟨h.1, h.2 ▸ hw'⟩)) ?_
                have h95 := El_cal_Shift_2 h88
                refine VQ_y (fun w' hw' => Y_fieldAddr Try.underlying73 rfl Try.sizeOf3 (by decide) rfl) rfl rfl rfl ?_
                refine VQ_y (fun w' hw' => Y_load (El.int (El.kp (Dw := Dw) h95 hw')) Try.isAgg3 rfl) rfl rfl rfl ?_
                have h96 := El_cal_Shift_2 h43
                refine VQ_y (fun w' hw' => Y_fieldAddr Try.underlying73 rfl Try.sizeOf3 (by decide) rfl) rfl rfl rfl ?_
                refine VQ_y (fun w' hw' => Y_load (El.int (El.kp (Dw := Dw) h96 hw')) Try.isAgg3 rfl) rfl rfl rfl ?_
                refine VQ_call (.int .i64 (cmp_Compare_int x78.to_ x33.to_)) Try.call27 rfl rfl rfl rfl (fun w' hw' => (cmp_Compare_int_c w' x78.to_ x33.to_).mono (fun _ _ h => ⟨h.1, h.2 ▸ hw'⟩)) ?_
                refine VQ_tail (fun w97 hk98 => ?_)
                try simp only [List.take, List.drop]
                have ht99 := Kp.tr (Dw := Dw) hk98 hA hB
                replace hH := Hp.kp (Dw := Dw) hH hk98
                replace h_l := Sl.tr (Dw := Dw) h_l ht99
                replace h43 := El.tr (Dw := Dw) h43 ht99
                replace h88 := El.tr (Dw := Dw) h88 ht99
                replace h91 := El.tr (Dw := Dw) h91 ht99
                replace h92 := El.tr (Dw := Dw) h92 ht99
                replace h93 := El.tr (Dw := Dw) h93 ht99
                replace h94 := El.tr (Dw := Dw) h94 ht99
                replace h95 := El.tr (Dw := Dw) h95 ht99
                replace h96 := El.tr (Dw := Dw) h96 ht99
                replace hK := Tr.trans (Dw := Dw) hK ht99
                replace hr5 := Tr.trans (Dw := Dw) hr5 ht99
                replace hr27 := Tr.trans (Dw := Dw) hr27 ht99
                replace hr71 := Tr.trans (Dw := Dw) hr71 ht99
                replace hB := Nat.le_trans hB ht99.ex.size
                replace hA := ht99.new
                refine V_buildSlice (Dw := Dw) (cells := #[.int .i64 (cmp_Compare_int x78.day x33.day), .int .i64 (cmp_Compare_int x78.from_ x33.from_), .int .i64 (cmp_Compare_int x78.to_ x33.to_)]) (l := ([(cmp_Compare_int x78.day x33.day), (cmp_Compare_int x78.from_ x33.from_), (cmp_Compare_int x78.to_ x33.to_)] : List Int)) (len := 3) Try.underlying48 Try.sizeOf3 Try.zeroValue3 rfl (by generalize ((cmp_Compare_int x78.from_ x33.from_) : Int) = z104; generalize ((cmp_Compare_int x78.day x33.day) : Int) = z105; generalize ((cmp_Compare_int x78.to_ x33.to_) : Int) = z106; kernel_rfl) (show (3 * 1 : Nat) ≠ 0 by decide) (show (3 * 1 : Nat) ≤ 2 ^ 24 by decide) hA ⟨[.int .i64 (cmp_Compare_int x78.day x33.day)], _, rfl, rfl, ⟨[.int .i64 (cmp_Compare_int x78.from_ x33.from_)], _, rfl, rfl, ⟨[.int .i64 (cmp_Compare_int x78.to_ x33.to_)], _, rfl, rfl, rfl⟩⟩⟩ rfl rfl ?_
                intro v100 w101 hk103 h102
                have ht107 := Kp.tr (Dw := Dw) hk103 hA hB
                replace hH := Hp.kp (Dw := Dw) hH hk103
                replace h_l := Sl.tr (Dw := Dw) h_l ht107
                replace h43 := El.tr (Dw := Dw) h43 ht107
                replace h88 := El.tr (Dw := Dw) h88 ht107
                replace h91 := El.tr (Dw := Dw) h91 ht107
                replace h92 := El.tr (Dw := Dw) h92 ht107
                replace h93 := El.tr (Dw := Dw) h93 ht107
                replace h94 := El.tr (Dw := Dw) h94 ht107
                replace h95 := El.tr (Dw := Dw) h95 ht107
                replace h96 := El.tr (Dw := Dw) h96 ht107
                replace hK := Tr.trans (Dw := Dw) hK ht107
                replace hr5 := Tr.trans (Dw := Dw) hr5 ht107
                replace hr27 := Tr.trans (Dw := Dw) hr27 ht107
                replace hr71 := Tr.trans (Dw := Dw) hr71 ht107
                replace hB := Nat.le_trans hB ht107.ex.size
                replace hA := ht107.new
                obtain ⟨x108, hx108, ho69⟩ := Option.bind_eq_some_iff.1 ho69
                refine V_call Try.call44 rfl rfl rfl rfl (cmp_Or_int_c w101 ([(cmp_Compare_int x78.day x33.day), (cmp_Compare_int x78.from_ x33.from_), (cmp_Compare_int x78.to_ x33.to_)] : List Int) v100 h102 hx108) ?_
                rintro _ _ ⟨rfl, rfl⟩
                refine V_y (Y_geq rfl rfl) rfl rfl rfl ?_
                refine V_to (fun _ _ => rfl) ?_
                refine C_cond rfl (fun hc109 => ?_) (fun hc109 => ?_)
                · rw [if_pos hc109] at ho69
                  refine C_seq ?_
                  refine C_region ?_
                  refine V_y (Y_assign rfl) rfl rfl rfl ?_
                  refine V_to (fun _ _ => rfl) ?_
                  obtain rfl := Option.some.inj ho69
                  rw [Lp.andThen_rt] at ho25
                  obtain rfl := Option.some.inj ho25
                  rw [Lp.andThen_rt] at h17
                  obtain rfl := Option.some.inj h17
                  obtain rfl := (h18 : Lp.rt _ = _)
                  rw [Lp.andThen_rt] at hm
                  obtain rfl := Option.some.inj hm
                  refine C_ret ?_
                  try simp only [↓inBlock_ret, ↓then_ret]
                  exact retQ rfl (Res.one Try.results29 rfl) ⟨rfl, hK.kp⟩
                · rw [if_neg (nt hc109)] at ho69
                  obtain rfl := Option.some.inj ho69
                  refine C_skip (fun a ha110 => ?_)
                  exact ⟨((), A14), ha110.sub ⟨rfl, rfl, rfl, rfl, rfl, trivial⟩, ⟨rfl, hH, hr71⟩⟩
              · rw [if_neg (nt hc77)] at ho69
                obtain rfl := Option.some.inj ho69
                refine C_skip (fun a ha111 => ?_)
                exact ⟨((), A14), ha111.sub ⟨rfl, rfl, rfl, rfl, rfl, trivial⟩, ⟨rfl, hH, hr71⟩⟩
            rintro ⟨s70, A75⟩ w72 ⟨rfl, hH76, hk73⟩ a ha74
            rw [Lp.andThen_fin] at ho25
            replace h_l := Sl.tr (Dw := Dw) h_l hk73
            replace hK := Tr.trans (Dw := Dw) hK hk73
            replace hr5 := Tr.trans (Dw := Dw) hr5 hk73
            replace hr27 := Tr.trans (Dw := Dw) hr27 hk73
            replace hB := Nat.le_trans hB hk73.ex.size
            replace hA := hk73.new
            replace hH : Hp w.heap.size A75 w72 ([]) := hH76
            obtain rfl := Option.some.inj ho25
            exact ⟨((), A75), ha74.sub ⟨rfl, rfl, rfl, rfl, rfl, trivial⟩, ⟨rfl, hH, hr27⟩⟩
      rintro ⟨s26, A31⟩ w28 ⟨rfl, hH32, hk29⟩ a ha30
      rw [Lp.andThen_fin] at h17
      replace h_l := Sl.tr (Dw := Dw) h_l hk29
      replace hK := Tr.trans (Dw := Dw) hK hk29
      replace hr5 := Tr.trans (Dw := Dw) hr5 hk29
      replace hB := Nat.le_trans hB hk29.ex.size
      replace hA := hk29.new
      replace hH : Hp w.heap.size A31 w28 ([]) := hH32
      refine C_at (n := ⟨81, [], none⟩) (fun _ _ => rfl) ?_ ha30
      refine C_region ?_
      refine V_y (Y_addI rfl rfl) rfl rfl rfl ?_
      refine V_y (Y_move rfl) rfl rfl rfl ?_
      obtain rfl := Option.some.inj h17
      refine V_end (fun a ha113 => ?_)
      exact ⟨(), hlt20, h18, ⟨A31, ha113.sub ⟨rfl, rfl, rfl, rfl, (congrArg (fun z => some (Value.int .i64 z)) (w64_succ hlt20 hn23)), trivial⟩, ⟨hH, hr5⟩⟩⟩
    · refine C_exit (fun a ha114 => ?_)
      exact ⟨((), A14), ha114.sub trivial, ⟨(h21 (eq_of_dec hle19 hc24)).symm, hH, hr5⟩⟩
  rintro ⟨s4, A10⟩ w7 ⟨rfl, hH11, hk8⟩ a ha9
  rw [Lp.andThen_fin] at hm
  replace hK := Tr.trans (Dw := Dw) hK hk8
  replace hB := Nat.le_trans hB hk8.ex.size
  replace hA := hk8.new
  replace hH : Hp w.heap.size A10 w7 ([]) := hH11
  refine C_at (n := ⟨81, [], none⟩) (fun _ _ => rfl) ?_ ha9
  refine C_seq ?_
  refine C_region ?_
  refine V_y (Y_assign rfl) rfl rfl rfl ?_
  refine V_to (fun _ _ => rfl) ?_
  obtain rfl := Option.some.inj hm
  refine C_ret ?_
  try simp only [↓inBlock_ret, ↓then_ret]
  exact retQ rfl (Res.one Try.results29 rfl) ⟨rfl, hK.kp⟩

set_option maxRecDepth 4000 in
set_option maxHeartbeats 4000000 in
theorem portref2_CalendarFault_c (w : World) {A : Nat → Prop} (hA : ∀ b, w.heap.size ≤ b → A b) (c : cal_Calendar) (v_c0 : Value) (h_c0 : Sl A w v_c0 c.zone.changes) (v_c1 : Value) (h_c1 : Sl A w v_c1 c.week) (v_c2 : Value) (h_c2 : Sl A w v_c2 c.specials) {r : Int} (hm : portref2_CalendarFault c = some r) : Ret Try.prog 15 #[.agg #[.int .i64 c.zone.offset, v_c0, v_c1, v_c2]] w fun v w' => v = .int .i64 r ∧ Kp Dw w w' := by
  unfold portref2_CalendarFault at hm
  refine enter Try.func15 rfl Try.ntmps15 rfl ?_
  have hA0 := hA
  have hB := Nat.le_refl w.heap.size
  have hK : Tr Dw w.heap.size A w A w := Tr.refl (Dw := Dw) hA
  have hH : Hp w.heap.size A w [] := Hp.nil
  refine C_seq ?_
  refine C_region ?_
  refine V_box rfl rfl ?_
  intro b7 w9 h10
  have hk12 := h10.kp (Dw := Dw)
  have h11 : El (α := cal_Calendar) A w9 b7 0 c := h10.el hA ⟨[.int .i64 c.zone.offset, v_c0], _, rfl, ⟨[.int .i64 c.zone.offset], _, rfl, rfl, ⟨_, rfl, h_c0⟩⟩, ⟨[v_c1], _, rfl, ⟨_, rfl, h_c1⟩, ⟨_, rfl, h_c2⟩⟩⟩
  have ht13 := Kp.tr (Dw := Dw) hk12 hA hB
  replace hH := Hp.kp (Dw := Dw) hH hk12
  replace h_c0 := Sl.tr (Dw := Dw) h_c0 ht13
  replace h_c1 := Sl.tr (Dw := Dw) h_c1 ht13
  replace h_c2 := Sl.tr (Dw := Dw) h_c2 ht13
  replace hK := Tr.trans (Dw := Dw) hK ht13
  replace hB := Nat.le_trans hB ht13.ex.size
  replace hA := ht13.new
  refine V_y (Y_assign rfl) rfl rfl rfl ?_
  refine V_to (fun _ _ => rfl) ?_
  refine C_seq ?_
  refine C_seq ?_
  refine C_region ?_
  have h14 := El_cal_Calendar_0 h11
  refine V_y (Y_fieldAddr Try.underlying37 rfl Try.sizeOf33 (by decide) rfl) rfl rfl rfl ?_
  obtain ⟨v15, h17, h16⟩ := El_cal_Zone h14
  refine V_y (Y_loadA h17 Try.isAgg33 Try.sizeOf33 rfl) rfl rfl rfl ?_
  obtain ⟨x18, hx18, hm⟩ := Option.bind_eq_some_iff.1 hm
  refine V_call Try.call28 rfl rfl rfl rfl (portref2_ZoneFault_c (Dw := Dw) w9 hA c.zone v15 h16 hx18) ?_
  rintro _ w19 ⟨rfl, hk20⟩
  have ht21 := Kp.tr (Dw := Dw) hk20 hA hB
  replace hH := Hp.kp (Dw := Dw) hH hk20
  replace h11 := El.tr (Dw := Dw) h11 ht21
  replace h14 := El.tr (Dw := Dw) h14 ht21
  replace h16 := Sl.tr (Dw := Dw) h16 ht21
  replace hK := Tr.trans (Dw := Dw) hK ht21
  replace hB := Nat.le_trans hB ht21.ex.size
  replace hA := ht21.new
  refine V_y (Y_assign rfl) rfl rfl rfl ?_
  refine V_to (fun _ _ => rfl) ?_
  refine C_seq ?_
  refine C_region ?_
  refine V_y (Y_move rfl) rfl rfl rfl ?_
  refine V_y (Y_neq rfl rfl) rfl rfl rfl ?_
  refine V_to (fun _ _ => rfl) ?_
  refine C_cond rfl (fun hc22 => ?_) (fun hc22 => ?_)
  · rw [if_pos hc22] at hm
    refine C_seq ?_
    refine C_region ?_
    refine V_y (Y_move rfl) rfl rfl rfl ?_
    refine V_y (Y_assign rfl) rfl rfl rfl ?_
    refine V_to (fun _ _ => rfl) ?_
    obtain rfl := Option.some.inj hm
    refine C_ret ?_
    try simp only [↓inBlock_ret, ↓then_ret]
    exact retQ rfl (Res.one Try.results15 rfl) ⟨rfl, hK.kp⟩
  · rw [if_neg (nt hc22)] at hm
    refine C_skip_to (fun _ _ => rfl) ?_
    refine C_seq ?_
    refine C_seq ?_
    refine C_region ?_
    have h23 := El_cal_Calendar_1 h11
    refine V_y (Y_fieldAddr Try.underlying37 rfl Try.sizeOf34 (by decide) rfl) rfl rfl rfl ?_
    obtain ⟨v24, h25, h26⟩ := El.list h23
    refine V_y (Y_load h25 Try.isAgg34 rfl) rfl rfl rfl ?_
    refine V_y (Y_lenSl h26 rfl Try.underlying34 rfl) rfl rfl rfl ?_
    refine V_y (Y_gtr rfl rfl) rfl rfl rfl ?_
    refine V_y (Y_move rfl) rfl rfl rfl ?_
    refine V_cut 5 (fun _ : Unit => [(1, .pointer (some ⟨b7, 0, none⟩)), (23, .bool ((decide ((60 : Int) < (c.week.length : Int))) || (decide ((200 : Int) < (c.specials.length : Int)))))]) (fun _ w' => w19 = w') ?_ ?_
    · simp only [List.take, List.drop]
      rcases Bool.eq_false_or_eq_true (decide ((60 : Int) < (c.week.length : Int))) with hc27 | hc27
      · refine V_gn rfl rfl rfl hc27 rfl rfl rfl ?_
        refine V_gn rfl rfl rfl hc27 rfl rfl rfl ?_
        refine V_gn rfl rfl rfl hc27 rfl rfl rfl ?_
        refine V_gn rfl rfl rfl hc27 rfl rfl rfl ?_
        refine V_y (Y_pick_te rfl hc27 rfl) rfl rfl rfl ?_
        exact V_end fun a ha => ⟨(), ha.sub ⟨rfl, (by rw [hc27]; rfl), trivial⟩, rfl⟩
      · refine V_ge rfl rfl rfl hc27 ?_
        have h29 := El_cal_Calendar_2 h11
        refine V_y (Y_fieldAddr Try.underlying37 rfl Try.sizeOf35 (by decide) rfl) rfl rfl rfl ?_
        refine V_ge rfl rfl rfl hc27 ?_
        obtain ⟨v30, h31, h32⟩ := El.list h29
        refine V_y (Y_load h31 Try.isAgg35 rfl) rfl rfl rfl ?_
        refine V_ge rfl rfl rfl hc27 ?_
        refine V_y (Y_lenSl h32 rfl Try.underlying35 rfl) rfl rfl rfl ?_
        refine V_ge rfl rfl rfl hc27 ?_
        refine V_y (Y_gtr rfl rfl) rfl rfl rfl ?_
        refine V_y (Y_pick_fe rfl hc27 rfl) rfl rfl rfl ?_
        exact V_end fun a ha => ⟨(), ha.sub ⟨rfl, (by rw [hc27]; rfl), trivial⟩, rfl⟩
    simp only [List.take, List.drop]
    rintro _ _ rfl
    refine V_to (fun _ _ => rfl) ?_
    refine C_cond rfl (fun hc33 => ?_) (fun hc33 => ?_)
    · rw [if_pos hc33] at hm
      refine C_seq ?_
      refine C_region ?_
      refine V_y (Y_assign rfl) rfl rfl rfl ?_
      refine V_to (fun _ _ => rfl) ?_
      obtain rfl := Option.some.inj hm
      refine C_ret ?_
      try simp only [↓inBlock_ret, ↓then_ret]
      exact retQ rfl (Res.one Try.results15 rfl) ⟨rfl, hK.kp⟩
    · rw [if_neg (nt hc33)] at hm
      refine C_skip_to (fun _ _ => rfl) ?_
      refine C_seq ?_
      refine C_seq ?_
      refine C_region ?_
      have h34 := El_cal_Calendar_1 h11
      refine V_y (Y_fieldAddr Try.underlying37 rfl Try.sizeOf34 (by decide) rfl) rfl rfl rfl ?_
      obtain ⟨v35, h36, h37⟩ := El.list h34
      refine V_y (Y_load h36 Try.isAgg34 rfl) rfl rfl rfl ?_
      obtain ⟨x38, hx38, hm⟩ := Option.bind_eq_some_iff.1 hm
      refine V_call Try.call29 rfl rfl rfl rfl (portref2_shiftFault_c (Dw := Dw) w19 hA c.week v35 h37 true hx38) ?_
      rintro _ w39 ⟨rfl, hk40⟩
      have ht41 := Kp.tr (Dw := Dw) hk40 hA hB
      replace hH := Hp.kp (Dw := Dw) hH hk40
      replace h11 := El.tr (Dw := Dw) h11 ht41
      replace h34 := El.tr (Dw := Dw) h34 ht41
      replace h37 := Sl.tr (Dw := Dw) h37 ht41
      replace hK := Tr.trans (Dw := Dw) hK ht41
      replace hB := Nat.le_trans hB ht41.ex.size
      replace hA := ht41.new
      refine V_y (Y_assign rfl) rfl rfl rfl ?_
      refine V_to (fun _ _ => rfl) ?_
      refine C_seq ?_
      refine C_region ?_
      refine V_y (Y_move rfl) rfl rfl rfl ?_
      refine V_y (Y_neq rfl rfl) rfl rfl rfl ?_
      refine V_to (fun _ _ => rfl) ?_
      refine C_cond rfl (fun hc42 => ?_) (fun hc42 => ?_)
      · rw [if_pos hc42] at hm
        refine C_seq ?_
        refine C_region ?_
        refine V_y (Y_move rfl) rfl rfl rfl ?_
        refine V_y (Y_assign rfl) rfl rfl rfl ?_
        refine V_to (fun _ _ => rfl) ?_
        obtain rfl := Option.some.inj hm
        refine C_ret ?_
        try simp only [↓inBlock_ret, ↓then_ret]
        exact retQ rfl (Res.one Try.results15 rfl) ⟨rfl, hK.kp⟩
      · rw [if_neg (nt hc42)] at hm
        refine C_skip_to (fun _ _ => rfl) ?_
        refine C_seq ?_
        refine C_seq ?_
        refine C_region ?_
        have h43 := El_cal_Calendar_2 h11
        refine V_y (Y_fieldAddr Try.underlying37 rfl Try.sizeOf35 (by decide) rfl) rfl rfl rfl ?_
        obtain ⟨v44, h45, h46⟩ := El.list h43
        refine V_y (Y_load h45 Try.isAgg35 rfl) rfl rfl rfl ?_
        refine V_y (Y_lenSl h46 rfl Try.underlying35 rfl) rfl rfl rfl ?_
        refine V_y (Y_move rfl) rfl rfl rfl ?_
        refine V_to (fun _ _ => rfl) ?_
        have hn67 := Sl.le h46
        obtain ⟨o47, ho47, hm⟩ := Option.bind_eq_some_iff.1 hm
        refine C_cutG (ι := (Unit × (Nat → Prop))) (fun ⟨s48, A54⟩ => []) (fun ⟨s48, A54⟩ => fun w' => o47 = .fin s48 ∧ Hp w.heap.size A54 w' ([]) ∧ Tr Dw w.heap.size A w39 A54 w') ?_ ?_
        · refine C_block ?_
          refine C_range ho47 (fun k50 _ a w' => ∃ i : (Nat → Prop), Has ⟨74, [], none⟩ a ([(1, .pointer (some ⟨b7, 0, none⟩)), (31, v44), (32, .int .i64 (c.specials.length : Int)), (33, .int .i64 (k50 : Int))]) ∧ Hp w.heap.size i w' ([]) ∧ Tr Dw w.heap.size A w39 i w') (fun a ha => ⟨A, ha.sub ⟨rfl, rfl, rfl, rfl, trivial⟩, ⟨hH, Tr.refl (Dw := Dw) hA⟩⟩) ?_
          rintro K k50 _ a w57 ⟨A58, ha124, hH59, hr49⟩ hle63 K66 h65
          refine C_of ?_ ha124
          replace h11 := El.tr (Dw := Dw) h11 hr49
          replace h46 := Sl.tr (Dw := Dw) h46 hr49
          replace hK := Tr.trans (Dw := Dw) hK hr49
          replace hB := Nat.le_trans hB hr49.ex.size
          replace hA := hr49.new
          replace hH : Hp w.heap.size A58 w57 ([]) := hH59
          refine C_seq (C_region (V_y (Y_lss rfl rfl) rfl rfl rfl (V_to (fun _ _ => rfl) ?_)))
          refine C_seq ?_
          refine C_cond rfl (fun hc68 => ?_) (fun hc68 => ?_)
          · have hlt64 := lt_of_dec hc68
            obtain ⟨x60, h61, h62⟩ := K66 hlt64
            refine C_skip_to (fun _ _ => rfl) ?_
            refine C_seq ?_
            refine C_block ?_
            refine C_seq ?_
            refine C_region ?_
            refine V_y (Y_move rfl) rfl rfl rfl ?_
            obtain ⟨x69, hx69, h61⟩ := Option.bind_eq_some_iff.1 h61
            refine V_indexAddr h46 hx69 Try.underlying35 Try.sizeOf58 rfl rfl rfl ?_
            intro b70 o71 h72
            obtain ⟨v73, h75, h74⟩ := El_cal_Special h72
            refine V_y (Y_loadA h75 Try.isAgg58 Try.sizeOf58 rfl) rfl rfl rfl ?_
            refine V_alloc Try.zeroValue58 rfl ?_
            intro b76 w77 h78
            refine V_y (Y_assign rfl) rfl rfl rfl ?_
            have h83 : (v73).oneCell' = true := by obtain ⟨_, _, e, _⟩ := Sl.form h74; rw [e]; rfl
            refine V_storeNew h78 Try.sizeOf58 rfl rfl rfl rfl (by exact (List.forall_mem_cons.2 ⟨rfl, (List.forall_mem_cons.2 ⟨h83, (fun _ h => nomatch h)⟩)⟩)) ?_
            intro w79 h80
            have hk85 := h80.kp (Dw := Dw)
            have h84 : El (α := cal_Special) A58 w79 b76 0 x69 := h80.el hA ⟨[.int .i64 x69.day], _, rfl, rfl, ⟨_, rfl, h74⟩⟩
            have ht86 := Kp.tr (Dw := Dw) hk85 hA hB
            replace hH := Hp.kp (Dw := Dw) hH hk85
            replace h11 := El.tr (Dw := Dw) h11 ht86
            replace h46 := Sl.tr (Dw := Dw) h46 ht86
            replace h72 := El.tr (Dw := Dw) h72 ht86
            replace h74 := Sl.tr (Dw := Dw) h74 ht86
            replace hK := Tr.trans (Dw := Dw) hK ht86
            replace hr49 := Tr.trans (Dw := Dw) hr49 ht86
            replace hB := Nat.le_trans hB ht86.ex.size
            replace hA := ht86.new
            refine V_to (fun _ _ => rfl) ?_
            refine C_seq ?_
            refine C_block ?_
            refine C_seq ?_
            refine C_region ?_
            have h87 := El_cal_Special_0 h84
            refine V_y (Y_fieldAddr Try.underlying58 rfl Try.sizeOf3 (by decide) rfl) rfl rfl rfl ?_
            refine V_y (Y_load (El.int h87) Try.isAgg3 rfl) rfl rfl rfl ?_
            refine V_y (Y_lss rfl rfl) rfl rfl rfl ?_
            refine V_y (Y_move rfl) rfl rfl rfl ?_
            refine V_cut 4 (fun _ : Unit => [(1, .pointer (some ⟨b7, 0, none⟩)), (5, .int .i64 (k50 : Int)), (6, .pointer (some ⟨b76, 0, none⟩)), (31, v44), (32, .int .i64 (c.specials.length : Int)), (33, .int .i64 (k50 : Int)), (46, .bool ((decide (x69.day < (-1))) || (decide ((2084 : Int) < x69.day))))]) (fun _ w' => w79 = w') ?_ ?_
            · simp only [List.take, List.drop]
              rcases Bool.eq_false_or_eq_true (decide (x69.day < (-1))) with hc88 | hc88
              · refine V_gn rfl rfl rfl hc88 rfl rfl rfl ?_
                refine V_gn rfl rfl rfl hc88 rfl rfl rfl ?_
                refine V_gn rfl rfl rfl hc88 rfl rfl rfl ?_
                refine V_y (Y_pick_te rfl hc88 rfl) rfl rfl rfl ?_
                exact V_end fun a ha => ⟨(), ha.sub ⟨rfl, rfl, rfl, rfl, rfl, rfl, (by rw [hc88]; rfl), trivial⟩, rfl⟩
              · refine V_ge rfl rfl rfl hc88 ?_
                have h90 := El_cal_Special_0 h84
                refine V_y (Y_fieldAddr Try.underlying58 rfl Try.sizeOf3 (by decide) rfl) rfl rfl rfl ?_
                refine V_ge rfl rfl rfl hc88 ?_
                refine V_y (Y_load (El.int h90) Try.isAgg3 rfl) rfl rfl rfl ?_
                refine V_ge rfl rfl rfl hc88 ?_
                refine V_y (Y_gtr rfl rfl) rfl rfl rfl ?_
                refine V_y (Y_pick_fe rfl hc88 rfl) rfl rfl rfl ?_
                exact V_end fun a ha => ⟨(), ha.sub ⟨rfl, rfl, rfl, rfl, rfl, rfl, (by rw [hc88]; rfl), trivial⟩, rfl⟩
            simp only [List.take, List.drop]
            rintro _ _ rfl
            refine V_y (Y_assign rfl) rfl rfl rfl ?_
            refine V_to (fun _ _ => rfl) ?_
            refine C_cond rfl (fun hc91 => ?_) (fun hc91 => ?_)
            · rw [if_pos hc91] at h61
              refine C_seq ?_
              refine C_region ?_
              refine V_y (Y_assign rfl) rfl rfl rfl ?_
              refine V_to (fun _ _ => rfl) ?_
              obtain rfl := Option.some.inj h61
              obtain rfl := (h62 : Lp.rt _ = _)
              rw [Lp.andThen_rt] at hm
              obtain rfl := Option.some.inj hm
              refine C_ret ?_
              try simp only [↓inBlock_ret, ↓then_ret]
              exact retQ rfl (Res.one Try.results15 rfl) ⟨rfl, hK.kp⟩
            · rw [if_neg (nt hc91)] at h61
              refine C_seq ?_
              refine C_region_q (Dw := Dw) Try_mixed (by kernel_rfl) ?_
              refine VQ_y (fun w' hw' => Y_move rfl) rfl rfl rfl ?_
              refine VQ_y (fun w' hw' => Y_gtr rfl rfl) rfl rfl rfl ?_
              refine VQ_y (fun w' hw' => Y_move rfl) rfl rfl rfl ?_
              obtain ⟨s93, hs93, h61⟩ := Option.bind_eq_some_iff.1 h61
              refine VQ_cut 11 (fun _ : Unit => [(1, .pointer (some ⟨b7, 0, none⟩)), (6, .pointer (some ⟨b76, 0, none⟩)), (31, v44), (32, .int .i64 (c.specials.length : Int)), (33, .int .i64 (k50 : Int)), (61, .bool s93)]) (fun _ => True) ?_ ?_
              · simp only [List.take, List.drop]
                rcases Bool.eq_false_or_eq_true (decide ((0 : Int) < (k50 : Int))) with hc92 | hc92
                · rw [if_pos hc92] at hs93
                  refine VQ_ge rfl rfl rfl hc92 ?_
                  have h94 := El_cal_Special_0 h84
                  refine VQ_y (fun w' hw' => Y_fieldAddr Try.underlying58 rfl Try.sizeOf3 (by decide) rfl) rfl rfl rfl ?_
                  refine VQ_ge rfl rfl rfl hc92 ?_
                  refine VQ_y (fun w' hw' => Y_load (El.int (El.kp (Dw := Dw) h94 hw')) Try.isAgg3 rfl) rfl rfl rfl ?_
                  refine VQ_ge rfl rfl rfl hc92 ?_
                  have h95 := El_cal_Calendar_2 h11
                  refine VQ_y (fun w' hw' => Y_fieldAddr Try.underlying37 rfl Try.sizeOf35 (by decide) rfl) rfl rfl rfl ?_
                  refine VQ_ge rfl rfl rfl hc92 ?_
                  obtain ⟨v96, h97, h98⟩ := El.list h95
                  refine VQ_y (fun w' hw' => Y_load ((World.cell?_of_block (hw'.block _ (World.block_lt_of_cell? _ _ h97))).trans h97) Try.isAgg35 rfl) rfl rfl rfl ?_
                  refine VQ_ge rfl rfl rfl hc92 ?_
                  refine VQ_y (fun w' hw' => Y_move rfl) rfl rfl rfl ?_
                  refine VQ_ge rfl rfl rfl hc92 ?_
                  refine VQ_y (fun w' hw' => Y_subI rfl rfl) rfl rfl rfl ?_
                  refine VQ_ge rfl rfl rfl hc92 ?_
                  obtain ⟨x99, hx99, hs93⟩ := Option.bind_eq_some_iff.1 hs93
                  refine VQ_indexAddr h98 hx99 Try.underlying35 Try.sizeOf58 rfl rfl rfl ?_
                  intro b100 o101 h102
                  refine VQ_ge rfl rfl rfl hc92 ?_
                  have h103 := El_cal_Special_0 h102
                  refine VQ_y (fun w' hw' => Y_fieldAddr Try.underlying58 rfl Try.sizeOf3 (by decide) rfl) rfl rfl rfl ?_
                  refine VQ_ge rfl rfl rfl hc92 ?_
                  refine VQ_y (fun w' hw' => Y_load (El.int (El.kp (Dw := Dw) h103 hw')) Try.isAgg3 rfl) rfl rfl rfl ?_
                  refine VQ_ge rfl rfl rfl hc92 ?_
                  refine VQ_y (fun w' hw' => Y_leq rfl rfl) rfl rfl rfl ?_
                  refine VQ_y (fun _ _ => Y_pick_te rfl hc92 rfl) rfl rfl rfl ?_
                  obtain rfl := Option.some.inj hs93
                  exact VQ_end fun a ha => ⟨(), ha.sub ⟨rfl, rfl, rfl, rfl, rfl, rfl, trivial⟩, trivial⟩
                · rw [if_neg (nt hc92)] at hs93
                  refine VQ_gn rfl rfl rfl hc92 rfl rfl rfl ?_
                  refine VQ_gn rfl rfl rfl hc92 rfl rfl rfl ?_
                  refine VQ_gn rfl rfl rfl hc92 rfl rfl rfl ?_
                  refine VQ_gn rfl rfl rfl hc92 rfl rfl rfl ?_
                  refine VQ_gn rfl rfl rfl hc92 rfl rfl rfl ?_
                  refine VQ_gn rfl rfl rfl hc92 rfl rfl rfl ?_
                  refine VQ_gn rfl rfl rfl hc92 rfl rfl rfl ?_
                  refine VQ_gn rfl rfl rfl hc92 rfl rfl rfl ?_
                  refine VQ_gn rfl rfl rfl hc92 rfl rfl rfl ?_
                  refine VQ_gn rfl rfl rfl hc92 rfl rfl rfl ?_
                  refine VQ_y (fun _ _ => Y_pick_fe rfl hc92 rfl) rfl rfl rfl ?_
                  obtain rfl := Option.some.inj hs93
                  exact VQ_end fun a ha => ⟨(), ha.sub ⟨rfl, rfl, rfl, rfl, rfl, rfl, trivial⟩, trivial⟩
              simp only [List.take, List.drop]
              rintro _ _
              refine VQ_y (fun w' hw' => Y_assign rfl) rfl rfl rfl ?_
              refine VQ_to (fun _ _ => rfl) (fun w104 hk105 => ?_)
              have ht106 := Kp.tr (Dw := Dw) hk105 hA hB
              replace hH := Hp.kp (Dw := Dw) hH hk105
              replace h11 := El.tr (Dw := Dw) h11 ht106
              replace h46 := Sl.tr (Dw := Dw) h46 ht106
              replace h84 := El.tr (Dw := Dw) h84 ht106
              replace hK := Tr.trans (Dw := Dw) hK ht106
              replace hr49 := Tr.trans (Dw := Dw) hr49 ht106
              replace hB := Nat.le_trans hB ht106.ex.size
              replace hA := ht106.new
              refine C_cond rfl (fun hc107 => ?_) (fun hc107 => ?_)
              · rw [if_pos hc107] at h61
                refine C_seq ?_
                refine C_region ?_
                refine V_y (Y_assign rfl) rfl rfl rfl ?_
                refine V_to (fun _ _ => rfl) ?_
                obtain rfl := Option.some.inj h61
                obtain rfl := (h62 : Lp.rt _ = _)
                rw [Lp.andThen_rt] at hm
                obtain rfl := Option.some.inj hm
                refine C_ret ?_
                try simp only [↓inBlock_ret, ↓then_ret]
                exact retQ rfl (Res.one Try.results15 rfl) ⟨rfl, hK.kp⟩
              · rw [if_neg (nt hc107)] at h61
                refine C_seq ?_
                refine C_region ?_
                have h108 := El_cal_Special_1 h84
                refine V_y (Y_fieldAddr Try.underlying58 rfl Try.sizeOf34 (by decide) rfl) rfl rfl rfl ?_
                obtain ⟨v109, h110, h111⟩ := El.list h108
                refine V_y (Y_load h110 Try.isAgg34 rfl) rfl rfl rfl ?_
                refine V_y (Y_lenSl h111 rfl Try.underlying34 rfl) rfl rfl rfl ?_
                refine V_y (Y_gtr rfl rfl) rfl rfl rfl ?_
                refine V_y (Y_assign rfl) rfl rfl rfl ?_
                refine V_to (fun _ _ => rfl) ?_
                refine C_cond rfl (fun hc112 => ?_) (fun hc112 => ?_)
                · rw [if_pos hc112] at h61
                  refine C_seq ?_
                  refine C_region ?_
                  refine V_y (Y_assign rfl) rfl rfl rfl ?_
                  refine V_to (fun _ _ => rfl) ?_
                  obtain rfl := Option.some.inj h61
                  obtain rfl := (h62 : Lp.rt _ = _)
                  rw [Lp.andThen_rt] at hm
                  obtain rfl := Option.some.inj hm
                  refine C_ret ?_
                  try simp only [↓inBlock_ret, ↓then_ret]
                  exact retQ rfl (Res.one Try.results15 rfl) ⟨rfl, hK.kp⟩
                · rw [if_neg (nt hc112)] at h61
                  refine C_skip_to (fun _ _ => rfl) ?_
                  refine C_seq ?_
                  refine C_region ?_
                  have h113 := El_cal_Special_1 h84
                  refine V_y (Y_fieldAddr Try.underlying58 rfl Try.sizeOf34 (by decide) rfl) rfl rfl rfl ?_
                  obtain ⟨v114, h115, h116⟩ := El.list h113
                  refine V_y (Y_load h115 Try.isAgg34 rfl) rfl rfl rfl ?_
                  obtain ⟨x117, hx117, h61⟩ := Option.bind_eq_some_iff.1 h61
                  refine V_call Try.call29 rfl rfl rfl rfl (portref2_shiftFault_c (Dw := Dw) w104 hA x69.shifts v114 h116 false hx117) ?_
                  rintro _ w118 ⟨rfl, hk119⟩
                  have ht120 := Kp.tr (Dw := Dw) hk119 hA hB
                  replace hH := Hp.kp (Dw := Dw) hH hk119
                  replace h11 := El.tr (Dw := Dw) h11 ht120
                  replace h46 := Sl.tr (Dw := Dw) h46 ht120
                  replace h84 := El.tr (Dw := Dw) h84 ht120
                  replace h113 := El.tr (Dw := Dw) h113 ht120
                  replace h116 := Sl.tr (Dw := Dw) h116 ht120
                  replace hK := Tr.trans (Dw := Dw) hK ht120
                  replace hr49 := Tr.trans (Dw := Dw) hr49 ht120
                  replace hB := Nat.le_trans hB ht120.ex.size
                  replace hA := ht120.new
                  refine V_y (Y_assign rfl) rfl rfl rfl ?_
                  refine V_to (fun _ _ => rfl) ?_
                  refine C_seq ?_
                  refine C_region ?_
                  refine V_y (Y_move rfl) rfl rfl rfl ?_
                  refine V_y (Y_neq rfl rfl) rfl rfl rfl ?_
                  refine V_to (fun _ _ => rfl) ?_
                  refine C_cond rfl (fun hc121 => ?_) (fun hc121 => ?_)
                  · rw [if_pos hc121] at h61
                    refine C_seq ?_
                    refine C_region ?_
                    refine V_y (Y_move rfl) rfl rfl rfl ?_
                    refine V_y (Y_assign rfl) rfl rfl rfl ?_
                    refine V_to (fun _ _ => rfl) ?_
                    obtain rfl := Option.some.inj h61
                    obtain rfl := (h62 : Lp.rt _ = _)
                    rw [Lp.andThen_rt] at hm
                    obtain rfl := Option.some.inj hm
                    refine C_ret ?_
                    try simp only [↓inBlock_ret, ↓then_ret]
                    exact retQ rfl (Res.one Try.results15 rfl) ⟨rfl, hK.kp⟩
                  · rw [if_neg (nt hc121)] at h61
                    refine C_skip_to (fun _ _ => rfl) ?_
                    refine C_region ?_
                    refine V_y (Y_addI rfl rfl) rfl rfl rfl ?_
                    refine V_y (Y_move rfl) rfl rfl rfl ?_
                    obtain rfl := Option.some.inj h61
                    refine V_end (fun a ha122 => ?_)
                    exact ⟨(), hlt64, h62, ⟨A58, ha122.sub ⟨rfl, rfl, rfl, (congrArg (fun z => some (Value.int .i64 z)) (w64_succ hlt64 hn67)), trivial⟩, ⟨hH, hr49⟩⟩⟩
          · refine C_exit (fun a ha123 => ?_)
            exact ⟨((), A58), ha123.sub trivial, ⟨(h65 (eq_of_dec hle63 hc68)).symm, hH, hr49⟩⟩
        rintro ⟨s48, A54⟩ w51 ⟨rfl, hH55, hk52⟩ a ha53
        rw [Lp.andThen_fin] at hm
        replace hK := Tr.trans (Dw := Dw) hK hk52
        replace hB := Nat.le_trans hB hk52.ex.size
        replace hA := hk52.new
        replace hH : Hp w.heap.size A54 w51 ([]) := hH55
        refine C_at (n := ⟨74, [], none⟩) (fun _ _ => rfl) ?_ ha53
        refine C_seq ?_
        refine C_region ?_
        refine V_y (Y_assign rfl) rfl rfl rfl ?_
        refine V_to (fun _ _ => rfl) ?_
        obtain rfl := Option.some.inj hm
        refine C_ret ?_
        try simp only [↓inBlock_ret, ↓then_ret]
        exact retQ rfl (Res.one Try.results15 rfl) ⟨rfl, hK.kp⟩

set_option maxRecDepth 4000 in
set_option maxHeartbeats 4000000 in
theorem portref2_floorDiv_c (w : World) {A : Nat → Prop} (hA : ∀ b, w.heap.size ≤ b → A b) (a_ : Int) (b : Int) {r : (Int × Int)} (hm : portref2_floorDiv a_ b = some r) : Ret Try.prog 45 #[.int .i64 a_, .int .i64 b] w fun v w' => v = .tuple #[.int .i64 r.1, .int .i64 r.2] ∧ Kp Dw w w' := by
  unfold portref2_floorDiv at hm
  refine enter Try.func45 rfl Try.ntmps45 rfl ?_
  have hA0 := hA
  have hB := Nat.le_refl w.heap.size
  have hK : Tr Dw w.heap.size A w A w := Tr.refl (Dw := Dw) hA
  have hH : Hp w.heap.size A w [] := Hp.nil
  refine C_seq ?_
  refine C_region ?_
  refine V_y (Y_assign rfl) rfl rfl rfl ?_
  refine V_y (Y_assign rfl) rfl rfl rfl ?_
  refine V_to (fun _ _ => rfl) ?_
  refine C_seq ?_
  refine C_region_q (Dw := Dw) Try_mixed (by kernel_rfl) ?_
  refine VQ_y (fun w' hw' => Y_move rfl) rfl rfl rfl ?_
  refine VQ_y (fun w' hw' => Y_move rfl) rfl rfl rfl ?_
  obtain ⟨x1, hx1, hm⟩ := Option.bind_eq_some_iff.1 hm
  refine VQ_y (fun w' hw' => Y_quo hx1 rfl rfl) rfl rfl rfl ?_
  refine VQ_y (fun w' hw' => Y_move rfl) rfl rfl rfl ?_
  refine VQ_y (fun w' hw' => Y_move rfl) rfl rfl rfl ?_
  obtain ⟨x2, hx2, hm⟩ := Option.bind_eq_some_iff.1 hm
  refine VQ_y (fun w' hw' => Y_rem hx2 rfl rfl) rfl rfl rfl ?_
  refine VQ_y (fun w' hw' => Y_assign rfl) rfl rfl rfl ?_
  refine VQ_y (fun w' hw' => Y_assign rfl) rfl rfl rfl ?_
  refine VQ_to (fun _ _ => rfl) (fun w3 hk4 => ?_)
  have ht5 := Kp.tr (Dw := Dw) hk4 hA hB
  replace hH := Hp.kp (Dw := Dw) hH hk4
  replace hK := Tr.trans (Dw := Dw) hK ht5
  replace hB := Nat.le_trans hB ht5.ex.size
  replace hA := ht5.new
  refine C_seq ?_
  refine C_seq ?_
  refine C_region ?_
  refine V_y (Y_move rfl) rfl rfl rfl ?_
  refine V_y (Y_lss rfl rfl) rfl rfl rfl ?_
  refine V_to (fun _ _ => rfl) ?_
  obtain ⟨s7, ho6, hm⟩ := Option.bind_eq_some_iff.1 hm
  refine C_cutG (ι := Unit) (fun (_ : Unit) => [(6, .int .i64 s7.1), (7, .int .i64 s7.2)]) (fun (_ : Unit) => fun w' => w3 = w') ?_ ?_
  · refine C_cond rfl (fun hc12 => ?_) (fun hc12 => ?_)
    · rw [if_pos hc12] at ho6
      refine C_region ?_
      refine V_y (Y_move rfl) rfl rfl rfl ?_
      refine V_y (Y_subI rfl rfl) rfl rfl rfl ?_
      refine V_y (Y_move rfl) rfl rfl rfl ?_
      refine V_y (Y_move rfl) rfl rfl rfl ?_
      refine V_y (Y_addI rfl rfl) rfl rfl rfl ?_
      refine V_y (Y_assign rfl) rfl rfl rfl ?_
      refine V_y (Y_assign rfl) rfl rfl rfl ?_
      obtain rfl := Option.some.inj ho6
      refine V_end (fun a ha13 => ?_)
      exact ⟨(), ha13.sub ⟨rfl, rfl, trivial⟩, rfl⟩
    · rw [if_neg (nt hc12)] at ho6
      obtain rfl := Option.some.inj ho6
      refine C_skip (fun a ha14 => ?_)
      exact ⟨(), ha14.sub ⟨rfl, rfl, trivial⟩, rfl⟩
  rintro _ _ rfl a ha11
  refine C_at (n := ⟨23, [], none⟩) (fun _ _ => rfl) ?_ ha11
  refine C_seq ?_
  refine C_region ?_
  refine V_y (Y_move rfl) rfl rfl rfl ?_
  refine V_y (Y_move rfl) rfl rfl rfl ?_
  refine V_y (Y_assign rfl) rfl rfl rfl ?_
  refine V_y (Y_assign rfl) rfl rfl rfl ?_
  refine V_to (fun _ _ => rfl) ?_
  obtain rfl := Option.some.inj hm
  refine C_ret ?_
  try simp only [↓inBlock_ret, ↓then_ret]
  exact retQ rfl (Res.two Try.results45 rfl rfl) ⟨rfl, hK.kp⟩

set_option maxRecDepth 4000 in
set_option maxHeartbeats 4000000 in
theorem portref2_ShiftsIn_c (w : World) {A : Nat → Prop} (hA : ∀ b, w.heap.size ≤ b → A b) (c : cal_Calendar) (v_c0 : Value) (h_c0 : Sl A w v_c0 c.zone.changes) (v_c1 : Value) (h_c1 : Sl A w v_c1 c.week) (v_c2 : Value) (h_c2 : Sl A w v_c2 c.specials) (day : Int) {r : (List cal_Shift)} (hm : portref2_ShiftsIn c day = some r) : Ret Try.prog 47 #[.agg #[.int .i64 c.zone.offset, v_c0, v_c1, v_c2], .int .i64 day] w fun v w' => ∃ s0, v = s0 ∧ Sl A w' s0 r ∧ Kp Dw w w' := by
  unfold portref2_ShiftsIn at hm
  refine enter Try.func47 rfl Try.ntmps47 rfl ?_
  have hA0 := hA
  have hB := Nat.le_refl w.heap.size
  have hK : Tr Dw w.heap.size A w A w := Tr.refl (Dw := Dw) hA
  have hH : Hp w.heap.size A w [] := Hp.nil
  refine C_seq ?_
  refine C_region ?_
  refine V_box rfl rfl ?_
  intro b7 w9 h10
  have hk12 := h10.kp (Dw := Dw)
  have h11 : El (α := cal_Calendar) A w9 b7 0 c := h10.el hA ⟨[.int .i64 c.zone.offset, v_c0], _, rfl, ⟨[.int .i64 c.zone.offset], _, rfl, rfl, ⟨_, rfl, h_c0⟩⟩, ⟨[v_c1], _, rfl, ⟨_, rfl, h_c1⟩, ⟨_, rfl, h_c2⟩⟩⟩
  have ht13 := Kp.tr (Dw := Dw) hk12 hA hB
  replace hH := Hp.kp (Dw := Dw) hH hk12
  replace h_c0 := Sl.tr (Dw := Dw) h_c0 ht13
  replace h_c1 := Sl.tr (Dw := Dw) h_c1 ht13
  replace h_c2 := Sl.tr (Dw := Dw) h_c2 ht13
  replace hK := Tr.trans (Dw := Dw) hK ht13
  replace hB := Nat.le_trans hB ht13.ex.size
  replace hA := ht13.new
  refine V_y (Y_assign rfl) rfl rfl rfl ?_
  refine V_to (fun _ _ => rfl) ?_
  refine C_seq ?_
  refine C_seq ?_
  refine C_region ?_
  have h14 := El_cal_Calendar_2 h11
  refine V_y (Y_fieldAddr Try.underlying37 rfl Try.sizeOf35 (by decide) rfl) rfl rfl rfl ?_
  obtain ⟨v15, h16, h17⟩ := El.list h14
  refine V_y (Y_load h16 Try.isAgg35 rfl) rfl rfl rfl ?_
  refine V_y (Y_lenSl h17 rfl Try.underlying35 rfl) rfl rfl rfl ?_
  refine V_y (Y_move rfl) rfl rfl rfl ?_
  refine V_to (fun _ _ => rfl) ?_
  have hn38 := Sl.le h17
  obtain ⟨o18, ho18, hm⟩ := Option.bind_eq_some_iff.1 hm
  refine C_cutG (ι := (Unit × (Nat → Prop))) (fun ⟨s19, A25⟩ => [(1, .int .i64 day), (2, .pointer (some ⟨b7, 0, none⟩))]) (fun ⟨s19, A25⟩ => fun w' => o18 = .fin s19 ∧ Hp w.heap.size A25 w' ([]) ∧ Tr Dw w.heap.size A w9 A25 w') ?_ ?_
  · refine C_block ?_
    refine C_range ho18 (fun k21 _ a w' => ∃ i : (Nat → Prop), Has ⟨52, [], none⟩ a ([(1, .int .i64 day), (2, .pointer (some ⟨b7, 0, none⟩)), (13, v15), (14, .int .i64 (c.specials.length : Int)), (15, .int .i64 (k21 : Int))]) ∧ Hp w.heap.size i w' ([]) ∧ Tr Dw w.heap.size A w9 i w') (fun a ha => ⟨A, ha.sub ⟨rfl, rfl, rfl, rfl, rfl, trivial⟩, ⟨hH, Tr.refl (Dw := Dw) hA⟩⟩) ?_
    rintro K k21 _ a w28 ⟨A29, ha66, hH30, hr20⟩ hle34 K37 h36
    refine C_of ?_ ha66
    replace h11 := El.tr (Dw := Dw) h11 hr20
    replace h17 := Sl.tr (Dw := Dw) h17 hr20
    replace hK := Tr.trans (Dw := Dw) hK hr20
    replace hB := Nat.le_trans hB hr20.ex.size
    replace hA := hr20.new
    replace hH : Hp w.heap.size A29 w28 ([]) := hH30
    refine C_seq (C_region (V_y (Y_lss rfl rfl) rfl rfl rfl (V_to (fun _ _ => rfl) ?_)))
    refine C_seq ?_
    refine C_cond rfl (fun hc39 => ?_) (fun hc39 => ?_)
    · have hlt35 := lt_of_dec hc39
      obtain ⟨x31, h32, h33⟩ := K37 hlt35
      refine C_skip_to (fun _ _ => rfl) ?_
      refine C_seq ?_
      refine C_block ?_
      refine C_seq ?_
      refine C_region ?_
      obtain ⟨x40, hx40, h32⟩ := Option.bind_eq_some_iff.1 h32
      refine V_indexAddr h17 hx40 Try.underlying35 Try.sizeOf58 rfl rfl rfl ?_
      intro b41 o42 h43
      obtain ⟨v44, h46, h45⟩ := El_cal_Special h43
      refine V_y (Y_loadA h46 Try.isAgg58 Try.sizeOf58 rfl) rfl rfl rfl ?_
      refine V_alloc Try.zeroValue58 rfl ?_
      intro b47 w48 h49
      have h54 : (v44).oneCell' = true := by obtain ⟨_, _, e, _⟩ := Sl.form h45; rw [e]; rfl
      refine V_storeNew h49 Try.sizeOf58 rfl rfl rfl rfl (by exact (List.forall_mem_cons.2 ⟨rfl, (List.forall_mem_cons.2 ⟨h54, (fun _ h => nomatch h)⟩)⟩)) ?_
      intro w50 h51
      have hk56 := h51.kp (Dw := Dw)
      have h55 : El (α := cal_Special) A29 w50 b47 0 x40 := h51.el hA ⟨[.int .i64 x40.day], _, rfl, rfl, ⟨_, rfl, h45⟩⟩
      have ht57 := Kp.tr (Dw := Dw) hk56 hA hB
      replace hH := Hp.kp (Dw := Dw) hH hk56
      replace h11 := El.tr (Dw := Dw) h11 ht57
      replace h17 := Sl.tr (Dw := Dw) h17 ht57
      replace h43 := El.tr (Dw := Dw) h43 ht57
      replace h45 := Sl.tr (Dw := Dw) h45 ht57
      replace hK := Tr.trans (Dw := Dw) hK ht57
      replace hr20 := Tr.trans (Dw := Dw) hr20 ht57
      replace hB := Nat.le_trans hB ht57.ex.size
      replace hA := ht57.new
      refine V_to (fun _ _ => rfl) ?_
      refine C_seq ?_
      refine C_region ?_
      have h58 := El_cal_Special_0 h55
      refine V_y (Y_fieldAddr Try.underlying58 rfl Try.sizeOf3 (by decide) rfl) rfl rfl rfl ?_
      refine V_y (Y_load (El.int h58) Try.isAgg3 rfl) rfl rfl rfl ?_
      refine V_y (Y_move rfl) rfl rfl rfl ?_
      refine V_y (Y_eql rfl rfl) rfl rfl rfl ?_
      refine V_to (fun _ _ => rfl) ?_
      refine C_cond rfl (fun hc59 => ?_) (fun hc59 => ?_)
      · rw [if_pos hc59] at h32
        refine C_seq ?_
        refine C_region ?_
        have h60 := El_cal_Special_1 h55
        refine V_y (Y_fieldAddr Try.underlying58 rfl Try.sizeOf34 (by decide) rfl) rfl rfl rfl ?_
        obtain ⟨v61, h62, h63⟩ := El.list h60
        refine V_y (Y_load h62 Try.isAgg34 rfl) rfl rfl rfl ?_
        refine V_y (Y_assign rfl) rfl rfl rfl ?_
        refine V_to (fun _ _ => rfl) ?_
        obtain rfl := Option.some.inj h32
        obtain rfl := (h33 : Lp.rt _ = _)
        rw [Lp.andThen_rt] at hm
        obtain rfl := Option.some.inj hm
        refine C_ret ?_
        try simp only [↓inBlock_ret, ↓then_ret]
        exact retQ rfl (Res.one Try.results47 rfl) ⟨v61, rfl, (Sl.out (Dw := Dw) h63 hA0 hK), hK.kp⟩
      · rw [if_neg (nt hc59)] at h32
        refine C_skip_to (fun _ _ => rfl) ?_
        refine C_region ?_
        refine V_y (Y_addI rfl rfl) rfl rfl rfl ?_
        refine V_y (Y_move rfl) rfl rfl rfl ?_
        obtain rfl := Option.some.inj h32
        refine V_end (fun a ha64 => ?_)
        exact ⟨(), hlt35, h33, ⟨A29, ha64.sub ⟨rfl, rfl, rfl, rfl, (congrArg (fun z => some (Value.int .i64 z)) (w64_succ hlt35 hn38)), trivial⟩, ⟨hH, hr20⟩⟩⟩
    · refine C_exit (fun a ha65 => ?_)
      exact ⟨((), A29), ha65.sub ⟨rfl, rfl, trivial⟩, ⟨(h36 (eq_of_dec hle34 hc39)).symm, hH, hr20⟩⟩
  rintro ⟨s19, A25⟩ w22 ⟨rfl, hH26, hk23⟩ a ha24
  rw [Lp.andThen_fin] at hm
  replace h11 := El.tr (Dw := Dw) h11 hk23
  replace hK := Tr.trans (Dw := Dw) hK hk23
  replace hB := Nat.le_trans hB hk23.ex.size
  replace hA := hk23.new
  replace hH : Hp w.heap.size A25 w22 ([]) := hH26
  refine C_at (n := ⟨52, [], none⟩) (fun _ _ => rfl) ?_ ha24
  refine C_seq ?_
  refine C_region ?_
  refine V_y (Y_assign rfl) rfl rfl rfl ?_
  refine V_to (fun _ _ => rfl) ?_
  refine C_seq ?_
  refine C_region ?_
  refine V_y (Y_move rfl) rfl rfl rfl ?_
  obtain ⟨x67, hx67, hm⟩ := Option.bind_eq_some_iff.1 hm
  refine V_call Try.call45 rfl rfl rfl rfl (portref2_floorDiv_c (Dw := Dw) w22 hA day 7 hx67) ?_
  rintro _ w68 ⟨rfl, hk69⟩
  have ht70 := Kp.tr (Dw := Dw) hk69 hA hB
  replace hH := Hp.kp (Dw := Dw) hH hk69
  replace h11 := El.tr (Dw := Dw) h11 ht70
  replace hK := Tr.trans (Dw := Dw) hK ht70
  replace hB := Nat.le_trans hB ht70.ex.size
  replace hA := ht70.new
  refine V_y (Y_move rfl) rfl rfl rfl ?_
  refine V_y (Y_extract rfl rfl) rfl rfl rfl ?_
  refine V_y (Y_extract rfl rfl) rfl rfl rfl ?_
  refine V_y (Y_assign rfl) rfl rfl rfl ?_
  refine V_y (Y_assign rfl) rfl rfl rfl ?_
  refine V_to (fun _ _ => rfl) ?_
  refine C_seq ?_
  refine C_seq ?_
  refine C_region ?_
  have h71 := El_cal_Calendar_1 h11
  refine V_y (Y_fieldAddr Try.underlying37 rfl Try.sizeOf34 (by decide) rfl) rfl rfl rfl ?_
  obtain ⟨v72, h73, h74⟩ := El.list h71
  refine V_y (Y_load h73 Try.isAgg34 rfl) rfl rfl rfl ?_
  refine V_y (Y_lenSl h74 rfl Try.underlying34 rfl) rfl rfl rfl ?_
  refine V_y (Y_move rfl) rfl rfl rfl ?_
  refine V_to (fun _ _ => rfl) ?_
  replace hH : Hp w.heap.size A25 w68 (obS (α := cal_Shift) 73 (.slice none 0 0) ([] : (List cal_Shift)) :: []) := Hp.addNil (α := cal_Shift) (e := 73) hH
  have hn99 := Sl.le h74
  obtain ⟨o75, ho75, hm⟩ := Option.bind_eq_some_iff.1 hm
  refine C_cutG (ι := ((List cal_Shift) × Value × (Nat → Prop))) (fun ⟨s76, v82, A84⟩ => [(7, v82)]) (fun ⟨s76, v82, A84⟩ => fun w' => o75 = .fin s76 ∧ Hp w.heap.size A84 w' (obS (α := cal_Shift) 73 v82 s76 :: []) ∧ Tr Dw w.heap.size A25 w68 A84 w') ?_ ?_
  · refine C_block ?_
    refine C_range ho75 (fun k78 s86 a w' => ∃ i : (Value × (Nat → Prop)), Has ⟨52, [], none⟩ a ([(7, i.1), (9, .int .i64 x67.2), (32, v72), (33, .int .i64 (c.week.length : Int)), (34, .int .i64 (k78 : Int))]) ∧ Hp w.heap.size i.2 w' (obS (α := cal_Shift) 73 i.1 s86 :: []) ∧ Tr Dw w.heap.size A25 w68 i.2 w') (fun a ha => ⟨(.slice none 0 0, A25), ha.sub ⟨rfl, rfl, rfl, rfl, rfl, trivial⟩, ⟨hH, Tr.refl (Dw := Dw) hA⟩⟩) ?_
    rintro K k78 s86 a w87 ⟨⟨v88, A90⟩, ha154, hH91, hr77⟩ hle95 K98 h97
    refine C_of ?_ ha154
    replace h74 := Sl.tr (Dw := Dw) h74 hr77
    replace hK := Tr.trans (Dw := Dw) hK hr77
    replace hB := Nat.le_trans hB hr77.ex.size
    replace hA := hr77.new
    replace hH : Hp w.heap.size A90 w87 (obS (α := cal_Shift) 73 v88 s86 :: []) := hH91
    refine C_seq (C_region (V_y (Y_lss rfl rfl) rfl rfl rfl (V_to (fun _ _ => rfl) ?_)))
    refine C_seq ?_
    refine C_cond rfl (fun hc100 => ?_) (fun hc100 => ?_)
    · have hlt96 := lt_of_dec hc100
      obtain ⟨x92, h93, h94⟩ := K98 hlt96
      refine C_skip_to (fun _ _ => rfl) ?_
      refine C_seq ?_
      obtain ⟨s102, ho101, h93⟩ := Option.bind_eq_some_iff.1 h93
      refine C_cutG (ι := (Value × (Nat → Prop))) (fun ⟨v104, A109⟩ => [(7, v104), (9, .int .i64 x67.2), (32, v72), (33, .int .i64 (c.week.length : Int)), (34, .int .i64 (k78 : Int))]) (fun ⟨v104, A109⟩ => fun w' => Hp w.heap.size A109 w' (obS (α := cal_Shift) 73 v104 s102 :: []) ∧ Tr Dw w.heap.size A90 w87 A109 w') ?_ ?_
      · have hr103 : Tr Dw w.heap.size A90 w87 A90 w87 := Tr.refl (Dw := Dw) hA
        refine C_block ?_
        refine C_seq ?_
        refine C_region ?_
        obtain ⟨x111, hx111, ho101⟩ := Option.bind_eq_some_iff.1 ho101
        refine V_indexAddr h74 hx111 Try.underlying34 Try.sizeOf73 rfl rfl rfl ?_
        intro b112 o113 h114
        obtain ⟨h115, _⟩ := El_cal_Shift h114
        refine V_y (Y_loadA h115 Try.isAgg73 Try.sizeOf73 rfl) rfl rfl rfl ?_
        refine V_alloc Try.zeroValue73 rfl ?_
        intro b116 w117 h118
        refine V_storeNew h118 Try.sizeOf73 rfl rfl rfl rfl (by exact (List.forall_mem_cons.2 ⟨rfl, (List.forall_mem_cons.2 ⟨rfl, (List.forall_mem_cons.2 ⟨rfl, (fun _ h => nomatch h)⟩)⟩)⟩)) ?_
        intro w119 h120
        have hk122 := h120.kp (Dw := Dw)
        have h121 : El (α := cal_Shift) A90 w119 b116 0 x111 := h120.el hA ⟨[.int .i64 x111.day], _, rfl, rfl, ⟨[.int .i64 x111.from_], _, rfl, rfl, rfl⟩⟩
        have ht123 := Kp.tr (Dw := Dw) hk122 hA hB
        replace hH := Hp.kp (Dw := Dw) hH hk122
        replace h74 := Sl.tr (Dw := Dw) h74 ht123
        replace h114 := El.tr (Dw := Dw) h114 ht123
        replace hK := Tr.trans (Dw := Dw) hK ht123
        replace hr77 := Tr.trans (Dw := Dw) hr77 ht123
        replace hr103 := Tr.trans (Dw := Dw) hr103 ht123
        replace hB := Nat.le_trans hB ht123.ex.size
        replace hA := ht123.new
        refine V_to (fun _ _ => rfl) ?_
        refine C_seq ?_
        refine C_region ?_
        have h124 := El_cal_Shift_0 h121
        refine V_y (Y_fieldAddr Try.underlying73 rfl Try.sizeOf3 (by decide) rfl) rfl rfl rfl ?_
        refine V_y (Y_load (El.int h124) Try.isAgg3 rfl) rfl rfl rfl ?_
        refine V_y (Y_move rfl) rfl rfl rfl ?_
        refine V_y (Y_eql rfl rfl) rfl rfl rfl ?_
        refine V_to (fun _ _ => rfl) ?_
        obtain ⟨s126, ho125, ho101⟩ := Option.bind_eq_some_iff.1 ho101
        refine C_cutG (ι := (Value × (Nat → Prop))) (fun ⟨v128, A133⟩ => [(7, v128), (9, .int .i64 x67.2), (32, v72), (33, .int .i64 (c.week.length : Int)), (34, .int .i64 (k78 : Int))]) (fun ⟨v128, A133⟩ => fun w' => Hp w.heap.size A133 w' (obS (α := cal_Shift) 73 v128 s126 :: []) ∧ Tr Dw w.heap.size A90 w119 A133 w') ?_ ?_
        · have hr127 : Tr Dw w.heap.size A90 w119 A90 w119 := Tr.refl (Dw := Dw) hA
          refine C_cond rfl (fun hc135 => ?_) (fun hc135 => ?_)
          · rw [if_pos hc135] at ho125
            refine C_region ?_
            refine V_y (Y_move rfl) rfl rfl rfl ?_
            have h136 := El_cal_Shift_1 h121
            refine V_y (Y_fieldAddr Try.underlying73 rfl Try.sizeOf3 (by decide) rfl) rfl rfl rfl ?_
            refine V_y (Y_load (El.int h136) Try.isAgg3 rfl) rfl rfl rfl ?_
            have h137 := El_cal_Shift_2 h121
            refine V_y (Y_fieldAddr Try.underlying73 rfl Try.sizeOf3 (by decide) rfl) rfl rfl rfl ?_
            refine V_y (Y_load (El.int h137) Try.isAgg3 rfl) rfl rfl rfl ?_
            refine V_y (Y_build Try.underlying73 Try.zeroValue73 (Try_places73 _ Try.underlying73) rfl (by with_unfolding_all rfl)) rfl rfl rfl ?_
            refine V_buildSlice (Dw := Dw) (cells := #[.int .i64 0, .int .i64 x111.from_, .int .i64 x111.to_]) (l := ([(⟨0, x111.from_, x111.to_⟩ : cal_Shift)] : List cal_Shift)) (len := 1) Try.underlying34 Try.sizeOf73 Try.zeroValue73 rfl (by kernel_rfl) (show (1 * 3 : Nat) ≠ 0 by decide) (show (1 * 3 : Nat) ≤ 2 ^ 24 by decide) hA ⟨[.int .i64 0, .int .i64 x111.from_, .int .i64 x111.to_], _, rfl, ⟨[.int .i64 0], _, rfl, rfl, ⟨[.int .i64 x111.from_], _, rfl, rfl, rfl⟩⟩, rfl⟩ rfl rfl ?_
            intro v138 w139 hk141 h140
            have ht142 := Kp.tr (Dw := Dw) hk141 hA hB
            replace hH := Hp.kp (Dw := Dw) hH hk141
            replace h74 := Sl.tr (Dw := Dw) h74 ht142
            replace h121 := El.tr (Dw := Dw) h121 ht142
            replace h136 := El.tr (Dw := Dw) h136 ht142
            replace h137 := El.tr (Dw := Dw) h137 ht142
            replace hK := Tr.trans (Dw := Dw) hK ht142
            replace hr77 := Tr.trans (Dw := Dw) hr77 ht142
            replace hr103 := Tr.trans (Dw := Dw) hr103 ht142
            replace hr127 := Tr.trans (Dw := Dw) hr127 ht142
            replace hB := Nat.le_trans hB ht142.ex.size
            replace hA := ht142.new
            obtain ⟨x143, hx143, ho125⟩ := Option.bind_eq_some_iff.1 ho125
            refine V_appendH (Dw := Dw) (e := 73) (v := v88) (l := s86) (ti := Try.t73) (bytes := 24) (lim := 5864062014805) hH (i := 0) rfl h140 hx143 Try.underlying34 Try_info73 rfl rfl rfl rfl (by decide) (by decide) (by decide) hB hA rfl rfl rfl ?_
            intro v144 w145 A146 hH147 ht148
            replace h74 := Sl.tr (Dw := Dw) h74 ht148
            replace h121 := El.tr (Dw := Dw) h121 ht148
            replace h136 := El.tr (Dw := Dw) h136 ht148
            replace h137 := El.tr (Dw := Dw) h137 ht148
            replace h140 := Sl.tr (Dw := Dw) h140 ht148
            replace hK := Tr.trans (Dw := Dw) hK ht148
            replace hr77 := Tr.trans (Dw := Dw) hr77 ht148
            replace hr103 := Tr.trans (Dw := Dw) hr103 ht148
            replace hr127 := Tr.trans (Dw := Dw) hr127 ht148
            replace hB := Nat.le_trans hB ht148.ex.size
            replace hA := ht148.new
            replace hH : Hp w.heap.size A146 w145 (obS (α := cal_Shift) 73 v144 x143 :: []) := hH147
            refine V_y (Y_assign rfl) rfl rfl rfl ?_
            obtain rfl := Option.some.inj ho125
            refine V_end (fun a ha149 => ?_)
            exact ⟨(v144, A146), ha149.sub ⟨rfl, rfl, rfl, rfl, rfl, trivial⟩, ⟨hH, hr127⟩⟩
          · rw [if_neg (nt hc135)] at ho125
            obtain rfl := Option.some.inj ho125
            refine C_skip (fun a ha150 => ?_)
            exact ⟨(v88, A90), ha150.sub ⟨rfl, rfl, rfl, rfl, rfl, trivial⟩, ⟨hH, hr127⟩⟩
        rintro ⟨v128, A133⟩ w130 ⟨hH134, hk131⟩ a ha132
        replace h74 := Sl.tr (Dw := Dw) h74 hk131
        replace hK := Tr.trans (Dw := Dw) hK hk131
        replace hr77 := Tr.trans (Dw := Dw) hr77 hk131
        replace hr103 := Tr.trans (Dw := Dw) hr103 hk131
        replace hB := Nat.le_trans hB hk131.ex.size
        replace hA := hk131.new
        replace hH : Hp w.heap.size A133 w130 (obS (α := cal_Shift) 73 v128 s126 :: []) := hH134
        obtain rfl := Option.some.inj ho101
        exact ⟨(v128, A133), ha132.sub ⟨rfl, rfl, rfl, rfl, rfl, trivial⟩, ⟨hH, hr103⟩⟩
      rintro ⟨v104, A109⟩ w106 ⟨hH110, hk107⟩ a ha108
      replace h74 := Sl.tr (Dw := Dw) h74 hk107
      replace hK := Tr.trans (Dw := Dw) hK hk107
      replace hr77 := Tr.trans (Dw := Dw) hr77 hk107
      replace hB := Nat.le_trans hB hk107.ex.size
      replace hA := hk107.new
      replace hH : Hp w.heap.size A109 w106 (obS (α := cal_Shift) 73 v104 s102 :: []) := hH110
      refine C_at (n := ⟨52, [], none⟩) (fun _ _ => rfl) ?_ ha108
      refine C_region ?_
      refine V_y (Y_addI rfl rfl) rfl rfl rfl ?_
      refine V_y (Y_move rfl) rfl rfl rfl ?_
      obtain rfl := Option.some.inj h93
      refine V_end (fun a ha152 => ?_)
      exact ⟨s102, hlt96, h94, ⟨(v104, A109), ha152.sub ⟨rfl, rfl, rfl, rfl, (congrArg (fun z => some (Value.int .i64 z)) (w64_succ hlt96 hn99)), trivial⟩, ⟨hH, hr77⟩⟩⟩
    · refine C_exit (fun a ha153 => ?_)
      exact ⟨(s86, v88, A90), ha153.sub ⟨rfl, trivial⟩, ⟨(h97 (eq_of_dec hle95 hc100)).symm, hH, hr77⟩⟩
  rintro ⟨s76, v82, A84⟩ w79 ⟨rfl, hH85, hk80⟩ a ha81
  rw [Lp.andThen_fin] at hm
  replace hK := Tr.trans (Dw := Dw) hK hk80
  replace hB := Nat.le_trans hB hk80.ex.size
  replace hA := hk80.new
  replace hH : Hp w.heap.size A84 w79 (obS (α := cal_Shift) 73 v82 s76 :: []) := hH85
  refine C_at (n := ⟨52, [], none⟩) (fun _ _ => rfl) ?_ ha81
  refine C_seq ?_
  refine C_region ?_
  refine V_y (Y_move rfl) rfl rfl rfl ?_
  refine V_y (Y_assign rfl) rfl rfl rfl ?_
  refine V_to (fun _ _ => rfl) ?_
  obtain rfl := Option.some.inj hm
  obtain ⟨A155, ht156, h157, hH158⟩ := Hp.freeze (Dw := Dw) (α := cal_Shift) (v := v82) (l := s76) hH (i := 0) rfl hA
  replace hK := Tr.trans (Dw := Dw) hK ht156
  replace hB := Nat.le_trans hB ht156.ex.size
  replace hA := ht156.new
  replace hH : Hp w.heap.size A155 w79 ([]) := hH158
  refine C_ret ?_
  try simp only [↓inBlock_ret, ↓then_ret]
  exact retQ rfl (Res.one Try.results47 rfl) ⟨v82, rfl, (Sl.out (Dw := Dw) h157 hA0 hK), hK.kp⟩

set_option maxRecDepth 4000 in
set_option maxHeartbeats 4000000 in
theorem portref2_NewClock_c (w : World) {A : Nat → Prop} {B : Nat} (hB : B ≤ w.heap.size) (hA : ∀ b, w.heap.size ≤ b → A b) (c : cal_Calendar) (v0 : Value) (h0 : Sl A w v0 c.zone.changes) (v1 : Value) (h1 : Sl A w v1 c.week) (v2 : Value) (h2 : Sl A w v2 c.specials) {L : List Ob} (hH : Hp B A w L) {r : cal_Calendar} (hm : portref2_NewClock c = some r) : Ret Try.prog 16 #[.agg #[.int .i64 c.zone.offset, v0, v1, v2]] w fun v w' => ∃ b, ∃ A1 : Nat → Prop, v = .pointer (some ⟨b, 0, none⟩) ∧ Hp B A1 w' (obCk 68 portref2_ShiftsIn b r :: L) ∧ Tr Dw B A w A1 w' := by
  obtain rfl := Option.some.inj hm
  refine enter Try.func16 rfl Try.ntmps16 rfl ?_
  have hK : Tr Dw B A w A w := Tr.refl (Dw := Dw) hA
  refine C_seq ?_
  refine C_region ?_
  refine V_box rfl rfl ?_
  intro b1 w1 n1
  have e1 : El (α := cal_Calendar) A w1 b1 0 c := n1.el hA ⟨[.int .i64 c.zone.offset, v0], _, rfl, ⟨[.int .i64 c.zone.offset], _, rfl, rfl, ⟨_, rfl, h0⟩⟩, ⟨[v1], _, rfl, ⟨_, rfl, h1⟩, ⟨_, rfl, h2⟩⟩⟩
  have t1 := Kp.tr (Dw := Dw) n1.kp hA hB
  replace hH := Hp.kp (Dw := Dw) hH n1.kp
  replace hK := Tr.trans (Dw := Dw) hK t1
  replace hB := Nat.le_trans hB t1.ex.size
  replace hA := t1.new
  refine V_y (Y_assign rfl) rfl rfl rfl ?_
  refine V_to (fun _ _ => rfl) ?_
  refine C_seq ?_
  refine C_region ?_
  obtain ⟨_, _, cs, hr, hat⟩ := e1
  have hr0 := hr
  obtain ⟨u0, u1, u2, rfl, s0, s1, s2⟩ := Rep_cal_Calendar hr0
  refine V_y (Y_loadA hat Try.isAgg37 Try.sizeOf37 rfl) rfl rfl rfl ?_
  refine V_makeMapF (Dw := Dw) (portref2_ShiftsIn c) hH hB hA rfl ?_
  intro mb w2 A2 h2 t2
  replace hr := GoT.keep hr t2.ex
  replace hK := Tr.trans (Dw := Dw) hK t2
  replace hB := Nat.le_trans hB t2.ex.size
  replace hA := t2.new
  refine V_y (Y_build Try.underlying68 Try.zeroValue68 (Try_places68 _ Try.underlying68) rfl (by with_unfolding_all rfl)) rfl rfl rfl ?_
  refine V_boxH (Dw := Dw) h2 rfl hB hA rfl ?_
  intro b3 w3 A3 h3 t3
  replace hr := GoT.keep hr t3.ex
  replace hK := Tr.trans (Dw := Dw) hK t3
  refine V_y (Y_assign rfl) rfl rfl rfl ?_
  refine V_to (fun _ _ => rfl) ?_
  have h4 : Hp B A3 w3 (ckL 68 portref2_ShiftsIn b3 c (mb, [.int .i64 c.zone.offset, u0, u1, u2]) ++ L) := h3.free (O' := obF (fun A w => GoT.rep A w [.int .i64 c.zone.offset, u0, u1, u2] c) (fun h he => GoT.keep h he)) ⟨rfl, hr⟩
  refine C_ret ?_
  try simp only [↓inBlock_ret, ↓then_ret]
  exact retQ rfl (Res.one Try.results16 rfl) ⟨b3, A3, rfl, Hp.pack _ h4, hK⟩

set_option maxRecDepth 4000 in
set_option maxHeartbeats 4000000 in
theorem portref2_IsEnd_c (w : World) (m : Int) : Ret Try.prog 31 #[.int .i64 m] w fun v w' => v = .bool (portref2_IsEnd m) ∧ w = w' := by
  generalize hm : portref2_IsEnd m = r
  unfold portref2_IsEnd at hm
  refine enter Try.func31 rfl Try.ntmps31 rfl ?_
  refine C_seq ?_
  refine C_region ?_
  refine V_y (Y_assign rfl) rfl rfl rfl ?_
  refine V_to (fun _ _ => rfl) ?_
  refine C_seq ?_
  refine C_region ?_
  refine V_y (Y_move rfl) rfl rfl rfl ?_
  refine V_y (Y_geq rfl rfl) rfl rfl rfl ?_
  refine V_y (Y_move rfl) rfl rfl rfl ?_
  refine V_cut 3 (fun _ : Unit => [(8, .bool ((decide ((0 : Int) ≤ m)) && (decide (m ≤ 3000001))))]) (fun _ w' => w = w') ?_ ?_
  · simp only [List.take, List.drop]
    rcases Bool.eq_false_or_eq_true (decide ((0 : Int) ≤ m)) with hc1 | hc1
    · refine V_ge rfl rfl rfl hc1 ?_
      refine V_y (Y_move rfl) rfl rfl rfl ?_
      refine V_ge rfl rfl rfl hc1 ?_
      refine V_y (Y_leq rfl rfl) rfl rfl rfl ?_
      refine V_y (Y_pick_te rfl hc1 rfl) rfl rfl rfl ?_
      exact V_end fun a ha => ⟨(), ha.sub ⟨(by rw [hc1]; rfl), trivial⟩, rfl⟩
    · refine V_gn rfl rfl rfl hc1 rfl rfl rfl ?_
      refine V_gn rfl rfl rfl hc1 rfl rfl rfl ?_
      refine V_y (Y_pick_fe rfl hc1 rfl) rfl rfl rfl ?_
      exact V_end fun a ha => ⟨(), ha.sub ⟨(by rw [hc1]; rfl), trivial⟩, rfl⟩
  simp only [List.take, List.drop]
  rintro _ _ rfl
  refine V_y (Y_assign rfl) rfl rfl rfl ?_
  refine V_to (fun _ _ => rfl) ?_
  obtain rfl := hm
  refine C_ret ?_
  try simp only [↓inBlock_ret, ↓then_ret]
  exact retQ rfl (Res.one Try.results31 rfl) ⟨rfl, rfl⟩

set_option maxRecDepth 4000 in
set_option maxHeartbeats 4000000 in
theorem portref2_IsMoment_c (w : World) (m : Int) : Ret Try.prog 30 #[.int .i64 m] w fun v w' => v = .bool (portref2_IsMoment m) ∧ w = w' := by
  generalize hm : portref2_IsMoment m = r
  unfold portref2_IsMoment at hm
  refine enter Try.func30 rfl Try.ntmps30 rfl ?_
  refine C_seq ?_
  refine C_region ?_
  refine V_y (Y_assign rfl) rfl rfl rfl ?_
  refine V_to (fun _ _ => rfl) ?_
  refine C_seq ?_
  refine C_region ?_
  refine V_y (Y_move rfl) rfl rfl rfl ?_
  refine V_y (Y_geq rfl rfl) rfl rfl rfl ?_
  refine V_y (Y_move rfl) rfl rfl rfl ?_
  refine V_cut 3 (fun _ : Unit => [(8, .bool ((decide ((0 : Int) ≤ m)) && (decide (m ≤ 3000000))))]) (fun _ w' => w = w') ?_ ?_
  · simp only [List.take, List.drop]
    rcases Bool.eq_false_or_eq_true (decide ((0 : Int) ≤ m)) with hc1 | hc1
    · refine V_ge rfl rfl rfl hc1 ?_
      refine V_y (Y_move rfl) rfl rfl rfl ?_
      refine V_ge rfl rfl rfl hc1 ?_
      refine V_y (Y_leq rfl rfl) rfl rfl rfl ?_
      refine V_y (Y_pick_te rfl hc1 rfl) rfl rfl rfl ?_
      exact V_end fun a ha => ⟨(), ha.sub ⟨(by rw [hc1]; rfl), trivial⟩, rfl⟩
    · refine V_gn rfl rfl rfl hc1 rfl rfl rfl ?_
      refine V_gn rfl rfl rfl hc1 rfl rfl rfl ?_
      refine V_y (Y_pick_fe rfl hc1 rfl) rfl rfl rfl ?_
      exact V_end fun a ha => ⟨(), ha.sub ⟨(by rw [hc1]; rfl), trivial⟩, rfl⟩
  simp only [List.take, List.drop]
  rintro _ _ rfl
  refine V_y (Y_assign rfl) rfl rfl rfl ?_
  refine V_to (fun _ _ => rfl) ?_
  obtain rfl := hm
  refine C_ret ?_
  try simp only [↓inBlock_ret, ↓then_ret]
  exact retQ rfl (Res.one Try.results30 rfl) ⟨rfl, rfl⟩

set_option maxRecDepth 4000 in
set_option maxHeartbeats 4000000 in
theorem portref2_rangeFault_c (w : World) (from_ : Int) (to_ : Int) : Ret Try.prog 17 #[.int .i64 from_, .int .i64 to_] w fun v w' => v = .int .i64 (portref2_rangeFault from_ to_) ∧ w = w' := by
  generalize hm : portref2_rangeFault from_ to_ = r
  unfold portref2_rangeFault at hm
  refine enter Try.func17 rfl Try.ntmps17 rfl ?_
  refine C_seq ?_
  refine C_region ?_
  refine V_y (Y_assign rfl) rfl rfl rfl ?_
  refine V_to (fun _ _ => rfl) ?_
  refine C_seq ?_
  refine C_block ?_
  refine C_seq ?_
  refine C_region ?_
  refine V_y (Y_move rfl) rfl rfl rfl ?_
  refine V_call Try.call30 rfl rfl rfl rfl (portref2_IsMoment_c w from_) ?_
  rintro _ _ ⟨rfl, rfl⟩
  refine V_y (Y_not rfl) rfl rfl rfl ?_
  refine V_y (Y_move rfl) rfl rfl rfl ?_
  refine V_cut 4 (fun _ : Unit => [(0, .int .i64 from_), (1, .int .i64 to_), (13, .bool ((!(portref2_IsMoment from_)) || (!(portref2_IsEnd to_))))]) (fun _ w' => w = w') ?_ ?_
  · simp only [List.take, List.drop]
    rcases Bool.eq_false_or_eq_true (!(portref2_IsMoment from_)) with hc1 | hc1
    · refine V_gn rfl rfl rfl hc1 rfl rfl rfl ?_
      refine V_gn rfl rfl rfl hc1 rfl rfl rfl ?_
      refine V_gn rfl rfl rfl hc1 rfl rfl rfl ?_
      refine V_y (Y_pick_te rfl hc1 rfl) rfl rfl rfl ?_
      exact V_end fun a ha => ⟨(), ha.sub ⟨rfl, rfl, (by rw [hc1]; rfl), trivial⟩, rfl⟩
    · refine V_ge rfl rfl rfl hc1 ?_
      refine V_y (Y_move rfl) rfl rfl rfl ?_
      refine V_ge rfl rfl rfl hc1 ?_
      refine V_call Try.call31 rfl rfl rfl rfl (portref2_IsEnd_c w to_) ?_
      rintro _ _ ⟨rfl, rfl⟩
      refine V_ge rfl rfl rfl hc1 ?_
      refine V_y (Y_not rfl) rfl rfl rfl ?_
      refine V_y (Y_pick_fe rfl hc1 rfl) rfl rfl rfl ?_
      exact V_end fun a ha => ⟨(), ha.sub ⟨rfl, rfl, (by rw [hc1]; rfl), trivial⟩, rfl⟩
  simp only [List.take, List.drop]
  rintro _ _ rfl
  refine V_y (Y_assign rfl) rfl rfl rfl ?_
  refine V_to (fun _ _ => rfl) ?_
  refine C_cond rfl (fun hc3 => ?_) (fun hc3 => ?_)
  · rw [if_pos hc3] at hm
    refine C_seq ?_
    refine C_region ?_
    refine V_y (Y_assign rfl) rfl rfl rfl ?_
    refine V_to (fun _ _ => rfl) ?_
    obtain rfl := hm
    refine C_ret ?_
    try simp only [↓inBlock_ret, ↓then_ret]
    exact retQ rfl (Res.one Try.results17 rfl) ⟨rfl, rfl⟩
  · rw [if_neg (nt hc3)] at hm
    refine C_seq ?_
    refine C_region ?_
    refine V_y (Y_move rfl) rfl rfl rfl ?_
    refine V_y (Y_move rfl) rfl rfl rfl ?_
    refine V_y (Y_gtr rfl rfl) rfl rfl rfl ?_
    refine V_y (Y_assign rfl) rfl rfl rfl ?_
    refine V_to (fun _ _ => rfl) ?_
    refine C_cond rfl (fun hc4 => ?_) (fun hc4 => ?_)
    · rw [if_pos hc4] at hm
      refine C_seq ?_
      refine C_region ?_
      refine V_y (Y_assign rfl) rfl rfl rfl ?_
      refine V_to (fun _ _ => rfl) ?_
      obtain rfl := hm
      refine C_ret ?_
      try simp only [↓inBlock_ret, ↓then_ret]
      exact retQ rfl (Res.one Try.results17 rfl) ⟨rfl, rfl⟩
    · rw [if_neg (nt hc4)] at hm
      refine C_skip_to (fun _ _ => rfl) ?_
      refine C_seq ?_
      refine C_region ?_
      refine V_y (Y_assign rfl) rfl rfl rfl ?_
      refine V_to (fun _ _ => rfl) ?_
      obtain rfl := hm
      refine C_ret ?_
      try simp only [↓inBlock_ret, ↓then_ret]
      exact retQ rfl (Res.one Try.results17 rfl) ⟨rfl, rfl⟩

set_option maxRecDepth 4000 in
set_option maxHeartbeats 4000000 in
theorem portref2_spansOf_c (w : World) {A : Nat → Prop} {B : Nat} (hB : B ≤ w.heap.size) (hA : ∀ b, w.heap.size ≤ b → A b) (from_ : Int) (to_ : Int) (holds : Int → Option Bool) (holds_Y : Ob) (holds_v : Value) (holds_one : holds_v.cells.toList = [holds_v]) (holds_spec : ∀ (w2 : World) (A2 : Nat → Prop) (L2 : List Ob) (x : Int) (b : Bool), B ≤ w2.heap.size → (∀ b, w2.heap.size ≤ b → A2 b) → Tr Dw B A w A2 w2 → Hp B A2 w2 (holds_Y :: L2) → holds x = some b → CallV Try.prog holds_v [.int .i64 x] w2 fun v w3 => v = .bool b ∧ ∃ A3, Tr Dw B A2 w2 A3 w3 ∧ Hp B A3 w3 (holds_Y :: L2)) {L : List Ob} (hH : Hp B A w (holds_Y :: L)) {r : (List cal_Span)} (hm : portref2_spansOf from_ to_ holds = some r) : Ret Try.prog 18 #[.int .i64 from_, .int .i64 to_, holds_v] w fun v w' => ∃ s0, ∃ A1 : Nat → Prop, v = s0 ∧ Hp B A1 w' (obS (α := cal_Span) 29 s0 r :: holds_Y :: L) ∧ Tr Dw B A w A1 w' := by
  unfold portref2_spansOf at hm
  refine enter Try.func18 rfl Try.ntmps18 rfl ?_
  have hK : Tr Dw B A w A w := Tr.refl (Dw := Dw) hA
  refine C_seq ?_
  refine C_region ?_
  refine V_y (Y_assign rfl) rfl rfl rfl ?_
  refine V_to (fun _ _ => rfl) ?_
  refine C_seq ?_
  refine C_region ?_
  refine V_y (Y_assign rfl) rfl rfl rfl ?_
  refine V_to (fun _ _ => rfl) ?_
  refine C_seq ?_
  refine C_seq ?_
  refine C_region ?_
  refine V_y (Y_move rfl) rfl rfl rfl ?_
  refine V_y (Y_assign rfl) rfl rfl rfl ?_
  refine V_to (fun _ _ => rfl) ?_
  replace hH : Hp B A w (obS (α := cal_Span) 29 (.slice none 0 0) ([] : (List cal_Span)) :: holds_Y :: L) := Hp.addNil (α := cal_Span) (e := 29) hH
  obtain ⟨o1, ho1, hm⟩ := Option.bind_eq_some_iff.1 hm
  refine C_cutG (ι := (((List cal_Span) × Int) × Value × (Nat → Prop))) (fun ⟨s2, v8, A10⟩ => [(7, v8)]) (fun ⟨s2, v8, A10⟩ => fun w' => o1 = .fin s2 ∧ Hp B A10 w' (obS (α := cal_Span) 29 v8 s2.1 :: holds_Y :: L) ∧ Tr Dw B A w A10 w') ?_ ?_
  · refine C_block ?_
    refine C_while ho1 (fun s12 a w' => ∃ i : (Value × (Nat → Prop)), Has ⟨51, [], none⟩ a ([(1, .int .i64 to_), (2, holds_v), (7, i.1), (8, .int .i64 s12.2)]) ∧ Hp B i.2 w' (obS (α := cal_Span) 29 i.1 s12.1 :: holds_Y :: L) ∧ Tr Dw B A w i.2 w') (fun a ha => ⟨(.slice none 0 0, A), ha.sub ⟨rfl, rfl, rfl, rfl, trivial⟩, ⟨hH, Tr.refl (Dw := Dw) hA⟩⟩) ?_
    rintro K s12 a w13 ⟨⟨v14, A16⟩, ha94, hH17, hr3⟩ K24
    refine C_of ?_ ha94
    replace hK := Tr.trans (Dw := Dw) hK hr3
    replace hB := Nat.le_trans hB hr3.ex.size
    replace hA := hr3.new
    replace hH : Hp B A16 w13 (obS (α := cal_Span) 29 v14 s12.1 :: holds_Y :: L) := hH17
    obtain ⟨x18, h19, h20⟩ := K24
    refine C_seq ?_
    refine C_seq ?_
    refine C_region ?_
    refine V_y (Y_move rfl) rfl rfl rfl ?_
    refine V_y (Y_move rfl) rfl rfl rfl ?_
    refine V_y (Y_lss rfl rfl) rfl rfl rfl ?_
    refine V_to (fun _ _ => rfl) ?_
    refine C_cond rfl (fun hc25 => ?_) (fun hc25 => ?_)
    · rw [if_pos hc25] at h19
      refine C_skip_to (fun _ _ => rfl) ?_
      refine C_seq ?_
      obtain ⟨s27, ho26, h19⟩ := Option.bind_eq_some_iff.1 h19
      refine C_cutG (ι := (Value × (Nat → Prop))) (fun ⟨v29, A34⟩ => [(1, .int .i64 to_), (2, holds_v), (7, v29), (8, .int .i64 s12.2)]) (fun ⟨v29, A34⟩ => fun w' => Hp B A34 w' (obS (α := cal_Span) 29 v29 s27 :: holds_Y :: L) ∧ Tr Dw B A16 w13 A34 w') ?_ ?_
      · have hr28 : Tr Dw B A16 w13 A16 w13 := Tr.refl (Dw := Dw) hA
        refine C_block ?_
        refine C_seq ?_
        refine C_seq ?_
        refine C_region ?_
        refine V_y (Y_move rfl) rfl rfl rfl ?_
        refine V_y (Y_move rfl) rfl rfl rfl ?_
        obtain ⟨x36, hx36, ho26⟩ := Option.bind_eq_some_iff.1 ho26
        replace hH : Hp B A16 w13 (holds_Y :: obS (α := cal_Span) 29 v14 s12.1 :: L) := Hp.front hH (i := 1) rfl
        refine V_callV rfl rfl rfl (holds_spec w13 _ _ s12.2 x36 hB hA hK hH hx36) ?_
        rintro _ w37 ⟨rfl, A38, ht40, hH39⟩
        replace hK := Tr.trans (Dw := Dw) hK ht40
        replace hr3 := Tr.trans (Dw := Dw) hr3 ht40
        replace hr28 := Tr.trans (Dw := Dw) hr28 ht40
        replace hB := Nat.le_trans hB ht40.ex.size
        replace hA := ht40.new
        replace hH : Hp B A38 w37 (holds_Y :: obS (α := cal_Span) 29 v14 s12.1 :: L) := hH39
        refine V_y (Y_not rfl) rfl rfl rfl ?_
        refine V_to (fun _ _ => rfl) ?_
        refine C_cond rfl (fun hc41 => ?_) (fun hc41 => ?_)
        · rw [if_pos hc41] at ho26
          obtain rfl := Option.some.inj ho26
          refine C_exit (fun a ha42 => ?_)
          replace hH : Hp B A38 w37 (obS (α := cal_Span) 29 v14 s12.1 :: holds_Y :: L) := Hp.front hH (i := 1) rfl
          exact ⟨(v14, A38), ha42.sub ⟨rfl, rfl, rfl, rfl, trivial⟩, ⟨hH, hr28⟩⟩
        · rw [if_neg (nt hc41)] at ho26
          refine C_skip_to (fun _ _ => rfl) ?_
          refine C_seq ?_
          refine C_region ?_
          refine V_y (Y_move rfl) rfl rfl rfl ?_
          refine V_y (Y_lenSl (Hp.any (α := cal_Span) (e := 29) (v := v14) (l := s12.1) hH (i := 1) rfl) rfl Try.underlying23 rfl) rfl rfl rfl ?_
          refine V_y (Y_assign rfl) rfl rfl rfl ?_
          refine V_to (fun _ _ => rfl) ?_
          refine C_seq ?_
          refine C_region ?_
          refine V_y (Y_move rfl) rfl rfl rfl ?_
          refine V_y (Y_gtr rfl rfl) rfl rfl rfl ?_
          refine V_y (Y_move rfl) rfl rfl rfl ?_
          obtain ⟨s44, hs44, ho26⟩ := Option.bind_eq_some_iff.1 ho26
          refine V_cut 9 (fun _ : Unit => [(1, .int .i64 to_), (2, holds_v), (7, v14), (8, .int .i64 s12.2), (9, .int .i64 (s12.1.length : Int)), (33, .bool s44)]) (fun _ w' => w37 = w') ?_ ?_
          · simp only [List.take, List.drop]
            rcases Bool.eq_false_or_eq_true (decide ((0 : Int) < (s12.1.length : Int))) with hc43 | hc43
            · rw [if_pos hc43] at hs44
              refine V_ge rfl rfl rfl hc43 ?_
              refine V_y (Y_move rfl) rfl rfl rfl ?_
              refine V_ge rfl rfl rfl hc43 ?_
              refine V_y (Y_move rfl) rfl rfl rfl ?_
              refine V_ge rfl rfl rfl hc43 ?_
              refine V_y (Y_subI rfl rfl) rfl rfl rfl ?_
              refine V_ge rfl rfl rfl hc43 ?_
              obtain ⟨x45, hx45, hs44⟩ := Option.bind_eq_some_iff.1 hs44
              refine V_indexAddrH (α := cal_Span) (e := 29) (v := v14) (l := s12.1) hH (i := 1) rfl hx45 Try.underlying23 Try.sizeOf29 rfl rfl rfl ?_
              intro b46 o47 h48 hl49
              refine V_ge rfl rfl rfl hc43 ?_
              have h50 := El_cal_Span_1 h48
              refine V_y (Y_fieldAddr Try.underlying29 rfl Try.sizeOf3 (by decide) rfl) rfl rfl rfl ?_
              refine V_ge rfl rfl rfl hc43 ?_
              refine V_y (Y_load (El.int h50) Try.isAgg3 rfl) rfl rfl rfl ?_
              refine V_ge rfl rfl rfl hc43 ?_
              refine V_y (Y_move rfl) rfl rfl rfl ?_
              refine V_ge rfl rfl rfl hc43 ?_
              refine V_y (Y_eql rfl rfl) rfl rfl rfl ?_
              refine V_y (Y_pick_te rfl hc43 rfl) rfl rfl rfl ?_
              obtain rfl := Option.some.inj hs44
              exact V_end fun a ha => ⟨(), ha.sub ⟨rfl, rfl, rfl, rfl, rfl, rfl, trivial⟩, rfl⟩
            · rw [if_neg (nt hc43)] at hs44
              refine V_gn rfl rfl rfl hc43 rfl rfl rfl ?_
              refine V_gn rfl rfl rfl hc43 rfl rfl rfl ?_
              refine V_gn rfl rfl rfl hc43 rfl rfl rfl ?_
              refine V_gn rfl rfl rfl hc43 rfl rfl rfl ?_
              refine V_gn rfl rfl rfl hc43 rfl rfl rfl ?_
              refine V_gn rfl rfl rfl hc43 rfl rfl rfl ?_
              refine V_gn rfl rfl rfl hc43 rfl rfl rfl ?_
              refine V_gn rfl rfl rfl hc43 rfl rfl rfl ?_
              refine V_y (Y_pick_fe rfl hc43 rfl) rfl rfl rfl ?_
              obtain rfl := Option.some.inj hs44
              exact V_end fun a ha => ⟨(), ha.sub ⟨rfl, rfl, rfl, rfl, rfl, rfl, trivial⟩, rfl⟩
          simp only [List.take, List.drop]
          rintro _ _ rfl
          refine V_to (fun _ _ => rfl) ?_
          obtain ⟨s52, ho51, ho26⟩ := Option.bind_eq_some_iff.1 ho26
          refine C_cutG (ι := (Value × (Nat → Prop))) (fun ⟨v54, A59⟩ => [(1, .int .i64 to_), (2, holds_v), (7, v54), (8, .int .i64 s12.2)]) (fun ⟨v54, A59⟩ => fun w' => Hp B A59 w' (holds_Y :: obS (α := cal_Span) 29 v54 s52 :: L) ∧ Tr Dw B A38 w37 A59 w') ?_ ?_
          · have hr53 : Tr Dw B A38 w37 A38 w37 := Tr.refl (Dw := Dw) hA
            refine C_cond rfl (fun hc61 => ?_) (fun hc61 => ?_)
            · rw [if_pos hc61] at ho51
              refine C_region ?_
              refine V_y (Y_move rfl) rfl rfl rfl ?_
              refine V_y (Y_move rfl) rfl rfl rfl ?_
              refine V_y (Y_subI rfl rfl) rfl rfl rfl ?_
              obtain ⟨x62, hx62, ho51⟩ := Option.bind_eq_some_iff.1 ho51
              refine V_indexAddrH (α := cal_Span) (e := 29) (v := v14) (l := s12.1) hH (i := 1) rfl hx62 Try.underlying23 Try.sizeOf29 rfl rfl rfl ?_
              intro b63 o64 h65 hl66
              have h67 := El_cal_Span_1 h65
              refine V_y (Y_fieldAddr Try.underlying29 rfl Try.sizeOf3 (by decide) rfl) rfl rfl rfl ?_
              refine V_y (Y_load (El.int h67) Try.isAgg3 rfl) rfl rfl rfl ?_
              refine V_y (Y_addI rfl rfl) rfl rfl rfl ?_
              refine V_indexAddrH (α := cal_Span) (e := 29) (v := v14) (l := s12.1) hH (i := 1) rfl hx62 Try.underlying23 Try.sizeOf29 rfl rfl rfl ?_
              intro b68 o69 h70 hl71
              have h72 := El_cal_Span_1 h70
              refine V_y (Y_fieldAddr Try.underlying29 rfl Try.sizeOf3 (by decide) rfl) rfl rfl rfl ?_
              obtain ⟨x73, hx73, ho51⟩ := Option.bind_eq_some_iff.1 ho51
              refine V_storeFH (Dw := Dw) (α := cal_Span) (e := 29) (v := v14) (l := s12.1) (foff := 1) hH (i := 1) rfl hl71 hx62 hx73 (fun _ h => by obtain ⟨_, _, rfl, rfl, rfl⟩ := h; exact ⟨[_], _, rfl, rfl, rfl⟩) Try.sizeOf3 rfl (by simp [Value.cells, Value.oneCell']) (by decide) hB hA (congrArg (fun z => some (Value.pointer (some ⟨_, z, none⟩))) (by simp [Nat.add_assoc])) rfl ?_
              intro w74 hH75 ht76
              replace hK := Tr.trans (Dw := Dw) hK ht76
              replace hr3 := Tr.trans (Dw := Dw) hr3 ht76
              replace hr28 := Tr.trans (Dw := Dw) hr28 ht76
              replace hr53 := Tr.trans (Dw := Dw) hr53 ht76
              replace hB := Nat.le_trans hB ht76.ex.size
              replace hA := ht76.new
              replace hH : Hp B A38 w74 (holds_Y :: obS (α := cal_Span) 29 v14 x73 :: L) := hH75
              obtain rfl := Option.some.inj ho51
              refine V_end (fun a ha77 => ?_)
              exact ⟨(v14, A38), ha77.sub ⟨rfl, rfl, rfl, rfl, trivial⟩, ⟨hH, hr53⟩⟩
            · rw [if_neg (nt hc61)] at ho51
              refine C_region ?_
              refine V_y (Y_move rfl) rfl rfl rfl ?_
              refine V_y (Y_move rfl) rfl rfl rfl ?_
              refine V_y (Y_move rfl) rfl rfl rfl ?_
              refine V_y (Y_addI rfl rfl) rfl rfl rfl ?_
              refine V_y (Y_build Try.underlying29 Try.zeroValue29 (Try_places29 _ Try.underlying29) rfl (by with_unfolding_all rfl)) rfl rfl rfl ?_
              refine V_buildSlice (Dw := Dw) (cells := #[.int .i64 s12.2, .int .i64 (w64 (s12.2 + 1))]) (l := ([(⟨s12.2, w64 (s12.2 + 1)⟩ : cal_Span)] : List cal_Span)) (len := 1) Try.underlying23 Try.sizeOf29 Try.zeroValue29 rfl (by generalize (w64 (s12.2 + 1) : Int) = z82; kernel_rfl) (show (1 * 2 : Nat) ≠ 0 by decide) (show (1 * 2 : Nat) ≤ 2 ^ 24 by decide) hA ⟨[.int .i64 s12.2, .int .i64 (w64 (s12.2 + 1))], _, rfl, ⟨[.int .i64 s12.2], _, rfl, rfl, rfl⟩, rfl⟩ rfl rfl ?_
              intro v78 w79 hk81 h80
              have ht83 := Kp.tr (Dw := Dw) hk81 hA hB
              replace hH := Hp.kp (Dw := Dw) hH hk81
              replace hK := Tr.trans (Dw := Dw) hK ht83
              replace hr3 := Tr.trans (Dw := Dw) hr3 ht83
              replace hr28 := Tr.trans (Dw := Dw) hr28 ht83
              replace hr53 := Tr.trans (Dw := Dw) hr53 ht83
              replace hB := Nat.le_trans hB ht83.ex.size
              replace hA := ht83.new
              obtain ⟨x84, hx84, ho51⟩ := Option.bind_eq_some_iff.1 ho51
              refine V_appendH (Dw := Dw) (e := 29) (v := v14) (l := s12.1) (ti := Try.t29) (bytes := 16) (lim := 8796093022208) hH (i := 1) rfl h80 hx84 Try.underlying23 Try_info29 rfl rfl rfl rfl (by decide) (by decide) (by decide) hB hA rfl rfl rfl ?_
              intro v85 w86 A87 hH88 ht89
              replace h80 := Sl.tr (Dw := Dw) h80 ht89
              replace hK := Tr.trans (Dw := Dw) hK ht89
              replace hr3 := Tr.trans (Dw := Dw) hr3 ht89
              replace hr28 := Tr.trans (Dw := Dw) hr28 ht89
              replace hr53 := Tr.trans (Dw := Dw) hr53 ht89
              replace hB := Nat.le_trans hB ht89.ex.size
              replace hA := ht89.new
              replace hH : Hp B A87 w86 (holds_Y :: obS (α := cal_Span) 29 v85 x84 :: L) := hH88
              refine V_y (Y_assign rfl) rfl rfl rfl ?_
              obtain rfl := Option.some.inj ho51
              refine V_end (fun a ha90 => ?_)
              exact ⟨(v85, A87), ha90.sub ⟨rfl, rfl, rfl, rfl, trivial⟩, ⟨hH, hr53⟩⟩
          rintro ⟨v54, A59⟩ w56 ⟨hH60, hk57⟩ a ha58
          replace hK := Tr.trans (Dw := Dw) hK hk57
          replace hr3 := Tr.trans (Dw := Dw) hr3 hk57
          replace hr28 := Tr.trans (Dw := Dw) hr28 hk57
          replace hB := Nat.le_trans hB hk57.ex.size
          replace hA := hk57.new
          replace hH : Hp B A59 w56 (holds_Y :: obS (α := cal_Span) 29 v54 s52 :: L) := hH60
          obtain rfl := Option.some.inj ho26
          replace hH : Hp B A59 w56 (obS (α := cal_Span) 29 v54 s52 :: holds_Y :: L) := Hp.front hH (i := 1) rfl
          exact ⟨(v54, A59), ha58.sub ⟨rfl, rfl, rfl, rfl, trivial⟩, ⟨hH, hr28⟩⟩
      rintro ⟨v29, A34⟩ w31 ⟨hH35, hk32⟩ a ha33
      replace hK := Tr.trans (Dw := Dw) hK hk32
      replace hr3 := Tr.trans (Dw := Dw) hr3 hk32
      replace hB := Nat.le_trans hB hk32.ex.size
      replace hA := hk32.new
      replace hH : Hp B A34 w31 (obS (α := cal_Span) 29 v29 s27 :: holds_Y :: L) := hH35
      refine C_at (n := ⟨51, [], none⟩) (fun _ _ => rfl) ?_ ha33
      refine C_region ?_
      refine V_y (Y_move rfl) rfl rfl rfl ?_
      refine V_y (Y_addI rfl rfl) rfl rfl rfl ?_
      refine V_y (Y_assign rfl) rfl rfl rfl ?_
      obtain rfl := Option.some.inj h19
      refine V_end (fun a ha92 => ?_)
      exact ⟨(s27, w64 (s12.2 + 1)), h20, ⟨(v29, A34), ha92.sub ⟨rfl, rfl, rfl, rfl, trivial⟩, ⟨hH, hr3⟩⟩⟩
    · rw [if_neg (nt hc25)] at h19
      obtain rfl := Option.some.inj h19
      refine C_exit (fun a ha93 => ?_)
      exact ⟨((s12.1, s12.2), v14, A16), ha93.sub ⟨rfl, trivial⟩, ⟨h20.symm, hH, hr3⟩⟩
  rintro ⟨s2, v8, A10⟩ w5 ⟨rfl, hH11, hk6⟩ a ha7
  rw [Lp.andThen_fin] at hm
  replace hK := Tr.trans (Dw := Dw) hK hk6
  replace hB := Nat.le_trans hB hk6.ex.size
  replace hA := hk6.new
  replace hH : Hp B A10 w5 (obS (α := cal_Span) 29 v8 s2.1 :: holds_Y :: L) := hH11
  refine C_at (n := ⟨51, [], none⟩) (fun _ _ => rfl) ?_ ha7
  refine C_seq ?_
  refine C_region ?_
  refine V_y (Y_move rfl) rfl rfl rfl ?_
  refine V_y (Y_assign rfl) rfl rfl rfl ?_
  refine V_to (fun _ _ => rfl) ?_
  obtain rfl := Option.some.inj hm
  refine C_ret ?_
  try simp only [↓inBlock_ret, ↓then_ret]
  exact retQ rfl (Res.one Try.results18 rfl) ⟨v8, A10, rfl, hH, hK⟩

end Go.Proofs.Ytoflhekllembeaa.W
