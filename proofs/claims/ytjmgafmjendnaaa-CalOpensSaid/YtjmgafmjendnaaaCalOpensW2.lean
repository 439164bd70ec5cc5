/-
  Written by program (gen.py) from the IR of the dump: each function computes its model.
-/
import Derived.Test.YtjmgafmjendnaaaCalOpensW1
namespace Go.Proofs.Ytjmgafmjendnaaa.W
open Go Go.RowKit Go.Pu Go.Gw Go.Proofs Go.Proofs.Ytjmgafmjendnaaa.M
set_option linter.unusedVariables false

set_option maxRecDepth 4000 in
set_option maxHeartbeats 4000000 in
theorem portref2_ShiftsIn_c (w : World) {A : Nat → Prop} (hA : ∀ b, w.heap.size ≤ b → A b) (c : cal_Calendar) (v_c0 : Value) (h_c0 : Sl A w v_c0 c.zone.changes) (v_c1 : Value) (h_c1 : Sl A w v_c1 c.week) (v_c2 : Value) (h_c2 : Sl A w v_c2 c.specials) (day : Int) {r : (List cal_Shift)} (hm : portref2_ShiftsIn c day = some r) : Ret Try.prog 31 #[.agg #[.int .i64 c.zone.offset, v_c0, v_c1, v_c2], .int .i64 day] w fun v w' => ∃ s0, v = s0 ∧ Sl A w' s0 r ∧ Kp w w' := by
  unfold portref2_ShiftsIn at hm
  refine enter Try.func31 rfl Try.ntmps31 rfl ?_
  have hA0 := hA
  have hB := Nat.le_refl w.heap.size
  have hK : Tr w.heap.size A w A w := Tr.refl hA
  have hH : Hp w.heap.size A w [] := Hp.nil
  refine C_seq ?_
  refine C_region ?_
  refine V_box rfl rfl ?_
  intro b7 w9 h10
  have hk12 := h10.kp
  have h11 : El (α := cal_Calendar) A w9 b7 0 c := h10.el hA ⟨[.int .i64 c.zone.offset, v_c0], _, rfl, ⟨[.int .i64 c.zone.offset], _, rfl, rfl, ⟨_, rfl, h_c0⟩⟩, ⟨[v_c1], _, rfl, ⟨_, rfl, h_c1⟩, ⟨_, rfl, h_c2⟩⟩⟩
  have ht13 := Kp.tr hk12 hA hB
  replace hH := Hp.kp hH hk12
  replace h_c0 := Sl.tr h_c0 ht13
  replace h_c1 := Sl.tr h_c1 ht13
  replace h_c2 := Sl.tr h_c2 ht13
  replace hK := Tr.trans hK ht13
  replace hB := Nat.le_trans hB ht13.ex.size
  replace hA := ht13.new
  refine V_y (Y_assign rfl) rfl rfl rfl ?_
  refine V_to (fun _ _ => rfl) ?_
  refine C_seq ?_
  refine C_seq ?_
  refine C_region ?_
  have h14 := El_cal_Calendar_2 h11
  refine V_y (Y_fieldAddr Try.underlying48 rfl Try.sizeOf46 (by decide) rfl) rfl rfl rfl ?_
  obtain ⟨v15, h16, h17⟩ := El.list h14
  refine V_y (Y_load h16 Try.isAgg46 rfl) rfl rfl rfl ?_
  refine V_y (Y_lenSl h17 rfl Try.underlying46 rfl) rfl rfl rfl ?_
  refine V_y (Y_move rfl) rfl rfl rfl ?_
  refine V_to (fun _ _ => rfl) ?_
  have hn38 := Sl.le h17
  obtain ⟨o18, ho18, hm⟩ := Option.bind_eq_some_iff.1 hm
  refine C_cutG (ι := (Unit × (Nat → Prop))) (fun ⟨s19, A25⟩ => [(1, .int .i64 day), (2, .pointer (some ⟨b7, 0, none⟩))]) (fun ⟨s19, A25⟩ => fun w' => o18 = .fin s19 ∧ Hp w.heap.size A25 w' ([]) ∧ Tr w.heap.size A w9 A25 w') ?_ ?_
  · refine C_block ?_
    refine C_range ho18 (fun k21 _ a w' => ∃ i : (Nat → Prop), Has ⟨52, [], none⟩ a ([(1, .int .i64 day), (2, .pointer (some ⟨b7, 0, none⟩)), (13, v15), (14, .int .i64 (c.specials.length : Int)), (15, .int .i64 (k21 : Int))]) ∧ Hp w.heap.size i w' ([]) ∧ Tr w.heap.size A w9 i w') (fun a ha => ⟨A, ha.sub ⟨rfl, rfl, rfl, rfl, rfl, trivial⟩, ⟨hH, Tr.refl hA⟩⟩) ?_
    rintro K k21 _ a w28 ⟨A29, ha66, hH30, hr20⟩ hle34 K37 h36
    refine C_of ?_ ha66
    replace h11 := El.tr h11 hr20
    replace h17 := Sl.tr h17 hr20
    replace hK := Tr.trans hK hr20
    replace hB := Nat.le_trans hB hr20.ex.size
    replace hA := hr20.new
    replace hH : Hp w.heap.size A29 w28 ([]) := hH30
    refine C_seq (C_region (V_y (Y_lss rfl rfl) rfl rfl rfl (V_to (fun _ _ => rfl) ?_)))
    refine C_seq ?_
    refine C_cond rfl (fun hc39 => ?_) (fun hc39 => ?_)
    · have hlt35 := lt_of_dec hc39
      obtain ⟨x31, h32, h33⟩ := K37 hlt35
      refine C_skip_to (fun _ _ => rfl) ?_
      refine C_seq ?_
      refine C_block ?_
      refine C_seq ?_
      refine C_region ?_
      obtain ⟨x40, hx40, h32⟩ := Option.bind_eq_some_iff.1 h32
      refine V_indexAddr h17 hx40 Try.underlying46 Try.sizeOf99 rfl rfl rfl ?_
      intro b41 o42 h43
      obtain ⟨v44, h46, h45⟩ := El_cal_Special h43
      refine V_y (Y_loadA h46 Try.isAgg99 Try.sizeOf99 rfl) rfl rfl rfl ?_
      refine V_alloc Try.zeroValue99 rfl ?_
      intro b47 w48 h49
      have h54 : (v44).oneCell' = true := by obtain ⟨_, _, e, _⟩ := Sl.form h45; rw [e]; rfl
      refine V_storeNew h49 Try.sizeOf99 rfl rfl rfl rfl (by exact (List.forall_mem_cons.2 ⟨rfl, (List.forall_mem_cons.2 ⟨h54, (fun _ h => nomatch h)⟩)⟩)) ?_
      intro w50 h51
      have hk56 := h51.kp
      have h55 : El (α := cal_Special) A29 w50 b47 0 x40 := h51.el hA ⟨[.int .i64 x40.day], _, rfl, rfl, ⟨_, rfl, h45⟩⟩
      have ht57 := Kp.tr hk56 hA hB
      replace hH := Hp.kp hH hk56
      replace h11 := El.tr h11 ht57
      replace h17 := Sl.tr h17 ht57
      replace h43 := El.tr h43 ht57
      replace h45 := Sl.tr h45 ht57
      replace hK := Tr.trans hK ht57
      replace hr20 := Tr.trans hr20 ht57
      replace hB := Nat.le_trans hB ht57.ex.size
      replace hA := ht57.new
      refine V_to (fun _ _ => rfl) ?_
      refine C_seq ?_
      refine C_region ?_
      have h58 := El_cal_Special_0 h55
      refine V_y (Y_fieldAddr Try.underlying99 rfl Try.sizeOf3 (by decide) rfl) rfl rfl rfl ?_
      refine V_y (Y_load (El.int h58) Try.isAgg3 rfl) rfl rfl rfl ?_
      refine V_y (Y_move rfl) rfl rfl rfl ?_
      refine V_y (Y_eql rfl rfl) rfl rfl rfl ?_
      refine V_to (fun _ _ => rfl) ?_
      refine C_cond rfl (fun hc59 => ?_) (fun hc59 => ?_)
      · rw [if_pos hc59] at h32
        refine C_seq ?_
        refine C_region ?_
        have h60 := El_cal_Special_1 h55
        refine V_y (Y_fieldAddr Try.underlying99 rfl Try.sizeOf45 (by decide) rfl) rfl rfl rfl ?_
        obtain ⟨v61, h62, h63⟩ := El.list h60
        refine V_y (Y_load h62 Try.isAgg45 rfl) rfl rfl rfl ?_
        refine V_y (Y_assign rfl) rfl rfl rfl ?_
        refine V_to (fun _ _ => rfl) ?_
        obtain rfl := Option.some.inj h32
        obtain rfl := (h33 : Lp.rt _ = _)
        rw [Lp.andThen_rt] at hm
        obtain rfl := Option.some.inj hm
        refine C_ret ?_
        try simp only [↓inBlock_ret, ↓then_ret]
        exact retQ rfl (Res.one Try.results31 rfl) ⟨v61, rfl, (Sl.out h63 hA0 hK), hK.kp⟩
      · rw [if_neg (nt hc59)] at h32
        refine C_skip_to (fun _ _ => rfl) ?_
        refine C_region ?_
        refine V_y (Y_addI rfl rfl) rfl rfl rfl ?_
        refine V_y (Y_move rfl) rfl rfl rfl ?_
        obtain rfl := Option.some.inj h32
        refine V_end (fun a ha64 => ?_)
        exact ⟨(), hlt35, h33, ⟨A29, ha64.sub ⟨rfl, rfl, rfl, rfl, (congrArg (fun z => some (Value.int .i64 z)) (w64_succ hlt35 hn38)), trivial⟩, ⟨hH, hr20⟩⟩⟩
    · refine C_exit (fun a ha65 => ?_)
      exact ⟨((), A29), ha65.sub ⟨rfl, rfl, trivial⟩, ⟨(h36 (eq_of_dec hle34 hc39)).symm, hH, hr20⟩⟩
  rintro ⟨s19, A25⟩ w22 ⟨rfl, hH26, hk23⟩ a ha24
  rw [Lp.andThen_fin] at hm
  replace h11 := El.tr h11 hk23
  replace hK := Tr.trans hK hk23
  replace hB := Nat.le_trans hB hk23.ex.size
  replace hA := hk23.new
  replace hH : Hp w.heap.size A25 w22 ([]) := hH26
  refine C_at (n := ⟨52, [], none⟩) (fun _ _ => rfl) ?_ ha24
  refine C_seq ?_
  refine C_region ?_
  refine V_y (Y_assign rfl) rfl rfl rfl ?_
  refine V_to (fun _ _ => rfl) ?_
  refine C_seq ?_
  refine C_region ?_
  refine V_y (Y_move rfl) rfl rfl rfl ?_
  obtain ⟨x67, hx67, hm⟩ := Option.bind_eq_some_iff.1 hm
  refine V_call Try.call61 rfl rfl rfl rfl (portref2_floorDiv_c w22 hA day 7 hx67) ?_
  rintro _ w68 ⟨rfl, hk69⟩
  have ht70 := Kp.tr hk69 hA hB
  replace hH := Hp.kp hH hk69
  replace h11 := El.tr h11 ht70
  replace hK := Tr.trans hK ht70
  replace hB := Nat.le_trans hB ht70.ex.size
  replace hA := ht70.new
  refine V_y (Y_move rfl) rfl rfl rfl ?_
  refine V_y (Y_extract rfl rfl) rfl rfl rfl ?_
  refine V_y (Y_extract rfl rfl) rfl rfl rfl ?_
  refine V_y (Y_assign rfl) rfl rfl rfl ?_
  refine V_y (Y_assign rfl) rfl rfl rfl ?_
  refine V_to (fun _ _ => rfl) ?_
  refine C_seq ?_
  refine C_seq ?_
  refine C_region ?_
  have h71 := El_cal_Calendar_1 h11
  refine V_y (Y_fieldAddr Try.underlying48 rfl Try.sizeOf45 (by decide) rfl) rfl rfl rfl ?_
  obtain ⟨v72, h73, h74⟩ := El.list h71
  refine V_y (Y_load h73 Try.isAgg45 rfl) rfl rfl rfl ?_
  refine V_y (Y_lenSl h74 rfl Try.underlying45 rfl) rfl rfl rfl ?_
  refine V_y (Y_move rfl) rfl rfl rfl ?_
  refine V_to (fun _ _ => rfl) ?_
  replace hH : Hp w.heap.size A25 w68 (obS (α := cal_Shift) 60 (.slice none 0 0) ([] : (List cal_Shift)) :: []) := Hp.addNil (α := cal_Shift) (e := 60) hH
  have hn99 := Sl.le h74
  obtain ⟨o75, ho75, hm⟩ := Option.bind_eq_some_iff.1 hm
  refine C_cutG (ι := ((List cal_Shift) × Value × (Nat → Prop))) (fun ⟨s76, v82, A84⟩ => [(7, v82)]) (fun ⟨s76, v82, A84⟩ => fun w' => o75 = .fin s76 ∧ Hp w.heap.size A84 w' (obS (α := cal_Shift) 60 v82 s76 :: []) ∧ Tr w.heap.size A25 w68 A84 w') ?_ ?_
  · refine C_block ?_
    refine C_range ho75 (fun k78 s86 a w' => ∃ i : (Value × (Nat → Prop)), Has ⟨52, [], none⟩ a ([(7, i.1), (9, .int .i64 x67.2), (32, v72), (33, .int .i64 (c.week.length : Int)), (34, .int .i64 (k78 : Int))]) ∧ Hp w.heap.size i.2 w' (obS (α := cal_Shift) 60 i.1 s86 :: []) ∧ Tr w.heap.size A25 w68 i.2 w') (fun a ha => ⟨(.slice none 0 0, A25), ha.sub ⟨rfl, rfl, rfl, rfl, rfl, trivial⟩, ⟨hH, Tr.refl hA⟩⟩) ?_
    rintro K k78 s86 a w87 ⟨⟨v88, A90⟩, ha154, hH91, hr77⟩ hle95 K98 h97
    refine C_of ?_ ha154
    replace h74 := Sl.tr h74 hr77
    replace hK := Tr.trans hK hr77
    replace hB := Nat.le_trans hB hr77.ex.size
    replace hA := hr77.new
    replace hH : Hp w.heap.size A90 w87 (obS (α := cal_Shift) 60 v88 s86 :: []) := hH91
    refine C_seq (C_region (V_y (Y_lss rfl rfl) rfl rfl rfl (V_to (fun _ _ => rfl) ?_)))
    refine C_seq ?_
    refine C_cond rfl (fun hc100 => ?_) (fun hc100 => ?_)
    · have hlt96 := lt_of_dec hc100
      obtain ⟨x92, h93, h94⟩ := K98 hlt96
      refine C_skip_to (fun _ _ => rfl) ?_
      refine C_seq ?_
      obtain ⟨s102, ho101, h93⟩ := Option.bind_eq_some_iff.1 h93
      refine C_cutG (ι := (Value × (Nat → Prop))) (fun ⟨v104, A109⟩ => [(7, v104), (9, .int .i64 x67.2), (32, v72), (33, .int .i64 (c.week.length : Int)), (34, .int .i64 (k78 : Int))]) (fun ⟨v104, A109⟩ => fun w' => Hp w.heap.size A109 w' (obS (α := cal_Shift) 60 v104 s102 :: []) ∧ Tr w.heap.size A90 w87 A109 w') ?_ ?_
      · have hr103 : Tr w.heap.size A90 w87 A90 w87 := Tr.refl hA
        refine C_block ?_
        refine C_seq ?_
        refine C_region ?_
        obtain ⟨x111, hx111, ho101⟩ := Option.bind_eq_some_iff.1 ho101
        refine V_indexAddr h74 hx111 Try.underlying45 Try.sizeOf60 rfl rfl rfl ?_
        intro b112 o113 h114
        obtain ⟨h115, _⟩ := El_cal_Shift h114
        refine V_y (Y_loadA h115 Try.isAgg60 Try.sizeOf60 rfl) rfl rfl rfl ?_
        refine V_alloc Try.zeroValue60 rfl ?_
        intro b116 w117 h118
        refine V_storeNew h118 Try.sizeOf60 rfl rfl rfl rfl (by exact (List.forall_mem_cons.2 ⟨rfl, (List.forall_mem_cons.2 ⟨rfl, (List.forall_mem_cons.2 ⟨rfl, (fun _ h => nomatch h)⟩)⟩)⟩)) ?_
        intro w119 h120
        have hk122 := h120.kp
        have h121 : El (α := cal_Shift) A90 w119 b116 0 x111 := h120.el hA ⟨[.int .i64 x111.day], _, rfl, rfl, ⟨[.int .i64 x111.from_], _, rfl, rfl, rfl⟩⟩
        have ht123 := Kp.tr hk122 hA hB
        replace hH := Hp.kp hH hk122
        replace h74 := Sl.tr h74 ht123
        replace h114 := El.tr h114 ht123
        replace hK := Tr.trans hK ht123
        replace hr77 := Tr.trans hr77 ht123
        replace hr103 := Tr.trans hr103 ht123
        replace hB := Nat.le_trans hB ht123.ex.size
        replace hA := ht123.new
        refine V_to (fun _ _ => rfl) ?_
        refine C_seq ?_
        refine C_region ?_
        have h124 := El_cal_Shift_0 h121
        refine V_y (Y_fieldAddr Try.underlying60 rfl Try.sizeOf3 (by decide) rfl) rfl rfl rfl ?_
        refine V_y (Y_load (El.int h124) Try.isAgg3 rfl) rfl rfl rfl ?_
        refine V_y (Y_move rfl) rfl rfl rfl ?_
        refine V_y (Y_eql rfl rfl) rfl rfl rfl ?_
        refine V_to (fun _ _ => rfl) ?_
        obtain ⟨s126, ho125, ho101⟩ := Option.bind_eq_some_iff.1 ho101
        refine C_cutG (ι := (Value × (Nat → Prop))) (fun ⟨v128, A133⟩ => [(7, v128), (9, .int .i64 x67.2), (32, v72), (33, .int .i64 (c.week.length : Int)), (34, .int .i64 (k78 : Int))]) (fun ⟨v128, A133⟩ => fun w' => Hp w.heap.size A133 w' (obS (α := cal_Shift) 60 v128 s126 :: []) ∧ Tr w.heap.size A90 w119 A133 w') ?_ ?_
        · have hr127 : Tr w.heap.size A90 w119 A90 w119 := Tr.refl hA
          refine C_cond rfl (fun hc135 => ?_) (fun hc135 => ?_)
          · rw [if_pos hc135] at ho125
            refine C_region ?_
            refine V_y (Y_move rfl) rfl rfl rfl ?_
            have h136 := El_cal_Shift_1 h121
            refine V_y (Y_fieldAddr Try.underlying60 rfl Try.sizeOf3 (by decide) rfl) rfl rfl rfl ?_
            refine V_y (Y_load (El.int h136) Try.isAgg3 rfl) rfl rfl rfl ?_
            have h137 := El_cal_Shift_2 h121
            refine V_y (Y_fieldAddr Try.underlying60 rfl Try.sizeOf3 (by decide) rfl) rfl rfl rfl ?_
            refine V_y (Y_load (El.int h137) Try.isAgg3 rfl) rfl rfl rfl ?_
            refine V_y (Y_build Try.underlying60 Try.zeroValue60 (Try_places60 _ Try.underlying60) rfl (by with_unfolding_all rfl)) rfl rfl rfl ?_
            refine V_buildSlice (l := ([(⟨0, x111.from_, x111.to_⟩ : cal_Shift)] : List cal_Shift)) (len := 1) Try.underlying45 Try.sizeOf60 Try.zeroValue60 rfl (by with_unfolding_all rfl) (by decide) (by decide) hA ⟨[.int .i64 0, .int .i64 x111.from_, .int .i64 x111.to_], _, rfl, ⟨[.int .i64 0], _, rfl, rfl, ⟨[.int .i64 x111.from_], _, rfl, rfl, rfl⟩⟩, rfl⟩ rfl rfl ?_
            intro v138 w139 hk141 h140
            have ht142 := Kp.tr hk141 hA hB
            replace hH := Hp.kp hH hk141
            replace h74 := Sl.tr h74 ht142
            replace h121 := El.tr h121 ht142
            replace h136 := El.tr h136 ht142
            replace h137 := El.tr h137 ht142
            replace hK := Tr.trans hK ht142
            replace hr77 := Tr.trans hr77 ht142
            replace hr103 := Tr.trans hr103 ht142
            replace hr127 := Tr.trans hr127 ht142
            replace hB := Nat.le_trans hB ht142.ex.size
            replace hA := ht142.new
            obtain ⟨x143, hx143, ho125⟩ := Option.bind_eq_some_iff.1 ho125
            refine V_appendH (e := 60) (v := v88) (l := s86) (ti := Try.t60) (bytes := 24) (lim := 5864062014805) hH (i := 0) rfl h140 hx143 Try.underlying45 Try_info60 rfl rfl rfl rfl (by decide) (by decide) (by decide) hB hA rfl rfl rfl ?_
            intro v144 w145 A146 hH147 ht148
            replace h74 := Sl.tr h74 ht148
            replace h121 := El.tr h121 ht148
            replace h136 := El.tr h136 ht148
            replace h137 := El.tr h137 ht148
            replace h140 := Sl.tr h140 ht148
            replace hK := Tr.trans hK ht148
            replace hr77 := Tr.trans hr77 ht148
            replace hr103 := Tr.trans hr103 ht148
            replace hr127 := Tr.trans hr127 ht148
            replace hB := Nat.le_trans hB ht148.ex.size
            replace hA := ht148.new
            replace hH : Hp w.heap.size A146 w145 (obS (α := cal_Shift) 60 v144 x143 :: []) := hH147
            refine V_y (Y_assign rfl) rfl rfl rfl ?_
            obtain rfl := Option.some.inj ho125
            refine V_end (fun a ha149 => ?_)
            exact ⟨(v144, A146), ha149.sub ⟨rfl, rfl, rfl, rfl, rfl, trivial⟩, ⟨hH, hr127⟩⟩
          · rw [if_neg (nt hc135)] at ho125
            obtain rfl := Option.some.inj ho125
            refine C_skip (fun a ha150 => ?_)
            exact ⟨(v88, A90), ha150.sub ⟨rfl, rfl, rfl, rfl, rfl, trivial⟩, ⟨hH, hr127⟩⟩
        rintro ⟨v128, A133⟩ w130 ⟨hH134, hk131⟩ a ha132
        replace h74 := Sl.tr h74 hk131
        replace hK := Tr.trans hK hk131
        replace hr77 := Tr.trans hr77 hk131
        replace hr103 := Tr.trans hr103 hk131
        replace hB := Nat.le_trans hB hk131.ex.size
        replace hA := hk131.new
        replace hH : Hp w.heap.size A133 w130 (obS (α := cal_Shift) 60 v128 s126 :: []) := hH134
        obtain rfl := Option.some.inj ho101
        exact ⟨(v128, A133), ha132.sub ⟨rfl, rfl, rfl, rfl, rfl, trivial⟩, ⟨hH, hr103⟩⟩
      rintro ⟨v104, A109⟩ w106 ⟨hH110, hk107⟩ a ha108
      replace h74 := Sl.tr h74 hk107
      replace hK := Tr.trans hK hk107
      replace hr77 := Tr.trans hr77 hk107
      replace hB := Nat.le_trans hB hk107.ex.size
      replace hA := hk107.new
      replace hH : Hp w.heap.size A109 w106 (obS (α := cal_Shift) 60 v104 s102 :: []) := hH110
      refine C_at (n := ⟨52, [], none⟩) (fun _ _ => rfl) ?_ ha108
      refine C_region ?_
      refine V_y (Y_addI rfl rfl) rfl rfl rfl ?_
      refine V_y (Y_move rfl) rfl rfl rfl ?_
      obtain rfl := Option.some.inj h93
      refine V_end (fun a ha152 => ?_)
      exact ⟨s102, hlt96, h94, ⟨(v104, A109), ha152.sub ⟨rfl, rfl, rfl, rfl, (congrArg (fun z => some (Value.int .i64 z)) (w64_succ hlt96 hn99)), trivial⟩, ⟨hH, hr77⟩⟩⟩
    · refine C_exit (fun a ha153 => ?_)
      exact ⟨(s86, v88, A90), ha153.sub ⟨rfl, trivial⟩, ⟨(h97 (eq_of_dec hle95 hc100)).symm, hH, hr77⟩⟩
  rintro ⟨s76, v82, A84⟩ w79 ⟨rfl, hH85, hk80⟩ a ha81
  rw [Lp.andThen_fin] at hm
  replace hK := Tr.trans hK hk80
  replace hB := Nat.le_trans hB hk80.ex.size
  replace hA := hk80.new
  replace hH : Hp w.heap.size A84 w79 (obS (α := cal_Shift) 60 v82 s76 :: []) := hH85
  refine C_at (n := ⟨52, [], none⟩) (fun _ _ => rfl) ?_ ha81
  refine C_seq ?_
  refine C_region ?_
  refine V_y (Y_move rfl) rfl rfl rfl ?_
  refine V_y (Y_assign rfl) rfl rfl rfl ?_
  refine V_to (fun _ _ => rfl) ?_
  obtain rfl := Option.some.inj hm
  obtain ⟨A155, ht156, h157, hH158⟩ := Hp.freeze (α := cal_Shift) (v := v82) (l := s76) hH (i := 0) rfl hA
  replace hK := Tr.trans hK ht156
  replace hB := Nat.le_trans hB ht156.ex.size
  replace hA := ht156.new
  replace hH : Hp w.heap.size A155 w79 ([]) := hH158
  refine C_ret ?_
  try simp only [↓inBlock_ret, ↓then_ret]
  exact retQ rfl (Res.one Try.results31 rfl) ⟨v82, rfl, (Sl.out h157 hA0 hK), hK.kp⟩

set_option maxRecDepth 4000 in
set_option maxHeartbeats 4000000 in
theorem slices_Equal_Lcal_Shift_cal_Shift_c (w : World) {A : Nat → Prop} (hA : ∀ b, w.heap.size ≤ b → A b) (s1 : (List cal_Shift)) (v_s1 : Value) (h_s1 : Sl A w v_s1 s1) (s2 : (List cal_Shift)) (v_s2 : Value) (h_s2 : Sl A w v_s2 s2) {r : Bool} (hm : slices_Equal_Lcal_Shift_cal_Shift s1 s2 = some r) : Ret Try.prog 32 #[v_s1, v_s2] w fun v w' => v = .bool r ∧ Kp w w' := by
  unfold slices_Equal_Lcal_Shift_cal_Shift at hm
  refine enter Try.func32 rfl Try.ntmps32 rfl ?_
  have hA0 := hA
  have hB := Nat.le_refl w.heap.size
  have hK : Tr w.heap.size A w A w := Tr.refl hA
  have hH : Hp w.heap.size A w [] := Hp.nil
  refine C_seq ?_
  refine C_region ?_
  refine V_y (Y_assign rfl) rfl rfl rfl ?_
  refine V_to (fun _ _ => rfl) ?_
  refine C_seq ?_
  refine C_seq ?_
  refine C_region ?_
  refine V_y (Y_move rfl) rfl rfl rfl ?_
  refine V_y (Y_lenSl h_s1 rfl Try.underlying45 rfl) rfl rfl rfl ?_
  refine V_y (Y_move rfl) rfl rfl rfl ?_
  refine V_y (Y_lenSl h_s2 rfl Try.underlying45 rfl) rfl rfl rfl ?_
  refine V_y (Y_neq rfl rfl) rfl rfl rfl ?_
  refine V_to (fun _ _ => rfl) ?_
  refine C_cond rfl (fun hc5 => ?_) (fun hc5 => ?_)
  · rw [if_pos hc5] at hm
    refine C_seq ?_
    refine C_region ?_
    refine V_y (Y_assign rfl) rfl rfl rfl ?_
    refine V_to (fun _ _ => rfl) ?_
    obtain rfl := Option.some.inj hm
    refine C_ret ?_
    try simp only [↓inBlock_ret, ↓then_ret]
    exact retQ rfl (Res.one Try.results32 rfl) ⟨rfl, hK.kp⟩
  · rw [if_neg (nt hc5)] at hm
    refine C_skip_to (fun _ _ => rfl) ?_
    refine C_seq ?_
    refine C_seq ?_
    refine C_region ?_
    refine V_y (Y_move rfl) rfl rfl rfl ?_
    refine V_y (Y_lenSl h_s1 rfl Try.underlying45 rfl) rfl rfl rfl ?_
    refine V_y (Y_move rfl) rfl rfl rfl ?_
    refine V_to (fun _ _ => rfl) ?_
    have hn27 := Sl.le h_s1
    obtain ⟨o6, ho6, hm⟩ := Option.bind_eq_some_iff.1 hm
    refine C_cutG (ι := (Unit × (Nat → Prop))) (fun ⟨s7, A13⟩ => []) (fun ⟨s7, A13⟩ => fun w' => o6 = .fin s7 ∧ Hp w.heap.size A13 w' ([]) ∧ Tr w.heap.size A w A13 w') ?_ ?_
    · refine C_block ?_
      refine C_range ho6 (fun k9 _ a w' => ∃ i : (Nat → Prop), Has ⟨26, [], none⟩ a ([(0, v_s1), (1, v_s2), (12, .int .i64 (s1.length : Int)), (13, .int .i64 (k9 : Int))]) ∧ Hp w.heap.size i w' ([]) ∧ Tr w.heap.size A w i w') (fun a ha => ⟨A, ha.sub ⟨rfl, rfl, rfl, rfl, trivial⟩, ⟨hH, Tr.refl hA⟩⟩) ?_
      rintro K k9 _ a w17 ⟨A18, ha45, hH19, hr8⟩ hle23 K26 h25
      refine C_of ?_ ha45
      replace h_s1 := Sl.tr h_s1 hr8
      replace h_s2 := Sl.tr h_s2 hr8
      replace hK := Tr.trans hK hr8
      replace hB := Nat.le_trans hB hr8.ex.size
      replace hA := hr8.new
      replace hH : Hp w.heap.size A18 w17 ([]) := hH19
      refine C_seq (C_region (V_y (Y_lss rfl rfl) rfl rfl rfl (V_to (fun _ _ => rfl) ?_)))
      refine C_seq ?_
      refine C_cond rfl (fun hc28 => ?_) (fun hc28 => ?_)
      · have hlt24 := lt_of_dec hc28
        obtain ⟨x20, h21, h22⟩ := K26 hlt24
        refine C_skip_to (fun _ _ => rfl) ?_
        refine C_seq ?_
        refine C_block ?_
        refine C_seq ?_
        refine C_region ?_
        refine V_y (Y_move rfl) rfl rfl rfl ?_
        refine V_y (Y_assign rfl) rfl rfl rfl ?_
        refine V_to (fun _ _ => rfl) ?_
        refine C_seq ?_
        refine C_region_q Try_mixed (by kernel_rfl) ?_
        refine VQ_y (fun w' hw' => Y_move rfl) rfl rfl rfl ?_
        refine VQ_y (fun w' hw' => Y_move rfl) rfl rfl rfl ?_
        obtain ⟨x29, hx29, h21⟩ := Option.bind_eq_some_iff.1 h21
        refine VQ_indexAddr h_s1 hx29 Try.underlying45 Try.sizeOf60 rfl rfl rfl ?_
        intro b30 o31 h32
        obtain ⟨h33, _⟩ := El_cal_Shift h32
        refine VQ_y (fun w' hw' => Y_loadA (At.kp h33 hw' h32.2.1) Try.isAgg60 Try.sizeOf60 rfl) rfl rfl rfl ?_
        refine VQ_y (fun w' hw' => Y_move rfl) rfl rfl rfl ?_
        refine VQ_y (fun w' hw' => Y_move rfl) rfl rfl rfl ?_
        obtain ⟨x34, hx34, h21⟩ := Option.bind_eq_some_iff.1 h21
        refine VQ_indexAddr h_s2 hx34 Try.underlying45 Try.sizeOf60 rfl rfl rfl ?_
        intro b35 o36 h37
        obtain ⟨h38, _⟩ := El_cal_Shift h37
        refine VQ_y (fun w' hw' => Y_loadA (At.kp h38 hw' h37.2.1) Try.isAgg60 Try.sizeOf60 rfl) rfl rfl rfl ?_
        refine VQ_y (fun w' hw' => Y_neqA (fun w => Try_eqt60 x29.day x29.from_ x29.to_ x34.day x34.from_ x34.to_ w) Try_eqg60 rfl rfl) rfl rfl rfl ?_
        refine VQ_to (fun _ _ => rfl) (fun w39 hk40 => ?_)
        have ht41 := Kp.tr hk40 hA hB
        replace hH := Hp.kp hH hk40
        replace h_s1 := Sl.tr h_s1 ht41
        replace h_s2 := Sl.tr h_s2 ht41
        replace hK := Tr.trans hK ht41
        replace hr8 := Tr.trans hr8 ht41
        replace hB := Nat.le_trans hB ht41.ex.size
        replace hA := ht41.new
        refine C_cond rfl (fun hc42 => ?_) (fun hc42 => ?_)
        · rw [if_pos hc42] at h21
          refine C_seq ?_
          refine C_region ?_
          refine V_y (Y_assign rfl) rfl rfl rfl ?_
          refine V_to (fun _ _ => rfl) ?_
          obtain rfl := Option.some.inj h21
          obtain rfl := (h22 : Lp.rt _ = _)
          rw [Lp.andThen_rt] at hm
          obtain rfl := Option.some.inj hm
          refine C_ret ?_
          try simp only [↓inBlock_ret, ↓then_ret]
          exact retQ rfl (Res.one Try.results32 rfl) ⟨rfl, hK.kp⟩
        · rw [if_neg (nt hc42)] at h21
          refine C_skip_to (fun _ _ => rfl) ?_
          refine C_region ?_
          refine V_y (Y_addI rfl rfl) rfl rfl rfl ?_
          refine V_y (Y_move rfl) rfl rfl rfl ?_
          obtain rfl := Option.some.inj h21
          refine V_end (fun a ha43 => ?_)
          exact ⟨(), hlt24, h22, ⟨A18, ha43.sub ⟨rfl, rfl, rfl, (congrArg (fun z => some (Value.int .i64 z)) (w64_succ hlt24 hn27)), trivial⟩, ⟨hH, hr8⟩⟩⟩
      · refine C_exit (fun a ha44 => ?_)
        exact ⟨((), A18), ha44.sub trivial, ⟨(h25 (eq_of_dec hle23 hc28)).symm, hH, hr8⟩⟩
    rintro ⟨s7, A13⟩ w10 ⟨rfl, hH14, hk11⟩ a ha12
    rw [Lp.andThen_fin] at hm
    replace hK := Tr.trans hK hk11
    replace hB := Nat.le_trans hB hk11.ex.size
    replace hA := hk11.new
    replace hH : Hp w.heap.size A13 w10 ([]) := hH14
    refine C_at (n := ⟨26, [], none⟩) (fun _ _ => rfl) ?_ ha12
    refine C_seq ?_
    refine C_region ?_
    refine V_y (Y_assign rfl) rfl rfl rfl ?_
    refine V_to (fun _ _ => rfl) ?_
    obtain rfl := Option.some.inj hm
    refine C_ret ?_
    try simp only [↓inBlock_ret, ↓then_ret]
    exact retQ rfl (Res.one Try.results32 rfl) ⟨rfl, hK.kp⟩

set_option maxRecDepth 4000 in
set_option maxHeartbeats 4000000 in
theorem portref2_NewClock_c (w : World) {A : Nat → Prop} {B : Nat} (hB : B ≤ w.heap.size) (hA : ∀ b, w.heap.size ≤ b → A b) (c : cal_Calendar) (v0 : Value) (h0 : Sl A w v0 c.zone.changes) (v1 : Value) (h1 : Sl A w v1 c.week) (v2 : Value) (h2 : Sl A w v2 c.specials) {L : List Ob} (hH : Hp B A w L) {r : cal_Calendar} (hm : portref2_NewClock c = some r) : Ret Try.prog 33 #[.agg #[.int .i64 c.zone.offset, v0, v1, v2]] w fun v w' => ∃ b, ∃ A1 : Nat → Prop, v = .pointer (some ⟨b, 0, none⟩) ∧ Hp B A1 w' (obCk 102 portref2_ShiftsIn b r :: L) ∧ Tr B A w A1 w' := by
  obtain rfl := Option.some.inj hm
  refine enter Try.func33 rfl Try.ntmps33 rfl ?_
  have hK : Tr B A w A w := Tr.refl hA
  refine C_seq ?_
  refine C_region ?_
  refine V_box rfl rfl ?_
  intro b1 w1 n1
  have e1 : El (α := cal_Calendar) A w1 b1 0 c := n1.el hA ⟨[.int .i64 c.zone.offset, v0], _, rfl, ⟨[.int .i64 c.zone.offset], _, rfl, rfl, ⟨_, rfl, h0⟩⟩, ⟨[v1], _, rfl, ⟨_, rfl, h1⟩, ⟨_, rfl, h2⟩⟩⟩
  have t1 := Kp.tr n1.kp hA hB
  replace hH := Hp.kp hH n1.kp
  replace hK := Tr.trans hK t1
  replace hB := Nat.le_trans hB t1.ex.size
  replace hA := t1.new
  refine V_y (Y_assign rfl) rfl rfl rfl ?_
  refine V_to (fun _ _ => rfl) ?_
  refine C_seq ?_
  refine C_region ?_
  obtain ⟨_, _, cs, hr, hat⟩ := e1
  have hr0 := hr
  obtain ⟨u0, u1, u2, rfl, s0, s1, s2⟩ := Rep_cal_Calendar hr0
  refine V_y (Y_loadA hat Try.isAgg48 Try.sizeOf48 rfl) rfl rfl rfl ?_
  refine V_makeMapF (portref2_ShiftsIn c) hH hB hA rfl ?_
  intro mb w2 A2 h2 t2
  replace hr := GoT.keep hr t2.ex
  replace hK := Tr.trans hK t2
  replace hB := Nat.le_trans hB t2.ex.size
  replace hA := t2.new
  refine V_y (Y_build Try.underlying102 Try.zeroValue102 (Try_places102 _ Try.underlying102) rfl (by with_unfolding_all rfl)) rfl rfl rfl ?_
  refine V_boxH h2 rfl hB hA rfl ?_
  intro b3 w3 A3 h3 t3
  replace hr := GoT.keep hr t3.ex
  replace hK := Tr.trans hK t3
  refine V_y (Y_assign rfl) rfl rfl rfl ?_
  refine V_to (fun _ _ => rfl) ?_
  have h4 : Hp B A3 w3 (ckL 102 portref2_ShiftsIn b3 c (mb, [.int .i64 c.zone.offset, u0, u1, u2]) ++ L) := h3.free (O' := obF (fun A w => GoT.rep A w [.int .i64 c.zone.offset, u0, u1, u2] c) (fun h he => GoT.keep h he)) ⟨rfl, hr⟩
  refine C_ret ?_
  try simp only [↓inBlock_ret, ↓then_ret]
  exact retQ rfl (Res.one Try.results33 rfl) ⟨b3, A3, rfl, Hp.pack _ h4, hK⟩

set_option maxRecDepth 4000 in
set_option maxHeartbeats 4000000 in
theorem portref2_OffsetIn_c (w : World) {A : Nat → Prop} (hA : ∀ b, w.heap.size ≤ b → A b) (z : cal_Zone) (v_z : Value) (h_z : Sl A w v_z z.changes) (m : Int) {r : Int} (hm : portref2_OffsetIn z m = some r) : Ret Try.prog 18 #[.agg #[.int .i64 z.offset, v_z], .int .i64 m] w fun v w' => v = .int .i64 r ∧ Kp w w' := by
  unfold portref2_OffsetIn at hm
  refine enter Try.func18 rfl Try.ntmps18 rfl ?_
  have hA0 := hA
  have hB := Nat.le_refl w.heap.size
  have hK : Tr w.heap.size A w A w := Tr.refl hA
  have hH : Hp w.heap.size A w [] := Hp.nil
  refine C_seq ?_
  refine C_region ?_
  refine V_box rfl rfl ?_
  intro b3 w4 h5
  have hk7 := h5.kp
  have h6 : El (α := cal_Zone) A w4 b3 0 z := h5.el hA ⟨[.int .i64 z.offset], _, rfl, rfl, ⟨_, rfl, h_z⟩⟩
  have ht8 := Kp.tr hk7 hA hB
  replace hH := Hp.kp hH hk7
  replace h_z := Sl.tr h_z ht8
  replace hK := Tr.trans hK ht8
  replace hB := Nat.le_trans hB ht8.ex.size
  replace hA := ht8.new
  refine V_y (Y_assign rfl) rfl rfl rfl ?_
  refine V_to (fun _ _ => rfl) ?_
  refine C_seq ?_
  refine C_region ?_
  have h9 := El_cal_Zone_0 h6
  refine V_y (Y_fieldAddr Try.underlying24 rfl Try.sizeOf3 (by decide) rfl) rfl rfl rfl ?_
  refine V_y (Y_load (El.int h9) Try.isAgg3 rfl) rfl rfl rfl ?_
  refine V_y (Y_assign rfl) rfl rfl rfl ?_
  refine V_to (fun _ _ => rfl) ?_
  refine C_seq ?_
  refine C_seq ?_
  refine C_region ?_
  have h10 := El_cal_Zone_1 h6
  refine V_y (Y_fieldAddr Try.underlying24 rfl Try.sizeOf22 (by decide) rfl) rfl rfl rfl ?_
  obtain ⟨v11, h12, h13⟩ := El.list h10
  refine V_y (Y_load h12 Try.isAgg22 rfl) rfl rfl rfl ?_
  refine V_y (Y_lenSl h13 rfl Try.underlying22 rfl) rfl rfl rfl ?_
  refine V_y (Y_move rfl) rfl rfl rfl ?_
  refine V_to (fun _ _ => rfl) ?_
  have hn34 := Sl.le h13
  obtain ⟨o14, ho14, hm⟩ := Option.bind_eq_some_iff.1 hm
  refine C_cutG (ι := (Int × (Nat → Prop))) (fun ⟨s15, A21⟩ => [(5, .int .i64 s15)]) (fun ⟨s15, A21⟩ => fun w' => o14 = .fin s15 ∧ Hp w.heap.size A21 w' ([]) ∧ Tr w.heap.size A w4 A21 w') ?_ ?_
  · refine C_block ?_
    refine C_range ho14 (fun k17 s23 a w' => ∃ i : (Nat → Prop), Has ⟨25, [], none⟩ a ([(1, .int .i64 m), (5, .int .i64 s23), (11, v11), (12, .int .i64 (z.changes.length : Int)), (13, .int .i64 (k17 : Int))]) ∧ Hp w.heap.size i w' ([]) ∧ Tr w.heap.size A w4 i w') (fun a ha => ⟨A, ha.sub ⟨rfl, rfl, rfl, rfl, rfl, trivial⟩, ⟨hH, Tr.refl hA⟩⟩) ?_
    rintro K k17 s23 a w24 ⟨A25, ha71, hH26, hr16⟩ hle30 K33 h32
    refine C_of ?_ ha71
    replace h13 := Sl.tr h13 hr16
    replace hK := Tr.trans hK hr16
    replace hB := Nat.le_trans hB hr16.ex.size
    replace hA := hr16.new
    replace hH : Hp w.heap.size A25 w24 ([]) := hH26
    refine C_seq (C_region (V_y (Y_lss rfl rfl) rfl rfl rfl (V_to (fun _ _ => rfl) ?_)))
    refine C_seq ?_
    refine C_cond rfl (fun hc35 => ?_) (fun hc35 => ?_)
    · have hlt31 := lt_of_dec hc35
      obtain ⟨x27, h28, h29⟩ := K33 hlt31
      refine C_skip_to (fun _ _ => rfl) ?_
      refine C_seq ?_
      obtain ⟨s37, ho36, h28⟩ := Option.bind_eq_some_iff.1 h28
      refine C_cutG (ι := (Nat → Prop)) (fun (A42 : (Nat → Prop)) => [(1, .int .i64 m), (5, .int .i64 s37), (11, v11), (12, .int .i64 (z.changes.length : Int)), (13, .int .i64 (k17 : Int))]) (fun (A42 : (Nat → Prop)) => fun w' => Hp w.heap.size A42 w' ([]) ∧ Tr w.heap.size A25 w24 A42 w') ?_ ?_
      · have hr38 : Tr w.heap.size A25 w24 A25 w24 := Tr.refl hA
        refine C_block ?_
        refine C_seq ?_
        refine C_region ?_
        obtain ⟨x44, hx44, ho36⟩ := Option.bind_eq_some_iff.1 ho36
        refine V_indexAddr h13 hx44 Try.underlying22 Try.sizeOf81 rfl rfl rfl ?_
        intro b45 o46 h47
        obtain ⟨h48, _⟩ := El_cal_Change h47
        refine V_y (Y_loadA h48 Try.isAgg81 Try.sizeOf81 rfl) rfl rfl rfl ?_
        refine V_alloc Try.zeroValue81 rfl ?_
        intro b49 w50 h51
        refine V_storeNew h51 Try.sizeOf81 rfl rfl rfl rfl (by exact (List.forall_mem_cons.2 ⟨rfl, (List.forall_mem_cons.2 ⟨rfl, (fun _ h => nomatch h)⟩)⟩)) ?_
        intro w52 h53
        have hk55 := h53.kp
        have h54 : El (α := cal_Change) A25 w52 b49 0 x44 := h53.el hA ⟨[.int .i64 x44.at_], _, rfl, rfl, rfl⟩
        have ht56 := Kp.tr hk55 hA hB
        replace hH := Hp.kp hH hk55
        replace h13 := Sl.tr h13 ht56
        replace h47 := El.tr h47 ht56
        replace hK := Tr.trans hK ht56
        replace hr16 := Tr.trans hr16 ht56
        replace hr38 := Tr.trans hr38 ht56
        replace hB := Nat.le_trans hB ht56.ex.size
        replace hA := ht56.new
        refine V_to (fun _ _ => rfl) ?_
        refine C_seq ?_
        refine C_region ?_
        have h57 := El_cal_Change_0 h54
        refine V_y (Y_fieldAddr Try.underlying81 rfl Try.sizeOf3 (by decide) rfl) rfl rfl rfl ?_
        refine V_y (Y_load (El.int h57) Try.isAgg3 rfl) rfl rfl rfl ?_
        refine V_y (Y_move rfl) rfl rfl rfl ?_
        refine V_y (Y_leq rfl rfl) rfl rfl rfl ?_
        refine V_to (fun _ _ => rfl) ?_
        obtain ⟨s59, ho58, ho36⟩ := Option.bind_eq_some_iff.1 ho36
        refine C_cutG (ι := Unit) (fun (_ : Unit) => [(1, .int .i64 m), (5, .int .i64 s59), (11, v11), (12, .int .i64 (z.changes.length : Int)), (13, .int .i64 (k17 : Int))]) (fun (_ : Unit) => fun w' => w52 = w') ?_ ?_
        · refine C_cond rfl (fun hc64 => ?_) (fun hc64 => ?_)
          · rw [if_pos hc64] at ho58
            refine C_region ?_
            have h65 := El_cal_Change_1 h54
            refine V_y (Y_fieldAddr Try.underlying81 rfl Try.sizeOf3 (by decide) rfl) rfl rfl rfl ?_
            refine V_y (Y_load (El.int h65) Try.isAgg3 rfl) rfl rfl rfl ?_
            refine V_y (Y_assign rfl) rfl rfl rfl ?_
            obtain rfl := Option.some.inj ho58
            refine V_end (fun a ha66 => ?_)
            exact ⟨(), ha66.sub ⟨rfl, rfl, rfl, rfl, rfl, trivial⟩, rfl⟩
          · rw [if_neg (nt hc64)] at ho58
            obtain rfl := Option.some.inj ho58
            refine C_skip (fun a ha67 => ?_)
            exact ⟨(), ha67.sub ⟨rfl, rfl, rfl, rfl, rfl, trivial⟩, rfl⟩
        rintro _ _ rfl a ha63
        obtain rfl := Option.some.inj ho36
        exact ⟨A25, ha63.sub ⟨rfl, rfl, rfl, rfl, rfl, trivial⟩, ⟨hH, hr38⟩⟩
      rintro A42 w39 ⟨hH43, hk40⟩ a ha41
      replace h13 := Sl.tr h13 hk40
      replace hK := Tr.trans hK hk40
      replace hr16 := Tr.trans hr16 hk40
      replace hB := Nat.le_trans hB hk40.ex.size
      replace hA := hk40.new
      replace hH : Hp w.heap.size A42 w39 ([]) := hH43
      refine C_at (n := ⟨25, [], none⟩) (fun _ _ => rfl) ?_ ha41
      refine C_region ?_
      refine V_y (Y_addI rfl rfl) rfl rfl rfl ?_
      refine V_y (Y_move rfl) rfl rfl rfl ?_
      obtain rfl := Option.some.inj h28
      refine V_end (fun a ha69 => ?_)
      exact ⟨s37, hlt31, h29, ⟨A42, ha69.sub ⟨rfl, rfl, rfl, rfl, (congrArg (fun z => some (Value.int .i64 z)) (w64_succ hlt31 hn34)), trivial⟩, ⟨hH, hr16⟩⟩⟩
    · refine C_exit (fun a ha70 => ?_)
      exact ⟨(s23, A25), ha70.sub ⟨rfl, trivial⟩, ⟨(h32 (eq_of_dec hle30 hc35)).symm, hH, hr16⟩⟩
  rintro ⟨s15, A21⟩ w18 ⟨rfl, hH22, hk19⟩ a ha20
  rw [Lp.andThen_fin] at hm
  replace hK := Tr.trans hK hk19
  replace hB := Nat.le_trans hB hk19.ex.size
  replace hA := hk19.new
  replace hH : Hp w.heap.size A21 w18 ([]) := hH22
  refine C_at (n := ⟨25, [], none⟩) (fun _ _ => rfl) ?_ ha20
  refine C_seq ?_
  refine C_region ?_
  refine V_y (Y_move rfl) rfl rfl rfl ?_
  refine V_y (Y_assign rfl) rfl rfl rfl ?_
  refine V_to (fun _ _ => rfl) ?_
  obtain rfl := Option.some.inj hm
  refine C_ret ?_
  try simp only [↓inBlock_ret, ↓then_ret]
  exact retQ rfl (Res.one Try.results18 rfl) ⟨rfl, hK.kp⟩

set_option maxRecDepth 4000 in
set_option maxHeartbeats 4000000 in
theorem portref2_LocalIn_c (w : World) {A : Nat → Prop} (hA : ∀ b, w.heap.size ≤ b → A b) (z : cal_Zone) (v_z : Value) (h_z : Sl A w v_z z.changes) (m : Int) {r : (Int × Int)} (hm : portref2_LocalIn z m = some r) : Ret Try.prog 17 #[.agg #[.int .i64 z.offset, v_z], .int .i64 m] w fun v w' => v = .tuple #[.int .i64 r.1, .int .i64 r.2] ∧ Kp w w' := by
  unfold portref2_LocalIn at hm
  refine enter Try.func17 rfl Try.ntmps17 rfl ?_
  have hA0 := hA
  have hB := Nat.le_refl w.heap.size
  have hK : Tr w.heap.size A w A w := Tr.refl hA
  have hH : Hp w.heap.size A w [] := Hp.nil
  refine C_seq ?_
  refine C_region ?_
  refine V_box rfl rfl ?_
  intro b3 w4 h5
  have hk7 := h5.kp
  have h6 : El (α := cal_Zone) A w4 b3 0 z := h5.el hA ⟨[.int .i64 z.offset], _, rfl, rfl, ⟨_, rfl, h_z⟩⟩
  have ht8 := Kp.tr hk7 hA hB
  replace hH := Hp.kp hH hk7
  replace h_z := Sl.tr h_z ht8
  replace hK := Tr.trans hK ht8
  replace hB := Nat.le_trans hB ht8.ex.size
  replace hA := ht8.new
  refine V_y (Y_assign rfl) rfl rfl rfl ?_
  refine V_y (Y_assign rfl) rfl rfl rfl ?_
  refine V_to (fun _ _ => rfl) ?_
  refine C_seq ?_
  refine C_region ?_
  refine V_y (Y_move rfl) rfl rfl rfl ?_
  obtain ⟨v9, h11, h10⟩ := El_cal_Zone h6
  refine V_y (Y_loadA h11 Try.isAgg24 Try.sizeOf24 rfl) rfl rfl rfl ?_
  refine V_y (Y_move rfl) rfl rfl rfl ?_
  obtain ⟨x12, hx12, hm⟩ := Option.bind_eq_some_iff.1 hm
  refine V_call Try.call18 rfl rfl rfl rfl (portref2_OffsetIn_c w4 hA z v9 h10 m hx12) ?_
  rintro _ w13 ⟨rfl, hk14⟩
  have ht15 := Kp.tr hk14 hA hB
  replace hH := Hp.kp hH hk14
  replace h6 := El.tr h6 ht15
  replace h10 := Sl.tr h10 ht15
  replace hK := Tr.trans hK ht15
  replace hB := Nat.le_trans hB ht15.ex.size
  replace hA := ht15.new
  refine V_y (Y_addI rfl rfl) rfl rfl rfl ?_
  obtain ⟨x16, hx16, hm⟩ := Option.bind_eq_some_iff.1 hm
  refine V_call Try.call61 rfl rfl rfl rfl (portref2_floorDiv_c w13 hA (w64 (m + x12)) 1440 hx16) ?_
  rintro _ w17 ⟨rfl, hk18⟩
  have ht19 := Kp.tr hk18 hA hB
  replace hH := Hp.kp hH hk18
  replace h6 := El.tr h6 ht19
  replace h10 := Sl.tr h10 ht19
  replace hK := Tr.trans hK ht19
  replace hB := Nat.le_trans hB ht19.ex.size
  replace hA := ht19.new
  refine V_y (Y_extract rfl rfl) rfl rfl rfl ?_
  refine V_y (Y_extract rfl rfl) rfl rfl rfl ?_
  refine V_y (Y_assign rfl) rfl rfl rfl ?_
  refine V_y (Y_assign rfl) rfl rfl rfl ?_
  refine V_to (fun _ _ => rfl) ?_
  obtain rfl := Option.some.inj hm
  refine C_ret ?_
  try simp only [↓inBlock_ret, ↓then_ret]
  exact retQ rfl (Res.two Try.results17 rfl rfl) ⟨rfl, hK.kp⟩

set_option maxRecDepth 4000 in
set_option maxHeartbeats 4000000 in
theorem portref2_Clock_shifts_c (w : World) {A : Nat → Prop} {B : Nat} (hB : B ≤ w.heap.size) (hA : ∀ b, w.heap.size ≤ b → A b) (k : cal_Calendar) (b_k : Nat) (day : Int) {L : List Ob} (hH : Hp B A w (obCk 102 portref2_ShiftsIn b_k k :: L)) {r : (List cal_Shift)} (hm : portref2_Clock_shifts k day = some r) : Ret Try.prog 68 #[.pointer (some ⟨b_k, 0, none⟩), .int .i64 day] w fun v w' => ∃ s0, ∃ A1 : Nat → Prop, v = s0 ∧ Sl A1 w' s0 r ∧ Hp B A1 w' (obCk 102 portref2_ShiftsIn b_k k :: L) ∧ Tr B A w A1 w' := by
  unfold portref2_Clock_shifts at hm
  refine enter Try.func68 rfl Try.ntmps68 rfl ?_
  have hK : Tr B A w A w := Tr.refl hA
  obtain ⟨⟨mb, cs⟩, hH⟩ := Hp.open hH
  have hr : GoT.rep A w cs k := by
    obtain ⟨_, ⟨_, hr⟩, _⟩ := hH.at (i := 0) rfl
    exact hr
  have hr0 := hr
  obtain ⟨u0, u1, u2, rfl, s0, s1, s2⟩ := Rep_cal_Calendar hr0
  replace hH : Hp B A w (obC b_k [.int .i64 k.zone.offset, u0, u1, u2, .map (some mb)] 102 :: obMF (portref2_ShiftsIn k) mb :: L) := hH.drops (L := [_])
  refine C_seq ?_
  refine C_region ?_
  refine V_y (Y_assign rfl) rfl rfl rfl ?_
  refine V_to (fun _ _ => rfl) ?_
  refine C_seq ?_
  refine C_region ?_
  refine V_y (Y_move rfl) rfl rfl rfl ?_
  refine V_y (Y_nilCheck rfl) rfl rfl rfl ?_
  refine V_y (Y_fieldAddrC (off2 := 4) Try.underlying102 rfl Try.sizeOf100 (by decide) rfl rfl) rfl rfl rfl ?_
  refine V_y (Y_load (Hp.cell (j := 4) hH (i := 0) rfl rfl) Try.isAgg100 rfl) rfl rfl rfl ?_
  refine V_y (Y_move rfl) rfl rfl rfl ?_
  refine V_lookupF hH (i := 1) rfl Try.underlying100 Try.underlying3 Try.zeroValue45 rfl rfl rfl ?_ ?_
  · intro v l hl hs
    rw [hm] at hl
    obtain rfl := Option.some.inj hl
    refine V_y (Y_move rfl) rfl rfl rfl ?_
    refine V_y (Y_extract rfl rfl) rfl rfl rfl ?_
    refine V_y (Y_extract rfl rfl) rfl rfl rfl ?_
    refine V_y (Y_assign rfl) rfl rfl rfl ?_
    refine V_y (Y_assign rfl) rfl rfl rfl ?_
    refine V_to (fun _ _ => rfl) ?_
    refine C_seq ?_
    refine C_seq ?_
    refine C_region ?_
    refine V_y (Y_move rfl) rfl rfl rfl ?_
    refine V_y (Y_not rfl) rfl rfl rfl ?_
    refine V_to (fun _ _ => rfl) ?_
    refine C_cond rfl (fun hc => by cases hc) (fun hc => ?_)
    refine C_skip_to (fun _ _ => rfl) ?_
    have h4 : Hp B A w (ckL 102 portref2_ShiftsIn b_k k (mb, [.int .i64 k.zone.offset, u0, u1, u2]) ++ L) := hH.free (O' := obF (fun A w => GoT.rep A w [.int .i64 k.zone.offset, u0, u1, u2] k) (fun h he => GoT.keep h he)) ⟨rfl, hr⟩
    refine C_seq ?_
    refine C_region ?_
    refine V_y (Y_move rfl) rfl rfl rfl ?_
    refine V_y (Y_assign rfl) rfl rfl rfl ?_
    refine V_to (fun _ _ => rfl) ?_
    refine C_ret ?_
    try simp only [↓inBlock_ret, ↓then_ret]
    exact retQ rfl (Res.one Try.results68 rfl) ⟨_, A, rfl, hs, Hp.pack _ h4, hK⟩
  · refine V_y (Y_move rfl) rfl rfl rfl ?_
    refine V_y (Y_extract rfl rfl) rfl rfl rfl ?_
    refine V_y (Y_extract rfl rfl) rfl rfl rfl ?_
    refine V_y (Y_assign rfl) rfl rfl rfl ?_
    refine V_y (Y_assign rfl) rfl rfl rfl ?_
    refine V_to (fun _ _ => rfl) ?_
    refine C_seq ?_
    refine C_seq ?_
    refine C_region ?_
    refine V_y (Y_move rfl) rfl rfl rfl ?_
    refine V_y (Y_not rfl) rfl rfl rfl ?_
    refine V_to (fun _ _ => rfl) ?_
    refine C_cond rfl (fun hc => ?_) (fun hc => by cases hc)
    refine C_seq ?_
    refine C_region ?_
    refine V_y (Y_move rfl) rfl rfl rfl ?_
    refine V_y (Y_nilCheck rfl) rfl rfl rfl ?_
    refine V_y (Y_fieldAddrC (off2 := 0) Try.underlying102 rfl Try.sizeOf48 (by decide) rfl rfl) rfl rfl rfl ?_
    have hat : At w b_k 0 [.int .i64 k.zone.offset, u0, u1, u2] := Hp.part (n := 4) (i := 0) hH rfl rfl
    refine V_y (Y_loadA hat Try.isAgg48 Try.sizeOf48 rfl) rfl rfl rfl ?_
    refine V_y (Y_move rfl) rfl rfl rfl ?_
    refine V_call Try.call31 rfl rfl rfl rfl (portref2_ShiftsIn_c w hA k u0 s0 u1 s1 u2 s2 day hm) ?_
    rintro s1 w1 ⟨_, rfl, hs, hk⟩
    have t1 := Kp.tr hk hA hB
    replace hH := Hp.kp hH hk
    replace hr := GoT.keep hr t1.ex
    replace hK := Tr.trans hK t1
    replace hB := Nat.le_trans hB t1.ex.size
    replace hA := t1.new
    refine V_y (Y_assign rfl) rfl rfl rfl ?_
    refine V_to (fun _ _ => rfl) ?_
    refine C_region ?_
    refine V_y (Y_move rfl) rfl rfl rfl ?_
    refine V_y (Y_nilCheck rfl) rfl rfl rfl ?_
    refine V_y (Y_fieldAddrC (off2 := 4) Try.underlying102 rfl Try.sizeOf100 (by decide) rfl rfl) rfl rfl rfl ?_
    refine V_y (Y_load (Hp.cell (j := 4) hH (i := 0) rfl rfl) Try.isAgg100 rfl) rfl rfl rfl ?_
    refine V_y (Y_move rfl) rfl rfl rfl ?_
    refine V_y (Y_move rfl) rfl rfl rfl ?_
    refine V_mapUpdateF hH (i := 1) rfl Try.underlying100 Try.underlying3 hm hs rfl rfl rfl hB hA ?_
    intro w2 h2 t2
    replace hH : Hp B A w2 (obC b_k [.int .i64 k.zone.offset, u0, u1, u2, .map (some mb)] 102 :: obMF (portref2_ShiftsIn k) mb :: L) := h2
    replace hs := Sl.tr hs t2
    replace hr := GoT.keep hr t2.ex
    replace hK := Tr.trans hK t2
    refine V_to (fun _ _ => rfl) ?_
    have h4 : Hp B A w2 (ckL 102 portref2_ShiftsIn b_k k (mb, [.int .i64 k.zone.offset, u0, u1, u2]) ++ L) := hH.free (O' := obF (fun A w => GoT.rep A w [.int .i64 k.zone.offset, u0, u1, u2] k) (fun h he => GoT.keep h he)) ⟨rfl, hr⟩
    refine C_seq ?_
    refine C_region ?_
    refine V_y (Y_move rfl) rfl rfl rfl ?_
    refine V_y (Y_assign rfl) rfl rfl rfl ?_
    refine V_to (fun _ _ => rfl) ?_
    refine C_ret ?_
    try simp only [↓inBlock_ret, ↓then_ret]
    exact retQ rfl (Res.one Try.results68 rfl) ⟨_, A, rfl, hs, Hp.pack _ h4, hK⟩

set_option maxRecDepth 4000 in
set_option maxHeartbeats 4000000 in
theorem portref2_Clock_Open_c (w : World) {A : Nat → Prop} {B : Nat} (hB : B ≤ w.heap.size) (hA : ∀ b, w.heap.size ≤ b → A b) (k_ : cal_Calendar) (b_k_ : Nat) (m : Int) {L : List Ob} (hH : Hp B A w (obCk 102 portref2_ShiftsIn b_k_ k_ :: L)) {r : Bool} (hm : portref2_Clock_Open k_ m = some r) : Ret Try.prog 34 #[.pointer (some ⟨b_k_, 0, none⟩), .int .i64 m] w fun v w' => ∃ A1 : Nat → Prop, v = .bool r ∧ Hp B A1 w' (obCk 102 portref2_ShiftsIn b_k_ k_ :: L) ∧ Tr B A w A1 w' := by
  unfold portref2_Clock_Open at hm
  refine enter Try.func34 rfl Try.ntmps34 rfl ?_
  have hK : Tr B A w A w := Tr.refl hA
  refine C_seq ?_
  refine C_region ?_
  refine V_y (Y_assign rfl) rfl rfl rfl ?_
  refine V_to (fun _ _ => rfl) ?_
  refine C_seq ?_
  refine C_region ?_
  refine V_y (Y_move rfl) rfl rfl rfl ?_
  refine V_y (Y_nilCheck rfl) rfl rfl rfl ?_
  have h1 := Hp.ck (tb := 102) (F := portref2_ShiftsIn) (b := b_k_) (c := k_) hH (i := 0) rfl
  refine V_y (Y_fieldAddrC (off2 := 0) Try.underlying102 rfl Try.sizeOf48 (by decide) rfl rfl) rfl rfl rfl ?_
  have h2 := El_cal_Calendar_0 h1
  refine V_y (Y_fieldAddr Try.underlying48 rfl Try.sizeOf24 (by decide) rfl) rfl rfl rfl ?_
  obtain ⟨v3, h5, h4⟩ := El_cal_Zone h2
  refine V_y (Y_loadA h5 Try.isAgg24 Try.sizeOf24 rfl) rfl rfl rfl ?_
  refine V_y (Y_move rfl) rfl rfl rfl ?_
  obtain ⟨x6, hx6, hm⟩ := Option.bind_eq_some_iff.1 hm
  refine V_call Try.call17 rfl rfl rfl rfl (portref2_LocalIn_c w (A := fun _ => True) (fun _ _ => trivial) k_.zone v3 (Sl.any h4) m hx6) ?_
  rintro _ w7 ⟨rfl, hk8⟩
  have ht9 := Kp.tr hk8 hA hB
  replace hH := Hp.kp hH hk8
  replace h1 := El.kp h1 hk8
  replace h2 := El.kp h2 hk8
  replace h4 := Sl.kp h4 hk8
  replace hK := Tr.trans hK ht9
  replace hB := Nat.le_trans hB ht9.ex.size
  replace hA := ht9.new
  refine V_y (Y_move rfl) rfl rfl rfl ?_
  refine V_y (Y_extract rfl rfl) rfl rfl rfl ?_
  refine V_y (Y_extract rfl rfl) rfl rfl rfl ?_
  refine V_y (Y_assign rfl) rfl rfl rfl ?_
  refine V_y (Y_assign rfl) rfl rfl rfl ?_
  refine V_to (fun _ _ => rfl) ?_
  refine C_seq ?_
  refine C_seq ?_
  refine C_region ?_
  refine V_y (Y_move rfl) rfl rfl rfl ?_
  refine V_y (Y_move rfl) rfl rfl rfl ?_
  obtain ⟨x10, hx10, hm⟩ := Option.bind_eq_some_iff.1 hm
  refine V_call Try.call68 rfl rfl rfl rfl (portref2_Clock_shifts_c w7 hB hA k_ b_k_ x6.1 hH hx10) ?_
  rintro v11 w13 ⟨_, A14, rfl, h12, hH15, ht16⟩
  replace hK := Tr.trans hK ht16
  replace hB := Nat.le_trans hB ht16.ex.size
  replace hA := ht16.new
  replace hH : Hp B A14 w13 (obCk 102 portref2_ShiftsIn b_k_ k_ :: L) := hH15
  refine V_y (Y_lenSl h12 rfl Try.underlying45 rfl) rfl rfl rfl ?_
  refine V_y (Y_move rfl) rfl rfl rfl ?_
  refine V_to (fun _ _ => rfl) ?_
  have hn37 := Sl.le h12
  obtain ⟨o17, ho17, hm⟩ := Option.bind_eq_some_iff.1 hm
  refine C_cutG (ι := (Unit × (Nat → Prop))) (fun ⟨s18, A24⟩ => [(0, .pointer (some ⟨b_k_, 0, none⟩)), (5, .int .i64 x6.1), (6, .int .i64 x6.2)]) (fun ⟨s18, A24⟩ => fun w' => o17 = .fin s18 ∧ Hp B A24 w' (obCk 102 portref2_ShiftsIn b_k_ k_ :: L) ∧ Tr B A14 w13 A24 w') ?_ ?_
  · refine C_block ?_
    refine C_range ho17 (fun k20 _ a w' => ∃ i : (Nat → Prop), Has ⟨62, [], none⟩ a ([(0, .pointer (some ⟨b_k_, 0, none⟩)), (5, .int .i64 x6.1), (6, .int .i64 x6.2), (23, v11), (24, .int .i64 (x10.length : Int)), (25, .int .i64 (k20 : Int))]) ∧ Hp B i w' (obCk 102 portref2_ShiftsIn b_k_ k_ :: L) ∧ Tr B A14 w13 i w') (fun a ha => ⟨A14, ha.sub ⟨rfl, rfl, rfl, rfl, rfl, rfl, trivial⟩, ⟨hH, Tr.refl hA⟩⟩) ?_
    rintro K k20 _ a w27 ⟨A28, ha59, hH29, hr19⟩ hle33 K36 h35
    refine C_of ?_ ha59
    replace h12 := Sl.tr h12 hr19
    replace hK := Tr.trans hK hr19
    replace hB := Nat.le_trans hB hr19.ex.size
    replace hA := hr19.new
    replace hH : Hp B A28 w27 (obCk 102 portref2_ShiftsIn b_k_ k_ :: L) := hH29
    refine C_seq (C_region (V_y (Y_lss rfl rfl) rfl rfl rfl (V_to (fun _ _ => rfl) ?_)))
    refine C_seq ?_
    refine C_cond rfl (fun hc38 => ?_) (fun hc38 => ?_)
    · have hlt34 := lt_of_dec hc38
      obtain ⟨x30, h31, h32⟩ := K36 hlt34
      refine C_skip_to (fun _ _ => rfl) ?_
      refine C_seq ?_
      refine C_block ?_
      refine C_seq ?_
      refine C_region ?_
      obtain ⟨x39, hx39, h31⟩ := Option.bind_eq_some_iff.1 h31
      refine V_indexAddr h12 hx39 Try.underlying45 Try.sizeOf60 rfl rfl rfl ?_
      intro b40 o41 h42
      obtain ⟨h43, _⟩ := El_cal_Shift h42
      refine V_y (Y_loadA h43 Try.isAgg60 Try.sizeOf60 rfl) rfl rfl rfl ?_
      refine V_alloc Try.zeroValue60 rfl ?_
      intro b44 w45 h46
      refine V_storeNew h46 Try.sizeOf60 rfl rfl rfl rfl (by exact (List.forall_mem_cons.2 ⟨rfl, (List.forall_mem_cons.2 ⟨rfl, (List.forall_mem_cons.2 ⟨rfl, (fun _ h => nomatch h)⟩)⟩)⟩)) ?_
      intro w47 h48
      have hk50 := h48.kp
      have h49 : El (α := cal_Shift) A28 w47 b44 0 x39 := h48.el hA ⟨[.int .i64 x39.day], _, rfl, rfl, ⟨[.int .i64 x39.from_], _, rfl, rfl, rfl⟩⟩
      have ht51 := Kp.tr hk50 hA hB
      replace hH := Hp.kp hH hk50
      replace h12 := Sl.tr h12 ht51
      replace h42 := El.tr h42 ht51
      replace hK := Tr.trans hK ht51
      replace hr19 := Tr.trans hr19 ht51
      replace hB := Nat.le_trans hB ht51.ex.size
      replace hA := ht51.new
      refine V_to (fun _ _ => rfl) ?_
      refine C_seq ?_
      refine C_region ?_
      have h52 := El_cal_Shift_1 h49
      refine V_y (Y_fieldAddr Try.underlying60 rfl Try.sizeOf3 (by decide) rfl) rfl rfl rfl ?_
      refine V_y (Y_load (El.int h52) Try.isAgg3 rfl) rfl rfl rfl ?_
      refine V_y (Y_move rfl) rfl rfl rfl ?_
      refine V_y (Y_leq rfl rfl) rfl rfl rfl ?_
      refine V_y (Y_move rfl) rfl rfl rfl ?_
      refine V_cut 5 (fun _ : Unit => [(0, .pointer (some ⟨b_k_, 0, none⟩)), (5, .int .i64 x6.1), (6, .int .i64 x6.2), (23, v11), (24, .int .i64 (x10.length : Int)), (25, .int .i64 (k20 : Int)), (38, .bool ((decide (x39.from_ ≤ x6.2)) && (decide (x6.2 < x39.to_))))]) (fun _ w' => w47 = w') ?_ ?_
      · simp only [List.take, List.drop]
        rcases Bool.eq_false_or_eq_true (decide (x39.from_ ≤ x6.2)) with hc53 | hc53
        · refine V_ge rfl rfl rfl hc53 ?_
          refine V_y (Y_move rfl) rfl rfl rfl ?_
          refine V_ge rfl rfl rfl hc53 ?_
          have h55 := El_cal_Shift_2 h49
          refine V_y (Y_fieldAddr Try.underlying60 rfl Try.sizeOf3 (by decide) rfl) rfl rfl rfl ?_
          refine V_ge rfl rfl rfl hc53 ?_
          refine V_y (Y_load (El.int h55) Try.isAgg3 rfl) rfl rfl rfl ?_
          refine V_ge rfl rfl rfl hc53 ?_
          refine V_y (Y_lss rfl rfl) rfl rfl rfl ?_
          refine V_y (Y_pick_te rfl hc53 rfl) rfl rfl rfl ?_
          exact V_end fun a ha => ⟨(), ha.sub ⟨rfl, rfl, rfl, rfl, rfl, rfl, (by rw [hc53]; rfl), trivial⟩, rfl⟩
        · refine V_gn rfl rfl rfl hc53 rfl rfl rfl ?_
          refine V_gn rfl rfl rfl hc53 rfl rfl rfl ?_
          refine V_gn rfl rfl rfl hc53 rfl rfl rfl ?_
          refine V_gn rfl rfl rfl hc53 rfl rfl rfl ?_
          refine V_y (Y_pick_fe rfl hc53 rfl) rfl rfl rfl ?_
          exact V_end fun a ha => ⟨(), ha.sub ⟨rfl, rfl, rfl, rfl, rfl, rfl, (by rw [hc53]; rfl), trivial⟩, rfl⟩
      simp only [List.take, List.drop]
      rintro _ _ rfl
      refine V_to (fun _ _ => rfl) ?_
      refine C_cond rfl (fun hc56 => ?_) (fun hc56 => ?_)
      · rw [if_pos hc56] at h31
        refine C_seq ?_
        refine C_region ?_
        refine V_y (Y_assign rfl) rfl rfl rfl ?_
        refine V_to (fun _ _ => rfl) ?_
        obtain rfl := Option.some.inj h31
        obtain rfl := (h32 : Lp.rt _ = _)
        rw [Lp.andThen_rt] at hm
        obtain rfl := Option.some.inj hm
        refine C_ret ?_
        try simp only [↓inBlock_ret, ↓then_ret]
        exact retQ rfl (Res.one Try.results34 rfl) ⟨A28, rfl, hH, hK⟩
      · rw [if_neg (nt hc56)] at h31
        refine C_skip_to (fun _ _ => rfl) ?_
        refine C_region ?_
        refine V_y (Y_addI rfl rfl) rfl rfl rfl ?_
        refine V_y (Y_move rfl) rfl rfl rfl ?_
        obtain rfl := Option.some.inj h31
        refine V_end (fun a ha57 => ?_)
        exact ⟨(), hlt34, h32, ⟨A28, ha57.sub ⟨rfl, rfl, rfl, rfl, rfl, (congrArg (fun z => some (Value.int .i64 z)) (w64_succ hlt34 hn37)), trivial⟩, ⟨hH, hr19⟩⟩⟩
    · refine C_exit (fun a ha58 => ?_)
      exact ⟨((), A28), ha58.sub ⟨rfl, rfl, rfl, trivial⟩, ⟨(h35 (eq_of_dec hle33 hc38)).symm, hH, hr19⟩⟩
  rintro ⟨s18, A24⟩ w21 ⟨rfl, hH25, hk22⟩ a ha23
  rw [Lp.andThen_fin] at hm
  replace hK := Tr.trans hK hk22
  replace hB := Nat.le_trans hB hk22.ex.size
  replace hA := hk22.new
  replace hH : Hp B A24 w21 (obCk 102 portref2_ShiftsIn b_k_ k_ :: L) := hH25
  refine C_at (n := ⟨62, [], none⟩) (fun _ _ => rfl) ?_ ha23
  refine C_seq ?_
  refine C_seq ?_
  refine C_region ?_
  refine V_y (Y_move rfl) rfl rfl rfl ?_
  refine V_y (Y_move rfl) rfl rfl rfl ?_
  refine V_y (Y_subI rfl rfl) rfl rfl rfl ?_
  obtain ⟨x60, hx60, hm⟩ := Option.bind_eq_some_iff.1 hm
  refine V_call Try.call68 rfl rfl rfl rfl (portref2_Clock_shifts_c w21 hB hA k_ b_k_ (w64 (x6.1 - 1)) hH hx60) ?_
  rintro v61 w63 ⟨_, A64, rfl, h62, hH65, ht66⟩
  replace hK := Tr.trans hK ht66
  replace hB := Nat.le_trans hB ht66.ex.size
  replace hA := ht66.new
  replace hH : Hp B A64 w63 (obCk 102 portref2_ShiftsIn b_k_ k_ :: L) := hH65
  refine V_y (Y_lenSl h62 rfl Try.underlying45 rfl) rfl rfl rfl ?_
  refine V_y (Y_move rfl) rfl rfl rfl ?_
  refine V_to (fun _ _ => rfl) ?_
  have hn87 := Sl.le h62
  obtain ⟨o67, ho67, hm⟩ := Option.bind_eq_some_iff.1 hm
  refine C_cutG (ι := (Unit × (Nat → Prop))) (fun ⟨s68, A74⟩ => []) (fun ⟨s68, A74⟩ => fun w' => o67 = .fin s68 ∧ Hp B A74 w' (obCk 102 portref2_ShiftsIn b_k_ k_ :: L) ∧ Tr B A64 w63 A74 w') ?_ ?_
  · refine C_block ?_
    refine C_range ho67 (fun k70 _ a w' => ∃ i : (Nat → Prop), Has ⟨62, [], none⟩ a ([(6, .int .i64 x6.2), (43, v61), (44, .int .i64 (x60.length : Int)), (45, .int .i64 (k70 : Int))]) ∧ Hp B i w' (obCk 102 portref2_ShiftsIn b_k_ k_ :: L) ∧ Tr B A64 w63 i w') (fun a ha => ⟨A64, ha.sub ⟨rfl, rfl, rfl, rfl, trivial⟩, ⟨hH, Tr.refl hA⟩⟩) ?_
    rintro K k70 _ a w77 ⟨A78, ha109, hH79, hr69⟩ hle83 K86 h85
    refine C_of ?_ ha109
    replace h62 := Sl.tr h62 hr69
    replace hK := Tr.trans hK hr69
    replace hB := Nat.le_trans hB hr69.ex.size
    replace hA := hr69.new
    replace hH : Hp B A78 w77 (obCk 102 portref2_ShiftsIn b_k_ k_ :: L) := hH79
    refine C_seq (C_region (V_y (Y_lss rfl rfl) rfl rfl rfl (V_to (fun _ _ => rfl) ?_)))
    refine C_seq ?_
    refine C_cond rfl (fun hc88 => ?_) (fun hc88 => ?_)
    · have hlt84 := lt_of_dec hc88
      obtain ⟨x80, h81, h82⟩ := K86 hlt84
      refine C_skip_to (fun _ _ => rfl) ?_
      refine C_seq ?_
      refine C_block ?_
      refine C_seq ?_
      refine C_region ?_
      obtain ⟨x89, hx89, h81⟩ := Option.bind_eq_some_iff.1 h81
      refine V_indexAddr h62 hx89 Try.underlying45 Try.sizeOf60 rfl rfl rfl ?_
      intro b90 o91 h92
      obtain ⟨h93, _⟩ := El_cal_Shift h92
      refine V_y (Y_loadA h93 Try.isAgg60 Try.sizeOf60 rfl) rfl rfl rfl ?_
      refine V_alloc Try.zeroValue60 rfl ?_
      intro b94 w95 h96
      refine V_storeNew h96 Try.sizeOf60 rfl rfl rfl rfl (by exact (List.forall_mem_cons.2 ⟨rfl, (List.forall_mem_cons.2 ⟨rfl, (List.forall_mem_cons.2 ⟨rfl, (fun _ h => nomatch h)⟩)⟩)⟩)) ?_
      intro w97 h98
      have hk100 := h98.kp
      have h99 : El (α := cal_Shift) A78 w97 b94 0 x89 := h98.el hA ⟨[.int .i64 x89.day], _, rfl, rfl, ⟨[.int .i64 x89.from_], _, rfl, rfl, rfl⟩⟩
      have ht101 := Kp.tr hk100 hA hB
      replace hH := Hp.kp hH hk100
      replace h62 := Sl.tr h62 ht101
      replace h92 := El.tr h92 ht101
      replace hK := Tr.trans hK ht101
      replace hr69 := Tr.trans hr69 ht101
      replace hB := Nat.le_trans hB ht101.ex.size
      replace hA := ht101.new
      refine V_to (fun _ _ => rfl) ?_
      refine C_seq ?_
      refine C_region ?_
      have h102 := El_cal_Shift_1 h99
      refine V_y (Y_fieldAddr Try.underlying60 rfl Try.sizeOf3 (by decide) rfl) rfl rfl rfl ?_
      refine V_y (Y_load (El.int h102) Try.isAgg3 rfl) rfl rfl rfl ?_
      refine V_y (Y_move rfl) rfl rfl rfl ?_
      refine V_y (Y_addI rfl rfl) rfl rfl rfl ?_
      refine V_y (Y_leq rfl rfl) rfl rfl rfl ?_
      refine V_y (Y_move rfl) rfl rfl rfl ?_
      refine V_cut 6 (fun _ : Unit => [(6, .int .i64 x6.2), (43, v61), (44, .int .i64 (x60.length : Int)), (45, .int .i64 (k70 : Int)), (60, .bool ((decide (x89.from_ ≤ (w64 (x6.2 + 1440)))) && (decide ((w64 (x6.2 + 1440)) < x89.to_))))]) (fun _ w' => w97 = w') ?_ ?_
      · simp only [List.take, List.drop]
        rcases Bool.eq_false_or_eq_true (decide (x89.from_ ≤ (w64 (x6.2 + 1440)))) with hc103 | hc103
        · refine V_ge rfl rfl rfl hc103 ?_
          refine V_y (Y_move rfl) rfl rfl rfl ?_
          refine V_ge rfl rfl rfl hc103 ?_
          refine V_y (Y_addI rfl rfl) rfl rfl rfl ?_
          refine V_ge rfl rfl rfl hc103 ?_
          have h105 := El_cal_Shift_2 h99
          refine V_y (Y_fieldAddr Try.underlying60 rfl Try.sizeOf3 (by decide) rfl) rfl rfl rfl ?_
          refine V_ge rfl rfl rfl hc103 ?_
          refine V_y (Y_load (El.int h105) Try.isAgg3 rfl) rfl rfl rfl ?_
          refine V_ge rfl rfl rfl hc103 ?_
          refine V_y (Y_lss rfl rfl) rfl rfl rfl ?_
          refine V_y (Y_pick_te rfl hc103 rfl) rfl rfl rfl ?_
          exact V_end fun a ha => ⟨(), ha.sub ⟨rfl, rfl, rfl, rfl, (by rw [hc103]; rfl), trivial⟩, rfl⟩
        · refine V_gn rfl rfl rfl hc103 rfl rfl rfl ?_
          refine V_gn rfl rfl rfl hc103 rfl rfl rfl ?_
          refine V_gn rfl rfl rfl hc103 rfl rfl rfl ?_
          refine V_gn rfl rfl rfl hc103 rfl rfl rfl ?_
          refine V_gn rfl rfl rfl hc103 rfl rfl rfl ?_
          refine V_y (Y_pick_fe rfl hc103 rfl) rfl rfl rfl ?_
          exact V_end fun a ha => ⟨(), ha.sub ⟨rfl, rfl, rfl, rfl, (by rw [hc103]; rfl), trivial⟩, rfl⟩
      simp only [List.take, List.drop]
      rintro _ _ rfl
      refine V_to (fun _ _ => rfl) ?_
      refine C_cond rfl (fun hc106 => ?_) (fun hc106 => ?_)
      · rw [if_pos hc106] at h81
        refine C_seq ?_
        refine C_region ?_
        refine V_y (Y_assign rfl) rfl rfl rfl ?_
        refine V_to (fun _ _ => rfl) ?_
        obtain rfl := Option.some.inj h81
        obtain rfl := (h82 : Lp.rt _ = _)
        rw [Lp.andThen_rt] at hm
        obtain rfl := Option.some.inj hm
        refine C_ret ?_
        try simp only [↓inBlock_ret, ↓then_ret]
        exact retQ rfl (Res.one Try.results34 rfl) ⟨A78, rfl, hH, hK⟩
      · rw [if_neg (nt hc106)] at h81
        refine C_skip_to (fun _ _ => rfl) ?_
        refine C_region ?_
        refine V_y (Y_addI rfl rfl) rfl rfl rfl ?_
        refine V_y (Y_move rfl) rfl rfl rfl ?_
        obtain rfl := Option.some.inj h81
        refine V_end (fun a ha107 => ?_)
        exact ⟨(), hlt84, h82, ⟨A78, ha107.sub ⟨rfl, rfl, rfl, (congrArg (fun z => some (Value.int .i64 z)) (w64_succ hlt84 hn87)), trivial⟩, ⟨hH, hr69⟩⟩⟩
    · refine C_exit (fun a ha108 => ?_)
      exact ⟨((), A78), ha108.sub trivial, ⟨(h85 (eq_of_dec hle83 hc88)).symm, hH, hr69⟩⟩
  rintro ⟨s68, A74⟩ w71 ⟨rfl, hH75, hk72⟩ a ha73
  rw [Lp.andThen_fin] at hm
  replace hK := Tr.trans hK hk72
  replace hB := Nat.le_trans hB hk72.ex.size
  replace hA := hk72.new
  replace hH : Hp B A74 w71 (obCk 102 portref2_ShiftsIn b_k_ k_ :: L) := hH75
  refine C_at (n := ⟨62, [], none⟩) (fun _ _ => rfl) ?_ ha73
  refine C_seq ?_
  refine C_region ?_
  refine V_y (Y_assign rfl) rfl rfl rfl ?_
  refine V_to (fun _ _ => rfl) ?_
  obtain rfl := Option.some.inj hm
  refine C_ret ?_
  try simp only [↓inBlock_ret, ↓then_ret]
  exact retQ rfl (Res.one Try.results34 rfl) ⟨A74, rfl, hH, hK⟩

set_option maxRecDepth 4000 in
set_option maxHeartbeats 4000000 in
theorem portlaw2_CalOpens_c (w : World) {A : Nat → Prop} (hA : ∀ b, w.heap.size ≤ b → A b) (c : cal_Calendar) (v_c0 : Value) (h_c0 : Sl A w v_c0 c.zone.changes) (v_c1 : Value) (h_c1 : Sl A w v_c1 c.week) (v_c2 : Value) (h_c2 : Sl A w v_c2 c.specials) (day : Int) (m : Int) {r : Bool} (hm : portlaw2_CalOpens c day m = some r) : Ret Try.prog 6 #[.agg #[.int .i64 c.zone.offset, v_c0, v_c1, v_c2], .int .i64 day, .int .i64 m] w fun v w' => v = .bool r ∧ Kp w w' := by
  unfold portlaw2_CalOpens at hm
  refine enter Try.func6 rfl Try.ntmps6 rfl ?_
  have hA0 := hA
  have hB := Nat.le_refl w.heap.size
  have hK : Tr w.heap.size A w A w := Tr.refl hA
  have hH : Hp w.heap.size A w [] := Hp.nil
  refine C_seq ?_
  refine C_region ?_
  refine V_box rfl rfl ?_
  intro b7 w9 h10
  have hk12 := h10.kp
  have h11 : El (α := cal_Calendar) A w9 b7 0 c := h10.el hA ⟨[.int .i64 c.zone.offset, v_c0], _, rfl, ⟨[.int .i64 c.zone.offset], _, rfl, rfl, ⟨_, rfl, h_c0⟩⟩, ⟨[v_c1], _, rfl, ⟨_, rfl, h_c1⟩, ⟨_, rfl, h_c2⟩⟩⟩
  have ht13 := Kp.tr hk12 hA hB
  replace hH := Hp.kp hH hk12
  replace h_c0 := Sl.tr h_c0 ht13
  replace h_c1 := Sl.tr h_c1 ht13
  replace h_c2 := Sl.tr h_c2 ht13
  replace hK := Tr.trans hK ht13
  replace hB := Nat.le_trans hB ht13.ex.size
  replace hA := ht13.new
  refine V_y (Y_assign rfl) rfl rfl rfl ?_
  refine V_to (fun _ _ => rfl) ?_
  refine C_seq ?_
  refine C_region ?_
  obtain ⟨v14, v16, v18, h20, h15, h17, h19⟩ := El_cal_Calendar h11
  refine V_y (Y_loadA h20 Try.isAgg48 Try.sizeOf48 rfl) rfl rfl rfl ?_
  refine V_y (Y_move rfl) rfl rfl rfl ?_
  obtain ⟨x21, hx21, hm⟩ := Option.bind_eq_some_iff.1 hm
  refine V_call Try.call28 rfl rfl rfl rfl (cal_ShiftsOf_c w9 hA c v14 h15 v16 h17 v18 h19 day hx21) ?_
  rintro _ w24 ⟨v22, rfl, h23, hk25⟩
  obtain ⟨A26, ht27, hH28⟩ := Hp.addOwnd hH hB hA hk25 h23
  replace h11 := El.tr h11 ht27
  replace h15 := Sl.tr h15 ht27
  replace h17 := Sl.tr h17 ht27
  replace h19 := Sl.tr h19 ht27
  replace hK := Tr.trans hK ht27
  replace hB := Nat.le_trans hB ht27.ex.size
  replace hA := ht27.new
  replace hH : Hp w.heap.size A26 w24 (obS (α := cal_Shift) 60 v22 x21.1 :: []) := hH28
  refine V_y (Y_move rfl) rfl rfl rfl ?_
  refine V_y (Y_extract rfl rfl) rfl rfl rfl ?_
  refine V_y (Y_extract rfl rfl) rfl rfl rfl ?_
  refine V_y (Y_assign rfl) rfl rfl rfl ?_
  refine V_y (Y_assign rfl) rfl rfl rfl ?_
  refine V_to (fun _ _ => rfl) ?_
  refine C_seq ?_
  refine C_region ?_
  obtain ⟨v29, v31, v33, h35, h30, h32, h34⟩ := El_cal_Calendar h11
  refine V_y (Y_loadA h35 Try.isAgg48 Try.sizeOf48 rfl) rfl rfl rfl ?_
  refine V_y (Y_move rfl) rfl rfl rfl ?_
  obtain ⟨x36, hx36, hm⟩ := Option.bind_eq_some_iff.1 hm
  refine V_call Try.call29 rfl rfl rfl rfl (cal_Open_c w24 hA c v29 h30 v31 h32 v33 h34 m hx36) ?_
  rintro _ w37 ⟨rfl, hk38⟩
  have ht39 := Kp.tr hk38 hA hB
  replace hH := Hp.kp hH hk38
  replace h11 := El.tr h11 ht39
  replace h30 := Sl.tr h30 ht39
  replace h32 := Sl.tr h32 ht39
  replace h34 := Sl.tr h34 ht39
  replace hK := Tr.trans hK ht39
  replace hB := Nat.le_trans hB ht39.ex.size
  replace hA := ht39.new
  refine V_y (Y_move rfl) rfl rfl rfl ?_
  refine V_y (Y_extract rfl rfl) rfl rfl rfl ?_
  refine V_y (Y_extract rfl rfl) rfl rfl rfl ?_
  refine V_y (Y_assign rfl) rfl rfl rfl ?_
  refine V_y (Y_assign rfl) rfl rfl rfl ?_
  refine V_to (fun _ _ => rfl) ?_
  refine C_seq ?_
  refine C_region_q Try_mixed (by kernel_rfl) ?_
  obtain ⟨v40, v42, v44, h46, h41, h43, h45⟩ := El_cal_Calendar h11
  refine VQ_y (fun w' hw' => Y_loadA (At.kp h46 hw' h11.2.1) Try.isAgg48 Try.sizeOf48 rfl) rfl rfl rfl ?_
  obtain ⟨x47, hx47, hm⟩ := Option.bind_eq_some_iff.1 hm
  refine VQ_call (.int .i64 x47) Try.call30 rfl rfl rfl rfl (fun w' hw' => (portref2_CalendarFault_c w' (fun b hb => hA b (Nat.le_trans hw'.size hb)) c v40 (Sl.kp h41 hw') v42 (Sl.kp h43 hw') v44 (Sl.kp h45 hw') hx47).mono (fun _ _ h => ⟨h.1, Kp.trans hw' h.2⟩)) ?_
  obtain ⟨v48, v50, v52, h54, h49, h51, h53⟩ := El_cal_Calendar h11
  refine VQ_y (fun w' hw' => Y_loadA (At.kp h54 hw' h11.2.1) Try.isAgg48 Try.sizeOf48 rfl) rfl rfl rfl ?_
  obtain ⟨x55, hx55, hm⟩ := Option.bind_eq_some_iff.1 hm
  refine VQ_call (.int .i64 x55) Try.call30 rfl rfl rfl rfl (fun w' hw' => (portref2_CalendarFault_c w' (fun b hb => hA b (Nat.le_trans hw'.size hb)) c v48 (Sl.kp h49 hw') v50 (Sl.kp h51 hw') v52 (Sl.kp h53 hw') hx55).mono (fun _ _ h => ⟨h.1, Kp.trans hw' h.2⟩)) ?_
  refine VQ_y (fun w' hw' => Y_assign rfl) rfl rfl rfl ?_
  refine VQ_y (fun w' hw' => Y_assign rfl) rfl rfl rfl ?_
  refine VQ_to (fun _ _ => rfl) (fun w56 hk57 => ?_)
  have ht58 := Kp.tr hk57 hA hB
  replace hH := Hp.kp hH hk57
  replace h11 := El.tr h11 ht58
  replace hK := Tr.trans hK ht58
  replace hB := Nat.le_trans hB ht58.ex.size
  replace hA := ht58.new
  refine C_seq ?_
  refine C_seq ?_
  refine C_region ?_
  refine V_y (Y_move rfl) rfl rfl rfl ?_
  refine V_y (Y_eql rfl rfl) rfl rfl rfl ?_
  refine V_y (Y_move rfl) rfl rfl rfl ?_
  refine V_cut 7 (fun _ : Unit => [(1, .int .i64 day), (2, .int .i64 m), (3, .pointer (some ⟨b7, 0, none⟩)), (7, v22), (8, .int .i64 x21.2), (9, .bool x36.1), (10, .int .i64 x36.2), (11, .int .i64 x47), (12, .int .i64 x55), (39, .bool ((x47 == 0) && ((decide (day < (-1))) || (decide ((2084 : Int) < day)))))]) (fun _ w' => w56 = w') ?_ ?_
  · simp only [List.take, List.drop]
    rcases Bool.eq_false_or_eq_true (x47 == 0) with hc59 | hc59
    · refine V_ge rfl rfl rfl hc59 ?_
      refine V_y (Y_move rfl) rfl rfl rfl ?_
      refine V_ge rfl rfl rfl hc59 ?_
      refine V_y (Y_lss rfl rfl) rfl rfl rfl ?_
      refine V_ge rfl rfl rfl hc59 ?_
      refine V_y (Y_move rfl) rfl rfl rfl ?_
      refine V_cut 3 (fun _ : Unit => [(1, .int .i64 day), (2, .int .i64 m), (3, .pointer (some ⟨b7, 0, none⟩)), (7, v22), (8, .int .i64 x21.2), (9, .bool x36.1), (10, .int .i64 x36.2), (11, .int .i64 x47), (12, .int .i64 x55), (32, .bool (x47 == 0)), (38, .bool ((decide (day < (-1))) || (decide ((2084 : Int) < day))))]) (fun _ w' => w56 = w') ?_ ?_
      · simp only [List.take, List.drop]
        rcases Bool.eq_false_or_eq_true (decide (day < (-1))) with hc61 | hc61
        · refine V_gn rfl rfl rfl hc61 rfl rfl rfl ?_
          refine V_gn rfl rfl rfl hc61 rfl rfl rfl ?_
          refine V_ge rfl rfl rfl hc59 ?_
          refine V_y (Y_pick_te rfl hc61 rfl) rfl rfl rfl ?_
          exact V_end fun a ha => ⟨(), ha.sub ⟨rfl, rfl, rfl, rfl, rfl, rfl, rfl, rfl, rfl, rfl, (by rw [hc61]; rfl), trivial⟩, rfl⟩
        · refine V_ge rfl rfl rfl hc61 ?_
          refine V_y (Y_move rfl) rfl rfl rfl ?_
          refine V_ge rfl rfl rfl hc61 ?_
          refine V_y (Y_gtr rfl rfl) rfl rfl rfl ?_
          refine V_ge rfl rfl rfl hc59 ?_
          refine V_y (Y_pick_fe rfl hc61 rfl) rfl rfl rfl ?_
          exact V_end fun a ha => ⟨(), ha.sub ⟨rfl, rfl, rfl, rfl, rfl, rfl, rfl, rfl, rfl, rfl, (by rw [hc61]; rfl), trivial⟩, rfl⟩
      simp only [List.take, List.drop]
      rintro _ _ rfl
      refine V_y (Y_pick_te rfl hc59 rfl) rfl rfl rfl ?_
      exact V_end fun a ha => ⟨(), ha.sub ⟨rfl, rfl, rfl, rfl, rfl, rfl, rfl, rfl, rfl, (by rw [hc59]; rfl), trivial⟩, rfl⟩
    · refine V_gn rfl rfl rfl hc59 rfl rfl rfl ?_
      refine V_gn rfl rfl rfl hc59 rfl rfl rfl ?_
      refine V_gn rfl rfl rfl hc59 rfl rfl rfl ?_
      refine V_gu rfl rfl rfl rfl rfl ?_
      refine V_gu rfl rfl rfl rfl rfl ?_
      refine V_gn rfl rfl rfl hc59 rfl rfl rfl ?_
      refine V_y (Y_pick_fe rfl hc59 rfl) rfl rfl rfl ?_
      exact V_end fun a ha => ⟨(), ha.sub ⟨rfl, rfl, rfl, rfl, rfl, rfl, rfl, rfl, rfl, (by rw [hc59]; rfl), trivial⟩, rfl⟩
  simp only [List.take, List.drop]
  rintro _ _ rfl
  refine V_to (fun _ _ => rfl) ?_
  obtain ⟨s64, ho63, hm⟩ := Option.bind_eq_some_iff.1 hm
  refine C_cutG (ι := Unit) (fun (_ : Unit) => [(1, .int .i64 day), (2, .int .i64 m), (3, .pointer (some ⟨b7, 0, none⟩)), (7, v22), (8, .int .i64 x21.2), (9, .bool x36.1), (10, .int .i64 x36.2), (11, .int .i64 s64), (12, .int .i64 x55)]) (fun (_ : Unit) => fun w' => w56 = w') ?_ ?_
  · refine C_cond rfl (fun hc69 => ?_) (fun hc69 => ?_)
    · rw [if_pos hc69] at ho63
      refine C_region ?_
      refine V_y (Y_assign rfl) rfl rfl rfl ?_
      obtain rfl := Option.some.inj ho63
      refine V_end (fun a ha70 => ?_)
      exact ⟨(), ha70.sub ⟨rfl, rfl, rfl, rfl, rfl, rfl, rfl, rfl, rfl, trivial⟩, rfl⟩
    · rw [if_neg (nt hc69)] at ho63
      obtain rfl := Option.some.inj ho63
      refine C_skip (fun a ha71 => ?_)
      exact ⟨(), ha71.sub ⟨rfl, rfl, rfl, rfl, rfl, rfl, rfl, rfl, rfl, trivial⟩, rfl⟩
  rintro _ _ rfl a ha68
  refine C_at (n := ⟨77, [], none⟩) (fun _ _ => rfl) ?_ ha68
  refine C_seq ?_
  refine C_seq ?_
  refine C_region ?_
  refine V_y (Y_move rfl) rfl rfl rfl ?_
  refine V_y (Y_eql rfl rfl) rfl rfl rfl ?_
  refine V_y (Y_move rfl) rfl rfl rfl ?_
  refine V_cut 4 (fun _ : Unit => [(1, .int .i64 day), (2, .int .i64 m), (3, .pointer (some ⟨b7, 0, none⟩)), (7, v22), (8, .int .i64 x21.2), (9, .bool x36.1), (10, .int .i64 x36.2), (11, .int .i64 s64), (12, .int .i64 x55), (46, .bool ((x55 == 0) && (!(portref2_IsMoment m))))]) (fun _ w' => w56 = w') ?_ ?_
  · simp only [List.take, List.drop]
    rcases Bool.eq_false_or_eq_true (x55 == 0) with hc72 | hc72
    · refine V_ge rfl rfl rfl hc72 ?_
      refine V_y (Y_move rfl) rfl rfl rfl ?_
      refine V_ge rfl rfl rfl hc72 ?_
      refine V_call Try.call16 rfl rfl rfl rfl (portref2_IsMoment_c w56 m) ?_
      rintro _ _ ⟨rfl, rfl⟩
      refine V_ge rfl rfl rfl hc72 ?_
      refine V_y (Y_not rfl) rfl rfl rfl ?_
      refine V_y (Y_pick_te rfl hc72 rfl) rfl rfl rfl ?_
      exact V_end fun a ha => ⟨(), ha.sub ⟨rfl, rfl, rfl, rfl, rfl, rfl, rfl, rfl, rfl, (by rw [hc72]; rfl), trivial⟩, rfl⟩
    · refine V_gn rfl rfl rfl hc72 rfl rfl rfl ?_
      refine V_gn rfl rfl rfl hc72 rfl rfl rfl ?_
      refine V_gn rfl rfl rfl hc72 rfl rfl rfl ?_
      refine V_y (Y_pick_fe rfl hc72 rfl) rfl rfl rfl ?_
      exact V_end fun a ha => ⟨(), ha.sub ⟨rfl, rfl, rfl, rfl, rfl, rfl, rfl, rfl, rfl, (by rw [hc72]; rfl), trivial⟩, rfl⟩
  simp only [List.take, List.drop]
  rintro _ _ rfl
  refine V_to (fun _ _ => rfl) ?_
  obtain ⟨s75, ho74, hm⟩ := Option.bind_eq_some_iff.1 hm
  refine C_cutG (ι := Unit) (fun (_ : Unit) => [(1, .int .i64 day), (2, .int .i64 m), (3, .pointer (some ⟨b7, 0, none⟩)), (7, v22), (8, .int .i64 x21.2), (9, .bool x36.1), (10, .int .i64 x36.2), (11, .int .i64 s64), (12, .int .i64 s75)]) (fun (_ : Unit) => fun w' => w56 = w') ?_ ?_
  · refine C_cond rfl (fun hc80 => ?_) (fun hc80 => ?_)
    · rw [if_pos hc80] at ho74
      refine C_region ?_
      refine V_y (Y_assign rfl) rfl rfl rfl ?_
      obtain rfl := Option.some.inj ho74
      refine V_end (fun a ha81 => ?_)
      exact ⟨(), ha81.sub ⟨rfl, rfl, rfl, rfl, rfl, rfl, rfl, rfl, rfl, trivial⟩, rfl⟩
    · rw [if_neg (nt hc80)] at ho74
      obtain rfl := Option.some.inj ho74
      refine C_skip (fun a ha82 => ?_)
      exact ⟨(), ha82.sub ⟨rfl, rfl, rfl, rfl, rfl, rfl, rfl, rfl, rfl, trivial⟩, rfl⟩
  rintro _ _ rfl a ha79
  refine C_at (n := ⟨77, [], none⟩) (fun _ _ => rfl) ?_ ha79
  refine C_seq ?_
  refine C_region ?_
  refine V_y (Y_assign rfl) rfl rfl rfl ?_
  refine V_to (fun _ _ => rfl) ?_
  refine C_seq ?_
  refine C_seq ?_
  refine C_region ?_
  refine V_y (Y_move rfl) rfl rfl rfl ?_
  refine V_y (Y_eql rfl rfl) rfl rfl rfl ?_
  refine V_to (fun _ _ => rfl) ?_
  obtain ⟨s84, ho83, hm⟩ := Option.bind_eq_some_iff.1 hm
  refine C_cutG (ι := (Value × (Nat → Prop))) (fun ⟨v86, A91⟩ => [(2, .int .i64 m), (3, .pointer (some ⟨b7, 0, none⟩)), (7, v22), (8, .int .i64 x21.2), (9, .bool x36.1), (10, .int .i64 x36.2), (11, .int .i64 s64), (12, .int .i64 s75), (13, v86)]) (fun ⟨v86, A91⟩ => fun w' => Sl A91 w' v86 s84 ∧ Hp w.heap.size A91 w' (obS (α := cal_Shift) 60 v22 x21.1 :: []) ∧ Tr w.heap.size A26 w56 A91 w') ?_ ?_
  · have hr85 : Tr w.heap.size A26 w56 A26 w56 := Tr.refl hA
    refine C_cond rfl (fun hc93 => ?_) (fun hc93 => ?_)
    · rw [if_pos hc93] at ho83
      refine C_region ?_
      obtain ⟨v94, v96, v98, h100, h95, h97, h99⟩ := El_cal_Calendar h11
      refine V_y (Y_loadA h100 Try.isAgg48 Try.sizeOf48 rfl) rfl rfl rfl ?_
      refine V_y (Y_move rfl) rfl rfl rfl ?_
      obtain ⟨x101, hx101, ho83⟩ := Option.bind_eq_some_iff.1 ho83
      refine V_call Try.call31 rfl rfl rfl rfl (portref2_ShiftsIn_c w56 hA c v94 h95 v96 h97 v98 h99 day hx101) ?_
      rintro v102 w104 ⟨_, rfl, h103, hk105⟩
      have ht106 := Kp.tr hk105 hA hB
      replace hH := Hp.kp hH hk105
      replace h11 := El.tr h11 ht106
      replace h95 := Sl.tr h95 ht106
      replace h97 := Sl.tr h97 ht106
      replace h99 := Sl.tr h99 ht106
      replace hK := Tr.trans hK ht106
      replace hr85 := Tr.trans hr85 ht106
      replace hB := Nat.le_trans hB ht106.ex.size
      replace hA := ht106.new
      refine V_y (Y_assign rfl) rfl rfl rfl ?_
      obtain rfl := Option.some.inj ho83
      refine V_end (fun a ha107 => ?_)
      exact ⟨(v102, A26), ha107.sub ⟨rfl, rfl, rfl, rfl, rfl, rfl, rfl, rfl, rfl, trivial⟩, ⟨h103, hH, hr85⟩⟩
    · rw [if_neg (nt hc93)] at ho83
      obtain rfl := Option.some.inj ho83
      refine C_skip (fun a ha108 => ?_)
      exact ⟨(.slice none 0 0, A26), ha108.sub ⟨rfl, rfl, rfl, rfl, rfl, rfl, rfl, rfl, rfl, trivial⟩, ⟨Sl.nil, hH, hr85⟩⟩
  rintro ⟨v86, A91⟩ w88 ⟨h87, hH92, hk89⟩ a ha90
  replace h11 := El.tr h11 hk89
  replace hK := Tr.trans hK hk89
  replace hB := Nat.le_trans hB hk89.ex.size
  replace hA := hk89.new
  replace hH : Hp w.heap.size A91 w88 (obS (α := cal_Shift) 60 v22 x21.1 :: []) := hH92
  refine C_at (n := ⟨77, [], none⟩) (fun _ _ => rfl) ?_ ha90
  refine C_seq ?_
  obtain ⟨s110, ho109, hm⟩ := Option.bind_eq_some_iff.1 hm
  refine C_cutG (ι := (Nat → Prop)) (fun (A115 : (Nat → Prop)) => [(6, .bool s110)]) (fun (A115 : (Nat → Prop)) => fun w' => Hp w.heap.size A115 w' (obS (α := cal_Shift) 60 v22 x21.1 :: []) ∧ Tr w.heap.size A91 w88 A115 w') ?_ ?_
  · have hr111 : Tr w.heap.size A91 w88 A91 w88 := Tr.refl hA
    refine C_region ?_
    refine V_y (Y_move rfl) rfl rfl rfl ?_
    refine V_y (Y_move rfl) rfl rfl rfl ?_
    refine V_y (Y_eql rfl rfl) rfl rfl rfl ?_
    refine V_y (Y_move rfl) rfl rfl rfl ?_
    rcases Bool.eq_false_or_eq_true (x21.2 == s64) with hc117 | hc117
    · rw [if_pos hc117] at ho109
      refine V_ge rfl rfl rfl hc117 ?_
      refine V_y (Y_move rfl) rfl rfl rfl ?_
      refine V_ge rfl rfl rfl hc117 ?_
      refine V_y (Y_move rfl) rfl rfl rfl ?_
      refine V_ge rfl rfl rfl hc117 ?_
      refine V_y (Y_eql rfl rfl) rfl rfl rfl ?_
      refine V_y (Y_pick_te rfl hc117 rfl) rfl rfl rfl ?_
      refine V_y (Y_move rfl) rfl rfl rfl ?_
      rcases Bool.eq_false_or_eq_true (x36.2 == s75) with hc118 | hc118
      · rw [if_pos hc118] at ho109
        refine V_ge rfl rfl rfl hc118 ?_
        refine V_y (Y_move rfl) rfl rfl rfl ?_
        refine V_ge rfl rfl rfl hc118 ?_
        refine V_y (Y_move rfl) rfl rfl rfl ?_
        refine V_ge rfl rfl rfl hc118 ?_
        obtain ⟨x119, hx119, ho109⟩ := Option.bind_eq_some_iff.1 ho109
        refine V_call Try.call32 rfl rfl rfl rfl (slices_Equal_Lcal_Shift_cal_Shift_c w88 (A := fun _ => True) (fun _ _ => trivial) x21.1 v22 (Hp.any (α := cal_Shift) (e := 60) (v := v22) (l := x21.1) hH (i := 0) rfl) s84 v86 (Sl.any h87) hx119) ?_
        rintro _ w120 ⟨rfl, hk121⟩
        have ht122 := Kp.tr hk121 hA hB
        replace hH := Hp.kp hH hk121
        replace h11 := El.tr h11 ht122
        replace h87 := Sl.tr h87 ht122
        replace hK := Tr.trans hK ht122
        replace hr111 := Tr.trans hr111 ht122
        replace hB := Nat.le_trans hB ht122.ex.size
        replace hA := ht122.new
        refine V_y (Y_pick_te rfl hc118 rfl) rfl rfl rfl ?_
        refine V_y (Y_move rfl) rfl rfl rfl ?_
        rcases Bool.eq_false_or_eq_true (x119) with hc123 | hc123
        · rw [if_pos hc123] at ho109
          refine V_ge rfl rfl rfl hc123 ?_
          refine V_y (Y_move rfl) rfl rfl rfl ?_
          refine V_ge rfl rfl rfl hc123 ?_
          refine V_y (Y_move rfl) rfl rfl rfl ?_
          refine V_ge rfl rfl rfl hc123 ?_
          refine V_y (Y_eql rfl rfl) rfl rfl rfl ?_
          refine V_ge rfl rfl rfl hc123 ?_
          refine V_y (Y_move rfl) rfl rfl rfl ?_
          rcases Bool.eq_false_or_eq_true (s75 == 0) with hc124 | hc124
          · rw [if_pos hc124] at ho109
            refine V_ge rfl rfl rfl hc124 ?_
            obtain ⟨v125, v127, v129, h131, h126, h128, h130⟩ := El_cal_Calendar h11
            refine V_y (Y_loadA h131 Try.isAgg48 Try.sizeOf48 rfl) rfl rfl rfl ?_
            refine V_ge rfl rfl rfl hc124 ?_
            obtain ⟨x132, hx132, ho109⟩ := Option.bind_eq_some_iff.1 ho109
            refine V_call Try.call33 rfl rfl rfl rfl (portref2_NewClock_c w120 hB hA c v125 h126 v127 h128 v129 h130 hH hx132) ?_
            rintro _ w134 ⟨b133, A135, rfl, hH136, ht137⟩
            replace h11 := El.tr h11 ht137
            replace h87 := Sl.tr h87 ht137
            replace h126 := Sl.tr h126 ht137
            replace h128 := Sl.tr h128 ht137
            replace h130 := Sl.tr h130 ht137
            replace hK := Tr.trans hK ht137
            replace hr111 := Tr.trans hr111 ht137
            replace hB := Nat.le_trans hB ht137.ex.size
            replace hA := ht137.new
            replace hH : Hp w.heap.size A135 w134 (obCk 102 portref2_ShiftsIn b133 x132 :: obS (α := cal_Shift) 60 v22 x21.1 :: []) := hH136
            refine V_ge rfl rfl rfl hc124 ?_
            refine V_y (Y_move rfl) rfl rfl rfl ?_
            refine V_ge rfl rfl rfl hc124 ?_
            obtain ⟨x138, hx138, ho109⟩ := Option.bind_eq_some_iff.1 ho109
            refine V_call Try.call34 rfl rfl rfl rfl (portref2_Clock_Open_c w134 hB hA x132 b133 m hH hx138) ?_
            rintro _ w139 ⟨A140, rfl, hH141, ht142⟩
            replace h11 := El.tr h11 ht142
            replace h87 := Sl.tr h87 ht142
            replace h126 := Sl.tr h126 ht142
            replace h128 := Sl.tr h128 ht142
            replace h130 := Sl.tr h130 ht142
            replace hK := Tr.trans hK ht142
            replace hr111 := Tr.trans hr111 ht142
            replace hB := Nat.le_trans hB ht142.ex.size
            replace hA := ht142.new
            replace hH : Hp w.heap.size A140 w139 (obCk 102 portref2_ShiftsIn b133 x132 :: obS (α := cal_Shift) 60 v22 x21.1 :: []) := hH141
            refine V_ge rfl rfl rfl hc123 ?_
            refine V_y (Y_pick_te rfl hc124 rfl) rfl rfl rfl ?_
            refine V_ge rfl rfl rfl hc123 ?_
            refine V_y (Y_beql Try.underlying4 rfl rfl) rfl rfl rfl ?_
            refine V_y (Y_pick_te rfl hc123 rfl) rfl rfl rfl ?_
            refine V_y (Y_assign rfl) rfl rfl rfl ?_
            obtain rfl := Option.some.inj ho109
            refine V_end (fun a ha143 => ?_)
            replace hH : Hp w.heap.size A140 w139 (obS (α := cal_Shift) 60 v22 x21.1 :: obCk 102 portref2_ShiftsIn b133 x132 :: []) := Hp.front hH (i := 1) rfl
            replace hH : Hp w.heap.size A140 w139 (obS (α := cal_Shift) 60 v22 x21.1 :: []) := Hp.drop hH (i := 1) rfl
            exact ⟨A140, ha143.sub ⟨rfl, trivial⟩, ⟨hH, hr111⟩⟩
          · rw [if_neg (nt hc124)] at ho109
            refine V_gn rfl rfl rfl hc124 rfl rfl rfl ?_
            refine V_gn rfl rfl rfl hc124 rfl rfl rfl ?_
            refine V_gn rfl rfl rfl hc124 rfl rfl rfl ?_
            refine V_gn rfl rfl rfl hc124 rfl rfl rfl ?_
            refine V_ge rfl rfl rfl hc123 ?_
            refine V_y (Y_pick_fe rfl hc124 rfl) rfl rfl rfl ?_
            refine V_ge rfl rfl rfl hc123 ?_
            refine V_y (Y_beql Try.underlying4 rfl rfl) rfl rfl rfl ?_
            refine V_y (Y_pick_te rfl hc123 rfl) rfl rfl rfl ?_
            refine V_y (Y_assign rfl) rfl rfl rfl ?_
            obtain rfl := Option.some.inj ho109
            refine V_end (fun a ha144 => ?_)
            exact ⟨A91, ha144.sub ⟨rfl, trivial⟩, ⟨hH, hr111⟩⟩
        · rw [if_neg (nt hc123)] at ho109
          refine V_gn rfl rfl rfl hc123 rfl rfl rfl ?_
          refine V_gn rfl rfl rfl hc123 rfl rfl rfl ?_
          refine V_gn rfl rfl rfl hc123 rfl rfl rfl ?_
          refine V_gn rfl rfl rfl hc123 rfl rfl rfl ?_
          refine V_gu rfl rfl rfl rfl rfl ?_
          refine V_gu rfl rfl rfl rfl rfl ?_
          refine V_gu rfl rfl rfl rfl rfl ?_
          refine V_gu rfl rfl rfl rfl rfl ?_
          refine V_gn rfl rfl rfl hc123 rfl rfl rfl ?_
          refine V_gn rfl rfl rfl hc123 rfl rfl rfl ?_
          refine V_y (Y_pick_fe rfl hc123 rfl) rfl rfl rfl ?_
          refine V_y (Y_assign rfl) rfl rfl rfl ?_
          obtain rfl := Option.some.inj ho109
          refine V_end (fun a ha145 => ?_)
          exact ⟨A91, ha145.sub ⟨rfl, trivial⟩, ⟨hH, hr111⟩⟩
      · rw [if_neg (nt hc118)] at ho109
        refine V_gn rfl rfl rfl hc118 rfl rfl rfl ?_
        refine V_gn rfl rfl rfl hc118 rfl rfl rfl ?_
        refine V_gn rfl rfl rfl hc118 rfl rfl rfl ?_
        refine V_y (Y_pick_fe rfl hc118 rfl) rfl rfl rfl ?_
        refine V_y (Y_move rfl) rfl rfl rfl ?_
        rcases Bool.eq_false_or_eq_true (false) with hc146 | hc146
        · rw [if_pos hc146] at ho109
          refine V_ge rfl rfl rfl hc146 ?_
          refine V_y (Y_move rfl) rfl rfl rfl ?_
          refine V_ge rfl rfl rfl hc146 ?_
          refine V_y (Y_move rfl) rfl rfl rfl ?_
          refine V_ge rfl rfl rfl hc146 ?_
          refine V_y (Y_eql rfl rfl) rfl rfl rfl ?_
          refine V_ge rfl rfl rfl hc146 ?_
          refine V_y (Y_move rfl) rfl rfl rfl ?_
          rcases Bool.eq_false_or_eq_true (s75 == 0) with hc147 | hc147
          · rw [if_pos hc147] at ho109
            refine V_ge rfl rfl rfl hc147 ?_
            obtain ⟨v148, v150, v152, h154, h149, h151, h153⟩ := El_cal_Calendar h11
            refine V_y (Y_loadA h154 Try.isAgg48 Try.sizeOf48 rfl) rfl rfl rfl ?_
            refine V_ge rfl rfl rfl hc147 ?_
            obtain ⟨x155, hx155, ho109⟩ := Option.bind_eq_some_iff.1 ho109
            refine V_call Try.call33 rfl rfl rfl rfl (portref2_NewClock_c w88 hB hA c v148 h149 v150 h151 v152 h153 hH hx155) ?_
            rintro _ w157 ⟨b156, A158, rfl, hH159, ht160⟩
            replace h11 := El.tr h11 ht160
            replace h87 := Sl.tr h87 ht160
            replace h149 := Sl.tr h149 ht160
            replace h151 := Sl.tr h151 ht160
            replace h153 := Sl.tr h153 ht160
            replace hK := Tr.trans hK ht160
            replace hr111 := Tr.trans hr111 ht160
            replace hB := Nat.le_trans hB ht160.ex.size
            replace hA := ht160.new
            replace hH : Hp w.heap.size A158 w157 (obCk 102 portref2_ShiftsIn b156 x155 :: obS (α := cal_Shift) 60 v22 x21.1 :: []) := hH159
            refine V_ge rfl rfl rfl hc147 ?_
            refine V_y (Y_move rfl) rfl rfl rfl ?_
            refine V_ge rfl rfl rfl hc147 ?_
            obtain ⟨x161, hx161, ho109⟩ := Option.bind_eq_some_iff.1 ho109
            refine V_call Try.call34 rfl rfl rfl rfl (portref2_Clock_Open_c w157 hB hA x155 b156 m hH hx161) ?_
            rintro _ w162 ⟨A163, rfl, hH164, ht165⟩
            replace h11 := El.tr h11 ht165
            replace h87 := Sl.tr h87 ht165
            replace h149 := Sl.tr h149 ht165
            replace h151 := Sl.tr h151 ht165
            replace h153 := Sl.tr h153 ht165
            replace hK := Tr.trans hK ht165
            replace hr111 := Tr.trans hr111 ht165
            replace hB := Nat.le_trans hB ht165.ex.size
            replace hA := ht165.new
            replace hH : Hp w.heap.size A163 w162 (obCk 102 portref2_ShiftsIn b156 x155 :: obS (α := cal_Shift) 60 v22 x21.1 :: []) := hH164
            refine V_ge rfl rfl rfl hc146 ?_
            refine V_y (Y_pick_te rfl hc147 rfl) rfl rfl rfl ?_
            refine V_ge rfl rfl rfl hc146 ?_
            refine V_y (Y_beql Try.underlying4 rfl rfl) rfl rfl rfl ?_
            refine V_y (Y_pick_te rfl hc146 rfl) rfl rfl rfl ?_
            refine V_y (Y_assign rfl) rfl rfl rfl ?_
            obtain rfl := Option.some.inj ho109
            refine V_end (fun a ha166 => ?_)
            replace hH : Hp w.heap.size A163 w162 (obS (α := cal_Shift) 60 v22 x21.1 :: obCk 102 portref2_ShiftsIn b156 x155 :: []) := Hp.front hH (i := 1) rfl
            replace hH : Hp w.heap.size A163 w162 (obS (α := cal_Shift) 60 v22 x21.1 :: []) := Hp.drop hH (i := 1) rfl
            exact ⟨A163, ha166.sub ⟨rfl, trivial⟩, ⟨hH, hr111⟩⟩
          · rw [if_neg (nt hc147)] at ho109
            refine V_gn rfl rfl rfl hc147 rfl rfl rfl ?_
            refine V_gn rfl rfl rfl hc147 rfl rfl rfl ?_
            refine V_gn rfl rfl rfl hc147 rfl rfl rfl ?_
            refine V_gn rfl rfl rfl hc147 rfl rfl rfl ?_
            refine V_ge rfl rfl rfl hc146 ?_
            refine V_y (Y_pick_fe rfl hc147 rfl) rfl rfl rfl ?_
            refine V_ge rfl rfl rfl hc146 ?_
            refine V_y (Y_beql Try.underlying4 rfl rfl) rfl rfl rfl ?_
            refine V_y (Y_pick_te rfl hc146 rfl) rfl rfl rfl ?_
            refine V_y (Y_assign rfl) rfl rfl rfl ?_
            obtain rfl := Option.some.inj ho109
            refine V_end (fun a ha167 => ?_)
            exact ⟨A91, ha167.sub ⟨rfl, trivial⟩, ⟨hH, hr111⟩⟩
        · rw [if_neg (nt hc146)] at ho109
          refine V_gn rfl rfl rfl hc146 rfl rfl rfl ?_
          refine V_gn rfl rfl rfl hc146 rfl rfl rfl ?_
          refine V_gn rfl rfl rfl hc146 rfl rfl rfl ?_
          refine V_gn rfl rfl rfl hc146 rfl rfl rfl ?_
          refine V_gu rfl rfl rfl rfl rfl ?_
          refine V_gu rfl rfl rfl rfl rfl ?_
          refine V_gu rfl rfl rfl rfl rfl ?_
          refine V_gu rfl rfl rfl rfl rfl ?_
          refine V_gn rfl rfl rfl hc146 rfl rfl rfl ?_
          refine V_gn rfl rfl rfl hc146 rfl rfl rfl ?_
          refine V_y (Y_pick_fe rfl hc146 rfl) rfl rfl rfl ?_
          refine V_y (Y_assign rfl) rfl rfl rfl ?_
          obtain rfl := Option.some.inj ho109
          refine V_end (fun a ha168 => ?_)
          exact ⟨A91, ha168.sub ⟨rfl, trivial⟩, ⟨hH, hr111⟩⟩
    · rw [if_neg (nt hc117)] at ho109
      refine V_gn rfl rfl rfl hc117 rfl rfl rfl ?_
      refine V_gn rfl rfl rfl hc117 rfl rfl rfl ?_
      refine V_gn rfl rfl rfl hc117 rfl rfl rfl ?_
      refine V_y (Y_pick_fe rfl hc117 rfl) rfl rfl rfl ?_
      refine V_y (Y_move rfl) rfl rfl rfl ?_
      rcases Bool.eq_false_or_eq_true (false) with hc169 | hc169
      · rw [if_pos hc169] at ho109
        refine V_ge rfl rfl rfl hc169 ?_
        refine V_y (Y_move rfl) rfl rfl rfl ?_
        refine V_ge rfl rfl rfl hc169 ?_
        refine V_y (Y_move rfl) rfl rfl rfl ?_
        refine V_ge rfl rfl rfl hc169 ?_
        obtain ⟨x170, hx170, ho109⟩ := Option.bind_eq_some_iff.1 ho109
        refine V_call Try.call32 rfl rfl rfl rfl (slices_Equal_Lcal_Shift_cal_Shift_c w88 (A := fun _ => True) (fun _ _ => trivial) x21.1 v22 (Hp.any (α := cal_Shift) (e := 60) (v := v22) (l := x21.1) hH (i := 0) rfl) s84 v86 (Sl.any h87) hx170) ?_
        rintro _ w171 ⟨rfl, hk172⟩
        have ht173 := Kp.tr hk172 hA hB
        replace hH := Hp.kp hH hk172
        replace h11 := El.tr h11 ht173
        replace h87 := Sl.tr h87 ht173
        replace hK := Tr.trans hK ht173
        replace hr111 := Tr.trans hr111 ht173
        replace hB := Nat.le_trans hB ht173.ex.size
        replace hA := ht173.new
        refine V_y (Y_pick_te rfl hc169 rfl) rfl rfl rfl ?_
        refine V_y (Y_move rfl) rfl rfl rfl ?_
        rcases Bool.eq_false_or_eq_true (x170) with hc174 | hc174
        · rw [if_pos hc174] at ho109
          refine V_ge rfl rfl rfl hc174 ?_
          refine V_y (Y_move rfl) rfl rfl rfl ?_
          refine V_ge rfl rfl rfl hc174 ?_
          refine V_y (Y_move rfl) rfl rfl rfl ?_
          refine V_ge rfl rfl rfl hc174 ?_
          refine V_y (Y_eql rfl rfl) rfl rfl rfl ?_
          refine V_ge rfl rfl rfl hc174 ?_
          refine V_y (Y_move rfl) rfl rfl rfl ?_
          rcases Bool.eq_false_or_eq_true (s75 == 0) with hc175 | hc175
          · rw [if_pos hc175] at ho109
            refine V_ge rfl rfl rfl hc175 ?_
            obtain ⟨v176, v178, v180, h182, h177, h179, h181⟩ := El_cal_Calendar h11
            refine V_y (Y_loadA h182 Try.isAgg48 Try.sizeOf48 rfl) rfl rfl rfl ?_
            refine V_ge rfl rfl rfl hc175 ?_
            obtain ⟨x183, hx183, ho109⟩ := Option.bind_eq_some_iff.1 ho109
            refine V_call Try.call33 rfl rfl rfl rfl (portref2_NewClock_c w171 hB hA c v176 h177 v178 h179 v180 h181 hH hx183) ?_
            rintro _ w185 ⟨b184, A186, rfl, hH187, ht188⟩
            replace h11 := El.tr h11 ht188
            replace h87 := Sl.tr h87 ht188
            replace h177 := Sl.tr h177 ht188
            replace h179 := Sl.tr h179 ht188
            replace h181 := Sl.tr h181 ht188
            replace hK := Tr.trans hK ht188
            replace hr111 := Tr.trans hr111 ht188
            replace hB := Nat.le_trans hB ht188.ex.size
            replace hA := ht188.new
            replace hH : Hp w.heap.size A186 w185 (obCk 102 portref2_ShiftsIn b184 x183 :: obS (α := cal_Shift) 60 v22 x21.1 :: []) := hH187
            refine V_ge rfl rfl rfl hc175 ?_
            refine V_y (Y_move rfl) rfl rfl rfl ?_
            refine V_ge rfl rfl rfl hc175 ?_
            obtain ⟨x189, hx189, ho109⟩ := Option.bind_eq_some_iff.1 ho109
            refine V_call Try.call34 rfl rfl rfl rfl (portref2_Clock_Open_c w185 hB hA x183 b184 m hH hx189) ?_
            rintro _ w190 ⟨A191, rfl, hH192, ht193⟩
            replace h11 := El.tr h11 ht193
            replace h87 := Sl.tr h87 ht193
            replace h177 := Sl.tr h177 ht193
            replace h179 := Sl.tr h179 ht193
            replace h181 := Sl.tr h181 ht193
            replace hK := Tr.trans hK ht193
            replace hr111 := Tr.trans hr111 ht193
            replace hB := Nat.le_trans hB ht193.ex.size
            replace hA := ht193.new
            replace hH : Hp w.heap.size A191 w190 (obCk 102 portref2_ShiftsIn b184 x183 :: obS (α := cal_Shift) 60 v22 x21.1 :: []) := hH192
            refine V_ge rfl rfl rfl hc174 ?_
            refine V_y (Y_pick_te rfl hc175 rfl) rfl rfl rfl ?_
            refine V_ge rfl rfl rfl hc174 ?_
            refine V_y (Y_beql Try.underlying4 rfl rfl) rfl rfl rfl ?_
            refine V_y (Y_pick_te rfl hc174 rfl) rfl rfl rfl ?_
            refine V_y (Y_assign rfl) rfl rfl rfl ?_
            obtain rfl := Option.some.inj ho109
            refine V_end (fun a ha194 => ?_)
            replace hH : Hp w.heap.size A191 w190 (obS (α := cal_Shift) 60 v22 x21.1 :: obCk 102 portref2_ShiftsIn b184 x183 :: []) := Hp.front hH (i := 1) rfl
            replace hH : Hp w.heap.size A191 w190 (obS (α := cal_Shift) 60 v22 x21.1 :: []) := Hp.drop hH (i := 1) rfl
            exact ⟨A191, ha194.sub ⟨rfl, trivial⟩, ⟨hH, hr111⟩⟩
          · rw [if_neg (nt hc175)] at ho109
            refine V_gn rfl rfl rfl hc175 rfl rfl rfl ?_
            refine V_gn rfl rfl rfl hc175 rfl rfl rfl ?_
            refine V_gn rfl rfl rfl hc175 rfl rfl rfl ?_
            refine V_gn rfl rfl rfl hc175 rfl rfl rfl ?_
            refine V_ge rfl rfl rfl hc174 ?_
            refine V_y (Y_pick_fe rfl hc175 rfl) rfl rfl rfl ?_
            refine V_ge rfl rfl rfl hc174 ?_
            refine V_y (Y_beql Try.underlying4 rfl rfl) rfl rfl rfl ?_
            refine V_y (Y_pick_te rfl hc174 rfl) rfl rfl rfl ?_
            refine V_y (Y_assign rfl) rfl rfl rfl ?_
            obtain rfl := Option.some.inj ho109
            refine V_end (fun a ha195 => ?_)
            exact ⟨A91, ha195.sub ⟨rfl, trivial⟩, ⟨hH, hr111⟩⟩
        · rw [if_neg (nt hc174)] at ho109
          refine V_gn rfl rfl rfl hc174 rfl rfl rfl ?_
          refine V_gn rfl rfl rfl hc174 rfl rfl rfl ?_
          refine V_gn rfl rfl rfl hc174 rfl rfl rfl ?_
          refine V_gn rfl rfl rfl hc174 rfl rfl rfl ?_
          refine V_gu rfl rfl rfl rfl rfl ?_
          refine V_gu rfl rfl rfl rfl rfl ?_
          refine V_gu rfl rfl rfl rfl rfl ?_
          refine V_gu rfl rfl rfl rfl rfl ?_
          refine V_gn rfl rfl rfl hc174 rfl rfl rfl ?_
          refine V_gn rfl rfl rfl hc174 rfl rfl rfl ?_
          refine V_y (Y_pick_fe rfl hc174 rfl) rfl rfl rfl ?_
          refine V_y (Y_assign rfl) rfl rfl rfl ?_
          obtain rfl := Option.some.inj ho109
          refine V_end (fun a ha196 => ?_)
          exact ⟨A91, ha196.sub ⟨rfl, trivial⟩, ⟨hH, hr111⟩⟩
      · rw [if_neg (nt hc169)] at ho109
        refine V_gn rfl rfl rfl hc169 rfl rfl rfl ?_
        refine V_gn rfl rfl rfl hc169 rfl rfl rfl ?_
        refine V_gn rfl rfl rfl hc169 rfl rfl rfl ?_
        refine V_y (Y_pick_fe rfl hc169 rfl) rfl rfl rfl ?_
        refine V_y (Y_move rfl) rfl rfl rfl ?_
        rcases Bool.eq_false_or_eq_true (false) with hc197 | hc197
        · rw [if_pos hc197] at ho109
          refine V_ge rfl rfl rfl hc197 ?_
          refine V_y (Y_move rfl) rfl rfl rfl ?_
          refine V_ge rfl rfl rfl hc197 ?_
          refine V_y (Y_move rfl) rfl rfl rfl ?_
          refine V_ge rfl rfl rfl hc197 ?_
          refine V_y (Y_eql rfl rfl) rfl rfl rfl ?_
          refine V_ge rfl rfl rfl hc197 ?_
          refine V_y (Y_move rfl) rfl rfl rfl ?_
          rcases Bool.eq_false_or_eq_true (s75 == 0) with hc198 | hc198
          · rw [if_pos hc198] at ho109
            refine V_ge rfl rfl rfl hc198 ?_
            obtain ⟨v199, v201, v203, h205, h200, h202, h204⟩ := El_cal_Calendar h11
            refine V_y (Y_loadA h205 Try.isAgg48 Try.sizeOf48 rfl) rfl rfl rfl ?_
            refine V_ge rfl rfl rfl hc198 ?_
            obtain ⟨x206, hx206, ho109⟩ := Option.bind_eq_some_iff.1 ho109
            refine V_call Try.call33 rfl rfl rfl rfl (portref2_NewClock_c w88 hB hA c v199 h200 v201 h202 v203 h204 hH hx206) ?_
            rintro _ w208 ⟨b207, A209, rfl, hH210, ht211⟩
            replace h11 := El.tr h11 ht211
            replace h87 := Sl.tr h87 ht211
            replace h200 := Sl.tr h200 ht211
            replace h202 := Sl.tr h202 ht211
            replace h204 := Sl.tr h204 ht211
            replace hK := Tr.trans hK ht211
            replace hr111 := Tr.trans hr111 ht211
            replace hB := Nat.le_trans hB ht211.ex.size
            replace hA := ht211.new
            replace hH : Hp w.heap.size A209 w208 (obCk 102 portref2_ShiftsIn b207 x206 :: obS (α := cal_Shift) 60 v22 x21.1 :: []) := hH210
            refine V_ge rfl rfl rfl hc198 ?_
            refine V_y (Y_move rfl) rfl rfl rfl ?_
            refine V_ge rfl rfl rfl hc198 ?_
            obtain ⟨x212, hx212, ho109⟩ := Option.bind_eq_some_iff.1 ho109
            refine V_call Try.call34 rfl rfl rfl rfl (portref2_Clock_Open_c w208 hB hA x206 b207 m hH hx212) ?_
            rintro _ w213 ⟨A214, rfl, hH215, ht216⟩
            replace h11 := El.tr h11 ht216
            replace h87 := Sl.tr h87 ht216
            replace h200 := Sl.tr h200 ht216
            replace h202 := Sl.tr h202 ht216
            replace h204 := Sl.tr h204 ht216
            replace hK := Tr.trans hK ht216
            replace hr111 := Tr.trans hr111 ht216
            replace hB := Nat.le_trans hB ht216.ex.size
            replace hA := ht216.new
            replace hH : Hp w.heap.size A214 w213 (obCk 102 portref2_ShiftsIn b207 x206 :: obS (α := cal_Shift) 60 v22 x21.1 :: []) := hH215
            refine V_ge rfl rfl rfl hc197 ?_
            refine V_y (Y_pick_te rfl hc198 rfl) rfl rfl rfl ?_
            refine V_ge rfl rfl rfl hc197 ?_
            refine V_y (Y_beql Try.underlying4 rfl rfl) rfl rfl rfl ?_
            refine V_y (Y_pick_te rfl hc197 rfl) rfl rfl rfl ?_
            refine V_y (Y_assign rfl) rfl rfl rfl ?_
            obtain rfl := Option.some.inj ho109
            refine V_end (fun a ha217 => ?_)
            replace hH : Hp w.heap.size A214 w213 (obS (α := cal_Shift) 60 v22 x21.1 :: obCk 102 portref2_ShiftsIn b207 x206 :: []) := Hp.front hH (i := 1) rfl
            replace hH : Hp w.heap.size A214 w213 (obS (α := cal_Shift) 60 v22 x21.1 :: []) := Hp.drop hH (i := 1) rfl
            exact ⟨A214, ha217.sub ⟨rfl, trivial⟩, ⟨hH, hr111⟩⟩
          · rw [if_neg (nt hc198)] at ho109
            refine V_gn rfl rfl rfl hc198 rfl rfl rfl ?_
            refine V_gn rfl rfl rfl hc198 rfl rfl rfl ?_
            refine V_gn rfl rfl rfl hc198 rfl rfl rfl ?_
            refine V_gn rfl rfl rfl hc198 rfl rfl rfl ?_
            refine V_ge rfl rfl rfl hc197 ?_
            refine V_y (Y_pick_fe rfl hc198 rfl) rfl rfl rfl ?_
            refine V_ge rfl rfl rfl hc197 ?_
            refine V_y (Y_beql Try.underlying4 rfl rfl) rfl rfl rfl ?_
            refine V_y (Y_pick_te rfl hc197 rfl) rfl rfl rfl ?_
            refine V_y (Y_assign rfl) rfl rfl rfl ?_
            obtain rfl := Option.some.inj ho109
            refine V_end (fun a ha218 => ?_)
            exact ⟨A91, ha218.sub ⟨rfl, trivial⟩, ⟨hH, hr111⟩⟩
        · rw [if_neg (nt hc197)] at ho109
          refine V_gn rfl rfl rfl hc197 rfl rfl rfl ?_
          refine V_gn rfl rfl rfl hc197 rfl rfl rfl ?_
          refine V_gn rfl rfl rfl hc197 rfl rfl rfl ?_
          refine V_gn rfl rfl rfl hc197 rfl rfl rfl ?_
          refine V_gu rfl rfl rfl rfl rfl ?_
          refine V_gu rfl rfl rfl rfl rfl ?_
          refine V_gu rfl rfl rfl rfl rfl ?_
          refine V_gu rfl rfl rfl rfl rfl ?_
          refine V_gn rfl rfl rfl hc197 rfl rfl rfl ?_
          refine V_gn rfl rfl rfl hc197 rfl rfl rfl ?_
          refine V_y (Y_pick_fe rfl hc197 rfl) rfl rfl rfl ?_
          refine V_y (Y_assign rfl) rfl rfl rfl ?_
          obtain rfl := Option.some.inj ho109
          refine V_end (fun a ha219 => ?_)
          exact ⟨A91, ha219.sub ⟨rfl, trivial⟩, ⟨hH, hr111⟩⟩
  rintro A115 w112 ⟨hH116, hk113⟩ a ha114
  replace hK := Tr.trans hK hk113
  replace hB := Nat.le_trans hB hk113.ex.size
  replace hA := hk113.new
  replace hH : Hp w.heap.size A115 w112 (obS (α := cal_Shift) 60 v22 x21.1 :: []) := hH116
  refine C_at (n := ⟨77, [], none⟩) (fun _ _ => rfl) ?_ ha114
  obtain rfl := Option.some.inj hm
  refine C_ret ?_
  try simp only [↓inBlock_ret, ↓then_ret]
  exact retQ rfl (Res.one Try.results6 rfl) ⟨rfl, hK.kp⟩

end Go.Proofs.Ytjmgafmjendnaaa.W
