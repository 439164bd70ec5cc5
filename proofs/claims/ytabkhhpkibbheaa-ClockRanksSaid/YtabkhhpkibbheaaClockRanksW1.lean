import Derived.Test.YtabkhhpkibbheaaClockRanksW0
namespace Go.Proofs.Ytabkhhpkibbheaa.W
open Go Go.RowKit Go.Pu Go.Gw Go.Proofs Go.Proofs.Ytabkhhpkibbheaa.M
set_option linter.unusedVariables false
set_option linter.unusedSimpArgs false
variable {Dw : Prop}
set_option maxRecDepth 4000 in
set_option maxHeartbeats 4000000 in
theorem level_check_c (w : World) {A : Nat → Prop} (hA : ∀ b, w.heap.size ≤ b → A b) (l : (List level_Clock)) (v_l : Value) (h_l : Sl A w v_l l) (cals : (List cal_Calendar)) (v_cals : Value) (h_cals : Sl A w v_cals cals) {r : Int} (hm : level_check l cals = some r) : Ret Try.prog 10 #[v_l, v_cals] w fun v w' => v = .int .i64 r ∧ Kp Dw w w' := by
 unfold level_check at hm
 refine enter Try.func10 rfl Try.ntmps10 rfl ?_
 have hA0 := hA
 have hB := Nat.le_refl w.heap.size
 have hK : Tr Dw w.heap.size A w A w := Tr.refl (Dw := Dw) hA
 have hH : Hp w.heap.size A w [] := Hp.nil
 refine C_seq ?_
 refine C_region ?_
 refine V_box rfl rfl ?_
 intro b5 w6 h7
 have h12 : (v_cals).oneCell' = true := by obtain ⟨_, _, e, _⟩ := Sl.form h_cals; rw [e]; rfl
 have hk9 := h7.kp (Dw := Dw)
 have h8 : El (α := (List cal_Calendar)) A w6 b5 0 cals := h7.el hA (by rw [Value.cells_one h12]; exact ⟨_, rfl, h_cals⟩)
 have ht13 := Kp.tr (Dw := Dw) hk9 hA hB
 replace hH := Hp.kp (Dw := Dw) hH hk9
 replace h_l := Sl.tr (Dw := Dw) h_l ht13
 replace hK := Tr.trans (Dw := Dw) hK ht13
 replace hB := Nat.le_trans hB ht13.ex.size
 replace hA := ht13.new
 refine V_y (Y_assign rfl) rfl rfl rfl ?_
 refine V_to (fun _ _ => rfl) ?_
 refine C_seq ?_
 refine C_seq ?_
 refine C_region ?_
 refine V_y (Y_move rfl) rfl rfl rfl ?_
 refine V_y (Y_lenSl h_l rfl Try.underlying22 rfl) rfl rfl rfl ?_
 refine V_y (Y_gtr rfl rfl) rfl rfl rfl ?_
 refine V_to (fun _ _ => rfl) ?_
 refine C_cond rfl (fun hc14 => ?_) (fun hc14 => ?_)
 ·rw [if_pos hc14] at hm
  refine C_seq ?_
  refine C_region ?_
  refine V_y (Y_assign rfl) rfl rfl rfl ?_
  refine V_to (fun _ _ => rfl) ?_
  obtain rfl := Option.some.inj hm
  refine C_ret ?_
  try simp only [↓inBlock_ret, ↓then_ret]
  exact retQ rfl (Res.one Try.results10 rfl) ⟨rfl, hK.kp⟩
 ·rw [if_neg (nt hc14)] at hm
  refine C_skip_to (fun _ _ => rfl) ?_
  refine C_seq ?_
  refine C_seq ?_
  refine C_region ?_
  refine V_y (Y_move rfl) rfl rfl rfl ?_
  refine V_y (Y_lenSl h_l rfl Try.underlying22 rfl) rfl rfl rfl ?_
  refine V_y (Y_move rfl) rfl rfl rfl ?_
  refine V_to (fun _ _ => rfl) ?_
  have hn35 := Sl.le h_l
  obtain ⟨o15, ho15, hm⟩ := Option.bind_eq_some_iff.1 hm
  refine C_cutG (ι := (Unit × (Nat → Prop))) (fun ⟨s16, A22⟩ => [(0, v_l), (3, .pointer (some ⟨b5, 0, none⟩))]) (fun ⟨s16, A22⟩ => fun w' => o15 = .fin s16 ∧ Hp w.heap.size A22 w' ([]) ∧ Tr Dw w.heap.size A w6 A22 w') ?_ ?_
  ·refine C_block ?_
   refine C_range ho15 (fun k18 _ a w' => ∃ i : (Nat → Prop), Has ⟨54, [], none⟩ a ([(0, v_l), (3, .pointer (some ⟨b5, 0, none⟩)), (16, v_l), (17, .int .i64 (l.length : Int)), (18, .int .i64 (k18 : Int))]) ∧ Hp w.heap.size i w' ([]) ∧ Tr Dw w.heap.size A w6 i w') (fun a ha => ⟨A, ha.sub ⟨rfl, rfl, rfl, rfl, rfl, trivial⟩, ⟨hH, Tr.refl (Dw := Dw) hA⟩⟩) ?_
   rintro K k18 _ a w25 ⟨A26, ha65, hH27, hr17⟩ hle31 K34 h33
   refine C_of ?_ ha65
   replace h_l := Sl.tr (Dw := Dw) h_l hr17
   replace hK := Tr.trans (Dw := Dw) hK hr17
   replace hB := Nat.le_trans hB hr17.ex.size
   replace hA := hr17.new
   replace hH : Hp w.heap.size A26 w25 ([]) := hH27
   refine C_seq (C_region (V_y (Y_lss rfl rfl) rfl rfl rfl (V_to (fun _ _ => rfl) ?_)))
   refine C_seq ?_
   refine C_cond rfl (fun hc36 => ?_) (fun hc36 => ?_)
   ·have hlt32 := lt_of_dec hc36
    obtain ⟨x28, h29, h30⟩ := K34 hlt32
    refine C_skip_to (fun _ _ => rfl) ?_
    refine C_seq ?_
    refine C_block ?_
    refine C_seq ?_
    refine C_region ?_
    obtain ⟨x37, hx37, h29⟩ := Option.bind_eq_some_iff.1 h29
    refine V_indexAddr h_l hx37 Try.underlying22 Try.sizeOf37 rfl rfl rfl ?_
    intro b38 o39 h40
    obtain ⟨v41, h43, h42⟩ := El_level_Clock h40
    refine V_y (Y_loadA h43 Try.isAgg37 Try.sizeOf37 rfl) rfl rfl rfl ?_
    refine V_alloc Try.zeroValue37 rfl ?_
    intro b44 w45 h46
    have h51 : (v41).oneCell' = true := by obtain ⟨_, _, e, _⟩ := Sl.form h42; rw [e]; rfl
    refine V_storeNew h46 Try.sizeOf37 rfl rfl rfl rfl (by exact (List.forall_mem_cons.2 ⟨rfl, (List.forall_mem_cons.2 ⟨rfl, (List.forall_mem_cons.2 ⟨rfl, (List.forall_mem_cons.2 ⟨rfl, (List.forall_mem_cons.2 ⟨rfl, (List.forall_mem_cons.2 ⟨rfl, (List.forall_mem_cons.2 ⟨h51, (fun _ h => nomatch h)⟩)⟩)⟩)⟩)⟩)⟩)⟩)) ?_
    intro w47 h48
    have hk53 := h48.kp (Dw := Dw)
    have h52 : El (α := level_Clock) A26 w47 b44 0 x37 := h48.el hA ⟨[.int .i64 x37.kind], _, rfl, rfl, ⟨[.int .i64 x37.level], _, rfl, rfl, ⟨[.int .i64 x37.minutes], _, rfl, rfl, ⟨[.int .i64 x37.start], _, rfl, rfl, ⟨[.int .i64 x37.stop], _, rfl, rfl, ⟨[.int .i64 x37.end_], _, rfl, rfl, ⟨_, rfl, h42⟩⟩⟩⟩⟩⟩⟩
    have ht54 := Kp.tr (Dw := Dw) hk53 hA hB
    replace hH := Hp.kp (Dw := Dw) hH hk53
    replace hK := Tr.trans (Dw := Dw) hK ht54
    replace hr17 := Tr.trans (Dw := Dw) hr17 ht54
    replace hB := Nat.le_trans hB ht54.ex.size
    replace hA := ht54.new
    refine V_to (fun _ _ => rfl) ?_
    refine C_seq ?_
    refine C_region ?_
    obtain ⟨v55, h57, h56⟩ := El_level_Clock h52
    refine V_y (Y_loadA h57 Try.isAgg37 Try.sizeOf37 rfl) rfl rfl rfl ?_
    obtain ⟨x58, hx58, h29⟩ := Option.bind_eq_some_iff.1 h29
    refine V_call Try.call28 rfl rfl rfl rfl (level_CheckClock_c (Dw := Dw) w47 hA x37 v55 h56 hx58) ?_
    rintro _ w59 ⟨rfl, hk60⟩
    have ht61 := Kp.tr (Dw := Dw) hk60 hA hB
    replace hH := Hp.kp (Dw := Dw) hH hk60
    replace hK := Tr.trans (Dw := Dw) hK ht61
    replace hr17 := Tr.trans (Dw := Dw) hr17 ht61
    refine V_y (Y_assign rfl) rfl rfl rfl ?_
    refine V_to (fun _ _ => rfl) ?_
    refine C_seq ?_
    refine C_region ?_
    refine V_y (Y_move rfl) rfl rfl rfl ?_
    refine V_y (Y_neq rfl rfl) rfl rfl rfl ?_
    refine V_to (fun _ _ => rfl) ?_
    refine C_cond rfl (fun hc62 => ?_) (fun hc62 => ?_)
    ·rw [if_pos hc62] at h29
     refine C_seq ?_
     refine C_region ?_
     refine V_y (Y_move rfl) rfl rfl rfl ?_
     refine V_y (Y_assign rfl) rfl rfl rfl ?_
     refine V_to (fun _ _ => rfl) ?_
     obtain rfl := Option.some.inj h29
     obtain rfl := (h30 : Lp.rt _ = _)
     rw [Lp.andThen_rt] at hm
     obtain rfl := Option.some.inj hm
     refine C_ret ?_
     try simp only [↓inBlock_ret, ↓then_ret]
     exact retQ rfl (Res.one Try.results10 rfl) ⟨rfl, hK.kp⟩
    ·rw [if_neg (nt hc62)] at h29
     refine C_skip_to (fun _ _ => rfl) ?_
     refine C_region ?_
     refine V_y (Y_addI rfl rfl) rfl rfl rfl ?_
     refine V_y (Y_move rfl) rfl rfl rfl ?_
     obtain rfl := Option.some.inj h29
     refine V_end (fun a ha63 => ?_)
     exact ⟨(), hlt32, h30, ⟨A26, ha63.sub ⟨rfl, rfl, rfl, rfl, (congrArg (fun z => some (Value.int .i64 z)) (w64_succ hlt32 hn35)), trivial⟩, ⟨hH, hr17⟩⟩⟩
   ·refine C_exit (fun a ha64 => ?_)
    exact ⟨((), A26), ha64.sub ⟨rfl, rfl, trivial⟩, ⟨(h33 (eq_of_dec hle31 hc36)).symm, hH, hr17⟩⟩
  rintro ⟨s16, A22⟩ w19 ⟨rfl, hH23, hk20⟩ a ha21
  rw [Lp.andThen_fin] at hm
  replace h_l := Sl.tr (Dw := Dw) h_l hk20
  replace h8 := El.tr (Dw := Dw) h8 hk20
  replace hK := Tr.trans (Dw := Dw) hK hk20
  replace hB := Nat.le_trans hB hk20.ex.size
  replace hA := hk20.new
  replace hH : Hp w.heap.size A22 w19 ([]) := hH23
  refine C_at (n := ⟨54, [], none⟩) (fun _ _ => rfl) ?_ ha21
  refine C_seq ?_
  refine C_seq ?_
  refine C_region ?_
  obtain ⟨v66, h67, h68⟩ := El.list h8
  refine V_y (Y_load h67 Try.isAgg23 rfl) rfl rfl rfl ?_
  refine V_y (Y_lenSl h68 rfl Try.underlying23 rfl) rfl rfl rfl ?_
  refine V_y (Y_gtr rfl rfl) rfl rfl rfl ?_
  refine V_to (fun _ _ => rfl) ?_
  refine C_cond rfl (fun hc69 => ?_) (fun hc69 => ?_)
  ·rw [if_pos hc69] at hm
   refine C_seq ?_
   refine C_region ?_
   refine V_y (Y_assign rfl) rfl rfl rfl ?_
   refine V_to (fun _ _ => rfl) ?_
   obtain rfl := Option.some.inj hm
   refine C_ret ?_
   try simp only [↓inBlock_ret, ↓then_ret]
   exact retQ rfl (Res.one Try.results10 rfl) ⟨rfl, hK.kp⟩
  ·rw [if_neg (nt hc69)] at hm
   refine C_skip_to (fun _ _ => rfl) ?_
   refine C_seq ?_
   refine C_seq ?_
   refine C_region ?_
   obtain ⟨v70, h71, h72⟩ := El.list h8
   refine V_y (Y_load h71 Try.isAgg23 rfl) rfl rfl rfl ?_
   refine V_y (Y_lenSl h72 rfl Try.underlying23 rfl) rfl rfl rfl ?_
   refine V_y (Y_move rfl) rfl rfl rfl ?_
   refine V_to (fun _ _ => rfl) ?_
   have hn93 := Sl.le h72
   obtain ⟨o73, ho73, hm⟩ := Option.bind_eq_some_iff.1 hm
   refine C_cutG (ι := (Unit × (Nat → Prop))) (fun ⟨s74, A80⟩ => [(0, v_l), (3, .pointer (some ⟨b5, 0, none⟩))]) (fun ⟨s74, A80⟩ => fun w' => o73 = .fin s74 ∧ Hp w.heap.size A80 w' ([]) ∧ Tr Dw w.heap.size A22 w19 A80 w') ?_ ?_
   ·refine C_block ?_
    refine C_range ho73 (fun k76 _ a w' => ∃ i : (Nat → Prop), Has ⟨54, [], none⟩ a ([(0, v_l), (3, .pointer (some ⟨b5, 0, none⟩)), (31, v70), (32, .int .i64 (cals.length : Int)), (33, .int .i64 (k76 : Int))]) ∧ Hp w.heap.size i w' ([]) ∧ Tr Dw w.heap.size A22 w19 i w') (fun a ha => ⟨A22, ha.sub ⟨rfl, rfl, rfl, rfl, rfl, trivial⟩, ⟨hH, Tr.refl (Dw := Dw) hA⟩⟩) ?_
    rintro K k76 _ a w83 ⟨A84, ha137, hH85, hr75⟩ hle89 K92 h91
    refine C_of ?_ ha137
    replace h72 := Sl.tr (Dw := Dw) h72 hr75
    replace hK := Tr.trans (Dw := Dw) hK hr75
    replace hB := Nat.le_trans hB hr75.ex.size
    replace hA := hr75.new
    replace hH : Hp w.heap.size A84 w83 ([]) := hH85
    refine C_seq (C_region (V_y (Y_lss rfl rfl) rfl rfl rfl (V_to (fun _ _ => rfl) ?_)))
    refine C_seq ?_
    refine C_cond rfl (fun hc94 => ?_) (fun hc94 => ?_)
    ·have hlt90 := lt_of_dec hc94
     obtain ⟨x86, h87, h88⟩ := K92 hlt90
     refine C_skip_to (fun _ _ => rfl) ?_
     refine C_seq ?_
     refine C_block ?_
     refine C_seq ?_
     refine C_region ?_
     obtain ⟨x95, hx95, h87⟩ := Option.bind_eq_some_iff.1 h87
     refine V_indexAddr h72 hx95 Try.underlying23 Try.sizeOf58 rfl rfl rfl ?_
     intro b96 o97 h98
     obtain ⟨v99, v101, v103, h105, h100, h102, h104⟩ := El_cal_Calendar h98
     refine V_y (Y_loadA h105 Try.isAgg58 Try.sizeOf58 rfl) rfl rfl rfl ?_
     refine V_alloc Try.zeroValue58 rfl ?_
     intro b106 w107 h108
     have h113 : (v99).oneCell' = true := by obtain ⟨_, _, e, _⟩ := Sl.form h100; rw [e]; rfl
     have h116 : (v101).oneCell' = true := by obtain ⟨_, _, e, _⟩ := Sl.form h102; rw [e]; rfl
     have h119 : (v103).oneCell' = true := by obtain ⟨_, _, e, _⟩ := Sl.form h104; rw [e]; rfl
     refine V_storeNew h108 Try.sizeOf58 rfl rfl rfl rfl (by exact (List.forall_mem_cons.2 ⟨rfl, (List.forall_mem_cons.2 ⟨h113, (List.forall_mem_cons.2 ⟨h116, (List.forall_mem_cons.2 ⟨h119, (fun _ h => nomatch h)⟩)⟩)⟩)⟩)) ?_
     intro w109 h110
     have hk121 := h110.kp (Dw := Dw)
     have h120 : El (α := cal_Calendar) A84 w109 b106 0 x95 := h110.el hA ⟨[.int .i64 x95.zone.offset, v99], _, rfl, ⟨[.int .i64 x95.zone.offset], _, rfl, rfl, ⟨_, rfl, h100⟩⟩, ⟨[v101], _, rfl, ⟨_, rfl, h102⟩, ⟨_, rfl, h104⟩⟩⟩
     have ht122 := Kp.tr (Dw := Dw) hk121 hA hB
     replace hH := Hp.kp (Dw := Dw) hH hk121
     replace hK := Tr.trans (Dw := Dw) hK ht122
     replace hr75 := Tr.trans (Dw := Dw) hr75 ht122
     replace hB := Nat.le_trans hB ht122.ex.size
     replace hA := ht122.new
     refine V_to (fun _ _ => rfl) ?_
     refine C_seq ?_
     refine C_region ?_
     obtain ⟨v123, v125, v127, h129, h124, h126, h128⟩ := El_cal_Calendar h120
     refine V_y (Y_loadA h129 Try.isAgg58 Try.sizeOf58 rfl) rfl rfl rfl ?_
     obtain ⟨x130, hx130, h87⟩ := Option.bind_eq_some_iff.1 h87
     refine V_call Try.call29 rfl rfl rfl rfl (cal_CheckCalendar_c (Dw := Dw) w109 hA x95 v123 h124 v125 h126 v127 h128 hx130) ?_
     rintro _ w131 ⟨rfl, hk132⟩
     have ht133 := Kp.tr (Dw := Dw) hk132 hA hB
     replace hH := Hp.kp (Dw := Dw) hH hk132
     replace hK := Tr.trans (Dw := Dw) hK ht133
     replace hr75 := Tr.trans (Dw := Dw) hr75 ht133
     refine V_y (Y_assign rfl) rfl rfl rfl ?_
     refine V_to (fun _ _ => rfl) ?_
     refine C_seq ?_
     refine C_region ?_
     refine V_y (Y_move rfl) rfl rfl rfl ?_
     refine V_y (Y_neq rfl rfl) rfl rfl rfl ?_
     refine V_to (fun _ _ => rfl) ?_
     refine C_cond rfl (fun hc134 => ?_) (fun hc134 => ?_)
     ·rw [if_pos hc134] at h87
      refine C_seq ?_
      refine C_region ?_
      refine V_y (Y_move rfl) rfl rfl rfl ?_
      refine V_y (Y_assign rfl) rfl rfl rfl ?_
      refine V_to (fun _ _ => rfl) ?_
      obtain rfl := Option.some.inj h87
      obtain rfl := (h88 : Lp.rt _ = _)
      rw [Lp.andThen_rt] at hm
      obtain rfl := Option.some.inj hm
      refine C_ret ?_
      try simp only [↓inBlock_ret, ↓then_ret]
      exact retQ rfl (Res.one Try.results10 rfl) ⟨rfl, hK.kp⟩
     ·rw [if_neg (nt hc134)] at h87
      refine C_skip_to (fun _ _ => rfl) ?_
      refine C_region ?_
      refine V_y (Y_addI rfl rfl) rfl rfl rfl ?_
      refine V_y (Y_move rfl) rfl rfl rfl ?_
      obtain rfl := Option.some.inj h87
      refine V_end (fun a ha135 => ?_)
      exact ⟨(), hlt90, h88, ⟨A84, ha135.sub ⟨rfl, rfl, rfl, rfl, (congrArg (fun z => some (Value.int .i64 z)) (w64_succ hlt90 hn93)), trivial⟩, ⟨hH, hr75⟩⟩⟩
    ·refine C_exit (fun a ha136 => ?_)
     exact ⟨((), A84), ha136.sub ⟨rfl, rfl, trivial⟩, ⟨(h91 (eq_of_dec hle89 hc94)).symm, hH, hr75⟩⟩
   rintro ⟨s74, A80⟩ w77 ⟨rfl, hH81, hk78⟩ a ha79
   rw [Lp.andThen_fin] at hm
   replace h_l := Sl.tr (Dw := Dw) h_l hk78
   replace h8 := El.tr (Dw := Dw) h8 hk78
   replace hK := Tr.trans (Dw := Dw) hK hk78
   replace hB := Nat.le_trans hB hk78.ex.size
   replace hA := hk78.new
   replace hH : Hp w.heap.size A80 w77 ([]) := hH81
   refine C_at (n := ⟨54, [], none⟩) (fun _ _ => rfl) ?_ ha79
   refine C_seq ?_
   refine C_seq ?_
   refine C_region ?_
   refine V_y (Y_move rfl) rfl rfl rfl ?_
   refine V_y (Y_lenSl h_l rfl Try.underlying22 rfl) rfl rfl rfl ?_
   refine V_y (Y_move rfl) rfl rfl rfl ?_
   refine V_to (fun _ _ => rfl) ?_
   have hn158 := Sl.le h_l
   obtain ⟨o138, ho138, hm⟩ := Option.bind_eq_some_iff.1 hm
   refine C_cutG (ι := (Unit × (Nat → Prop))) (fun ⟨s139, A145⟩ => []) (fun ⟨s139, A145⟩ => fun w' => o138 = .fin s139 ∧ Hp w.heap.size A145 w' ([]) ∧ Tr Dw w.heap.size A80 w77 A145 w') ?_ ?_
   ·refine C_block ?_
    refine C_range ho138 (fun k141 _ a w' => ∃ i : (Nat → Prop), Has ⟨54, [], none⟩ a ([(3, .pointer (some ⟨b5, 0, none⟩)), (43, v_l), (44, .int .i64 (l.length : Int)), (45, .int .i64 (k141 : Int))]) ∧ Hp w.heap.size i w' ([]) ∧ Tr Dw w.heap.size A80 w77 i w') (fun a ha => ⟨A80, ha.sub ⟨rfl, rfl, rfl, rfl, trivial⟩, ⟨hH, Tr.refl (Dw := Dw) hA⟩⟩) ?_
    rintro K k141 _ a w148 ⟨A149, ha198, hH150, hr140⟩ hle154 K157 h156
    refine C_of ?_ ha198
    replace h8 := El.tr (Dw := Dw) h8 hr140
    replace h_l := Sl.tr (Dw := Dw) h_l hr140
    replace hK := Tr.trans (Dw := Dw) hK hr140
    replace hB := Nat.le_trans hB hr140.ex.size
    replace hA := hr140.new
    replace hH : Hp w.heap.size A149 w148 ([]) := hH150
    refine C_seq (C_region (V_y (Y_lss rfl rfl) rfl rfl rfl (V_to (fun _ _ => rfl) ?_)))
    refine C_seq ?_
    refine C_cond rfl (fun hc159 => ?_) (fun hc159 => ?_)
    ·have hlt155 := lt_of_dec hc159
     obtain ⟨x151, h152, h153⟩ := K157 hlt155
     refine C_skip_to (fun _ _ => rfl) ?_
     refine C_seq ?_
     refine C_block ?_
     refine C_seq ?_
     refine C_region ?_
     obtain ⟨x160, hx160, h152⟩ := Option.bind_eq_some_iff.1 h152
     refine V_indexAddr h_l hx160 Try.underlying22 Try.sizeOf37 rfl rfl rfl ?_
     intro b161 o162 h163
     obtain ⟨v164, h166, h165⟩ := El_level_Clock h163
     refine V_y (Y_loadA h166 Try.isAgg37 Try.sizeOf37 rfl) rfl rfl rfl ?_
     refine V_alloc Try.zeroValue37 rfl ?_
     intro b167 w168 h169
     have h174 : (v164).oneCell' = true := by obtain ⟨_, _, e, _⟩ := Sl.form h165; rw [e]; rfl
     refine V_storeNew h169 Try.sizeOf37 rfl rfl rfl rfl (by exact (List.forall_mem_cons.2 ⟨rfl, (List.forall_mem_cons.2 ⟨rfl, (List.forall_mem_cons.2 ⟨rfl, (List.forall_mem_cons.2 ⟨rfl, (List.forall_mem_cons.2 ⟨rfl, (List.forall_mem_cons.2 ⟨rfl, (List.forall_mem_cons.2 ⟨h174, (fun _ h => nomatch h)⟩)⟩)⟩)⟩)⟩)⟩)⟩)) ?_
     intro w170 h171
     have hk176 := h171.kp (Dw := Dw)
     have h175 : El (α := level_Clock) A149 w170 b167 0 x160 := h171.el hA ⟨[.int .i64 x160.kind], _, rfl, rfl, ⟨[.int .i64 x160.level], _, rfl, rfl, ⟨[.int .i64 x160.minutes], _, rfl, rfl, ⟨[.int .i64 x160.start], _, rfl, rfl, ⟨[.int .i64 x160.stop], _, rfl, rfl, ⟨[.int .i64 x160.end_], _, rfl, rfl, ⟨_, rfl, h165⟩⟩⟩⟩⟩⟩⟩
     have ht177 := Kp.tr (Dw := Dw) hk176 hA hB
     replace hH := Hp.kp (Dw := Dw) hH hk176
     replace h8 := El.tr (Dw := Dw) h8 ht177
     replace hK := Tr.trans (Dw := Dw) hK ht177
     replace hr140 := Tr.trans (Dw := Dw) hr140 ht177
     replace hB := Nat.le_trans hB ht177.ex.size
     replace hA := ht177.new
     refine V_to (fun _ _ => rfl) ?_
     refine C_seq ?_
     refine C_region ?_
     have h178 := El_level_Clock_6 h175
     refine V_y (Y_fieldAddr Try.underlying37 rfl Try.sizeOf35 (by decide) rfl) rfl rfl rfl ?_
     obtain ⟨v179, h180, h181⟩ := El.list h178
     refine V_y (Y_load h180 Try.isAgg35 rfl) rfl rfl rfl ?_
     refine V_y (Y_makeFunc rfl rfl) rfl rfl rfl ?_
     obtain ⟨x183, hx183, h152⟩ := Option.bind_eq_some_iff.1 h152
     refine V_call Try.call30 rfl rfl rfl rfl (slices_ContainsFunc_Llevel_Piece_level_Piece_c (Dw := Dw) w170 hA x160.pieces v179 h181 (fun y191 => level_check_1 y191 cals) 31 #[] #[.pointer (some ⟨b5, 0, none⟩)] Try.call31 (fun w187 A188 ht189 h190 y184 r185 h186 => (level_check_1_c (Dw := Dw) w187 h190 y184 cals b5 (El.tr (Dw := Dw) h8 ht189) h186).mono (fun _ _ h => ⟨h.1, h.2⟩)) hx183) ?_
     rintro _ w192 ⟨rfl, hk193⟩
     have ht194 := Kp.tr (Dw := Dw) hk193 hA hB
     replace hH := Hp.kp (Dw := Dw) hH hk193
     replace hK := Tr.trans (Dw := Dw) hK ht194
     replace hr140 := Tr.trans (Dw := Dw) hr140 ht194
     refine V_to (fun _ _ => rfl) ?_
     refine C_cond rfl (fun hc195 => ?_) (fun hc195 => ?_)
     ·rw [if_pos hc195] at h152
      refine C_seq ?_
      refine C_region ?_
      refine V_y (Y_assign rfl) rfl rfl rfl ?_
      refine V_to (fun _ _ => rfl) ?_
      obtain rfl := Option.some.inj h152
      obtain rfl := (h153 : Lp.rt _ = _)
      rw [Lp.andThen_rt] at hm
      obtain rfl := Option.some.inj hm
      refine C_ret ?_
      try simp only [↓inBlock_ret, ↓then_ret]
      exact retQ rfl (Res.one Try.results10 rfl) ⟨rfl, hK.kp⟩
     ·rw [if_neg (nt hc195)] at h152
      refine C_skip_to (fun _ _ => rfl) ?_
      refine C_region ?_
      refine V_y (Y_addI rfl rfl) rfl rfl rfl ?_
      refine V_y (Y_move rfl) rfl rfl rfl ?_
      obtain rfl := Option.some.inj h152
      refine V_end (fun a ha196 => ?_)
      exact ⟨(), hlt155, h153, ⟨A149, ha196.sub ⟨rfl, rfl, rfl, (congrArg (fun z => some (Value.int .i64 z)) (w64_succ hlt155 hn158)), trivial⟩, ⟨hH, hr140⟩⟩⟩
    ·refine C_exit (fun a ha197 => ?_)
     exact ⟨((), A149), ha197.sub trivial, ⟨(h156 (eq_of_dec hle154 hc159)).symm, hH, hr140⟩⟩
   rintro ⟨s139, A145⟩ w142 ⟨rfl, hH146, hk143⟩ a ha144
   rw [Lp.andThen_fin] at hm
   replace hK := Tr.trans (Dw := Dw) hK hk143
   replace hA := hk143.new
   replace hH : Hp w.heap.size A145 w142 ([]) := hH146
   refine C_at (n := ⟨54, [], none⟩) (fun _ _ => rfl) ?_ ha144
   refine C_seq ?_
   refine C_region ?_
   refine V_y (Y_assign rfl) rfl rfl rfl ?_
   refine V_to (fun _ _ => rfl) ?_
   obtain rfl := Option.some.inj hm
   refine C_ret ?_
   try simp only [↓inBlock_ret, ↓then_ret]
   exact retQ rfl (Res.one Try.results10 rfl) ⟨rfl, hK.kp⟩
set_option maxRecDepth 4000 in
set_option maxHeartbeats 4000000 in
theorem level_moment_c (w : World) (m : Int) (from_ : Int) : Ret Try.prog 11 #[.int .i64 m, .int .i64 from_] w fun v w' => v = .int .i64 (level_moment m from_) ∧ w = w' := by
 generalize hm : level_moment m from_ = r
 unfold level_moment at hm
 refine enter Try.func11 rfl Try.ntmps11 rfl ?_
 refine C_seq ?_
 refine C_region ?_
 refine V_y (Y_assign rfl) rfl rfl rfl ?_
 refine V_to (fun _ _ => rfl) ?_
 refine C_seq ?_
 refine C_seq ?_
 refine C_region ?_
 refine V_y (Y_move rfl) rfl rfl rfl ?_
 refine V_y (Y_move rfl) rfl rfl rfl ?_
 refine V_call Try.call32 rfl rfl rfl rfl (level_within_c w m from_ 3000000) ?_
 rintro _ _ ⟨rfl, rfl⟩
 refine V_y (Y_not rfl) rfl rfl rfl ?_
 refine V_to (fun _ _ => rfl) ?_
 refine C_cond rfl (fun hc1 => ?_) (fun hc1 => ?_)
 ·rw [if_pos hc1] at hm
  refine C_seq ?_
  refine C_region ?_
  refine V_y (Y_assign rfl) rfl rfl rfl ?_
  refine V_to (fun _ _ => rfl) ?_
  obtain rfl := hm
  refine C_ret ?_
  try simp only [↓inBlock_ret, ↓then_ret]
  exact retQ rfl (Res.one Try.results11 rfl) ⟨rfl, rfl⟩
 ·rw [if_neg (nt hc1)] at hm
  refine C_skip_to (fun _ _ => rfl) ?_
  refine C_seq ?_
  refine C_region ?_
  refine V_y (Y_assign rfl) rfl rfl rfl ?_
  refine V_to (fun _ _ => rfl) ?_
  obtain rfl := hm
  refine C_ret ?_
  try simp only [↓inBlock_ret, ↓then_ret]
  exact retQ rfl (Res.one Try.results11 rfl) ⟨rfl, rfl⟩
set_option maxRecDepth 4000 in
set_option maxHeartbeats 4000000 in
theorem cmp_Or_api_Errno_c (w : World) {A : Nat → Prop} (vals : (List Int)) (v_vals : Value) (h_vals : Sl A w v_vals vals) {r : Int} (hm : cmp_Or_api_Errno vals = some r) : Ret Try.prog 9 #[v_vals] w fun v w' => v = .int .i64 r ∧ w = w' := by
 unfold cmp_Or_api_Errno at hm
 refine enter Try.func9 rfl Try.ntmps9 rfl ?_
 refine C_seq ?_
 refine C_region ?_
 refine V_y (Y_assign rfl) rfl rfl rfl ?_
 refine V_to (fun _ _ => rfl) ?_
 refine C_seq ?_
 refine C_region ?_
 refine V_y (Y_assign rfl) rfl rfl rfl ?_
 refine V_to (fun _ _ => rfl) ?_
 refine C_seq ?_
 refine C_seq ?_
 refine C_region ?_
 refine V_y (Y_move rfl) rfl rfl rfl ?_
 refine V_y (Y_lenSl h_vals rfl Try.underlying50 rfl) rfl rfl rfl ?_
 refine V_y (Y_move rfl) rfl rfl rfl ?_
 refine V_to (fun _ _ => rfl) ?_
 have hn19 := Sl.le h_vals
 obtain ⟨o3, ho3, hm⟩ := Option.bind_eq_some_iff.1 hm
 refine C_cutG (ι := Unit) (fun (s4 : Unit) => [(3, .int .i64 0)]) (fun (s4 : Unit) => fun w' => o3 = .fin s4 ∧ w = w') ?_ ?_
 ·refine C_block ?_
  refine C_range ho3 (fun k6 _ a w' => ∃ i : Unit, Has ⟨18, [], none⟩ a ([(3, .int .i64 0), (6, v_vals), (7, .int .i64 (vals.length : Int)), (8, .int .i64 (k6 : Int))]) ∧ w = w') (fun a ha => ⟨(), ha.sub ⟨rfl, rfl, rfl, rfl, trivial⟩, rfl⟩) ?_
  rintro K k6 _ a _ ⟨_, ha28, rfl⟩ hle15 K18 h17
  refine C_of ?_ ha28
  refine C_seq (C_region (V_y (Y_lss rfl rfl) rfl rfl rfl (V_to (fun _ _ => rfl) ?_)))
  refine C_seq ?_
  refine C_cond rfl (fun hc20 => ?_) (fun hc20 => ?_)
  ·have hlt16 := lt_of_dec hc20
   obtain ⟨x12, h13, h14⟩ := K18 hlt16
   refine C_skip_to (fun _ _ => rfl) ?_
   refine C_seq ?_
   refine C_block ?_
   refine C_seq ?_
   refine C_region ?_
   obtain ⟨x21, hx21, h13⟩ := Option.bind_eq_some_iff.1 h13
   refine V_indexAddr h_vals hx21 Try.underlying50 Try.sizeOf24 rfl rfl rfl ?_
   intro b22 o23 h24
   refine V_y (Y_load (El.int h24) Try.isAgg24 rfl) rfl rfl rfl ?_
   refine V_y (Y_assign rfl) rfl rfl rfl ?_
   refine V_to (fun _ _ => rfl) ?_
   refine C_seq ?_
   refine C_region ?_
   refine V_y (Y_move rfl) rfl rfl rfl ?_
   refine V_y (Y_move rfl) rfl rfl rfl ?_
   refine V_y (Y_neq rfl rfl) rfl rfl rfl ?_
   refine V_to (fun _ _ => rfl) ?_
   refine C_cond rfl (fun hc25 => ?_) (fun hc25 => ?_)
   ·rw [if_pos hc25] at h13
    refine C_seq ?_
    refine C_region ?_
    refine V_y (Y_move rfl) rfl rfl rfl ?_
    refine V_y (Y_assign rfl) rfl rfl rfl ?_
    refine V_to (fun _ _ => rfl) ?_
    obtain rfl := Option.some.inj h13
    obtain rfl := (h14 : Lp.rt _ = _)
    rw [Lp.andThen_rt] at hm
    obtain rfl := Option.some.inj hm
    refine C_ret ?_
    try simp only [↓inBlock_ret, ↓then_ret]
    exact retQ rfl (Res.one Try.results9 rfl) ⟨rfl, rfl⟩
   ·rw [if_neg (nt hc25)] at h13
    refine C_skip_to (fun _ _ => rfl) ?_
    refine C_region ?_
    refine V_y (Y_addI rfl rfl) rfl rfl rfl ?_
    refine V_y (Y_move rfl) rfl rfl rfl ?_
    obtain rfl := Option.some.inj h13
    refine V_end (fun a ha26 => ?_)
    exact ⟨(), hlt16, h14, ⟨(), ha26.sub ⟨rfl, rfl, rfl, (congrArg (fun z => some (Value.int .i64 z)) (w64_succ hlt16 hn19)), trivial⟩, rfl⟩⟩
  ·refine C_exit (fun a ha27 => ?_)
   exact ⟨(), ha27.sub ⟨rfl, trivial⟩, ⟨(h17 (eq_of_dec hle15 hc20)).symm, rfl⟩⟩
 rintro s4 _ ⟨rfl, rfl⟩ a ha9
 rw [Lp.andThen_fin] at hm
 refine C_at (n := ⟨18, [], none⟩) (fun _ _ => rfl) ?_ ha9
 refine C_seq ?_
 refine C_region ?_
 refine V_y (Y_move rfl) rfl rfl rfl ?_
 refine V_y (Y_assign rfl) rfl rfl rfl ?_
 refine V_to (fun _ _ => rfl) ?_
 obtain rfl := Option.some.inj hm
 refine C_ret ?_
 try simp only [↓inBlock_ret, ↓then_ret]
 exact retQ rfl (Res.one Try.results9 rfl) ⟨rfl, rfl⟩
set_option maxRecDepth 4000 in
set_option maxHeartbeats 4000000 in
theorem level_runs_c (w : World) {A : Nat → Prop} (hA : ∀ b, w.heap.size ≤ b → A b) (c : level_Clock) (v_c : Value) (h_c : Sl A w v_c c.pieces) {r : Bool} (hm : level_runs c = some r) : Ret Try.prog 12 #[.agg #[.int .i64 c.kind, .int .i64 c.level, .int .i64 c.minutes, .int .i64 c.start, .int .i64 c.stop, .int .i64 c.end_, v_c]] w fun v w' => v = .bool r ∧ Kp Dw w w' := by
 unfold level_runs at hm
 refine enter Try.func12 rfl Try.ntmps12 rfl ?_
 have hA0 := hA
 have hB := Nat.le_refl w.heap.size
 have hK : Tr Dw w.heap.size A w A w := Tr.refl (Dw := Dw) hA
 have hH : Hp w.heap.size A w [] := Hp.nil
 refine C_seq ?_
 refine C_region ?_
 refine V_box rfl rfl ?_
 intro b3 w4 h5
 have hk7 := h5.kp (Dw := Dw)
 have h6 : El (α := level_Clock) A w4 b3 0 c := h5.el hA ⟨[.int .i64 c.kind], _, rfl, rfl, ⟨[.int .i64 c.level], _, rfl, rfl, ⟨[.int .i64 c.minutes], _, rfl, rfl, ⟨[.int .i64 c.start], _, rfl, rfl, ⟨[.int .i64 c.stop], _, rfl, rfl, ⟨[.int .i64 c.end_], _, rfl, rfl, ⟨_, rfl, h_c⟩⟩⟩⟩⟩⟩⟩
 have ht8 := Kp.tr (Dw := Dw) hk7 hA hB
 replace hK := Tr.trans (Dw := Dw) hK ht8
 refine V_y (Y_assign rfl) rfl rfl rfl ?_
 refine V_to (fun _ _ => rfl) ?_
 refine C_seq ?_
 refine C_region ?_
 have h9 := El_level_Clock_6 h6
 refine V_y (Y_fieldAddr Try.underlying37 rfl Try.sizeOf35 (by decide) rfl) rfl rfl rfl ?_
 obtain ⟨v10, h11, h12⟩ := El.list h9
 refine V_y (Y_load h11 Try.isAgg35 rfl) rfl rfl rfl ?_
 refine V_y (Y_lenSl h12 rfl Try.underlying35 rfl) rfl rfl rfl ?_
 refine V_y (Y_gtr rfl rfl) rfl rfl rfl ?_
 refine V_y (Y_move rfl) rfl rfl rfl ?_
 obtain ⟨s14, hs14, hm⟩ := Option.bind_eq_some_iff.1 hm
 refine V_cut 11 (fun _ : Unit => [(18, .bool s14)]) (fun _ w' => w4 = w') ?_ ?_
 ·simp only [List.take, List.drop]
  rcases Bool.eq_false_or_eq_true (decide ((0 : Int) < (c.pieces.length : Int))) with hc13 | hc13
  ·rw [if_pos hc13] at hs14
   refine V_ge rfl rfl rfl hc13 ?_
   have h15 := El_level_Clock_6 h6
   refine V_y (Y_fieldAddr Try.underlying37 rfl Try.sizeOf35 (by decide) rfl) rfl rfl rfl ?_
   refine V_ge rfl rfl rfl hc13 ?_
   obtain ⟨v16, h17, h18⟩ := El.list h15
   refine V_y (Y_load h17 Try.isAgg35 rfl) rfl rfl rfl ?_
   refine V_ge rfl rfl rfl hc13 ?_
   have h19 := El_level_Clock_6 h6
   refine V_y (Y_fieldAddr Try.underlying37 rfl Try.sizeOf35 (by decide) rfl) rfl rfl rfl ?_
   refine V_ge rfl rfl rfl hc13 ?_
   obtain ⟨v20, h21, h22⟩ := El.list h19
   refine V_y (Y_load h21 Try.isAgg35 rfl) rfl rfl rfl ?_
   refine V_ge rfl rfl rfl hc13 ?_
   refine V_y (Y_lenSl h22 rfl Try.underlying35 rfl) rfl rfl rfl ?_
   refine V_ge rfl rfl rfl hc13 ?_
   refine V_y (Y_subI rfl rfl) rfl rfl rfl ?_
   refine V_ge rfl rfl rfl hc13 ?_
   obtain ⟨x23, hx23, hs14⟩ := Option.bind_eq_some_iff.1 hs14
   refine V_indexAddr h18 hx23 Try.underlying35 Try.sizeOf62 rfl rfl rfl ?_
   intro b24 o25 h26
   refine V_ge rfl rfl rfl hc13 ?_
   have h27 := El_level_Piece_1 h26
   refine V_y (Y_fieldAddr Try.underlying62 rfl Try.sizeOf3 (by decide) rfl) rfl rfl rfl ?_
   refine V_ge rfl rfl rfl hc13 ?_
   refine V_y (Y_load (El.int h27) Try.isAgg3 rfl) rfl rfl rfl ?_
   refine V_ge rfl rfl rfl hc13 ?_
   refine V_y (Y_eql rfl rfl) rfl rfl rfl ?_
   refine V_y (Y_pick_te rfl hc13 rfl) rfl rfl rfl ?_
   obtain rfl := Option.some.inj hs14
   exact V_end fun a ha => ⟨(), ha.sub ⟨rfl, trivial⟩, rfl⟩
  ·rw [if_neg (nt hc13)] at hs14
   refine V_gn rfl rfl rfl hc13 rfl rfl rfl ?_
   refine V_gn rfl rfl rfl hc13 rfl rfl rfl ?_
   refine V_gn rfl rfl rfl hc13 rfl rfl rfl ?_
   refine V_gn rfl rfl rfl hc13 rfl rfl rfl ?_
   refine V_gn rfl rfl rfl hc13 rfl rfl rfl ?_
   refine V_gn rfl rfl rfl hc13 rfl rfl rfl ?_
   refine V_gn rfl rfl rfl hc13 rfl rfl rfl ?_
   refine V_gn rfl rfl rfl hc13 rfl rfl rfl ?_
   refine V_gn rfl rfl rfl hc13 rfl rfl rfl ?_
   refine V_gn rfl rfl rfl hc13 rfl rfl rfl ?_
   refine V_y (Y_pick_fe rfl hc13 rfl) rfl rfl rfl ?_
   obtain rfl := Option.some.inj hs14
   exact V_end fun a ha => ⟨(), ha.sub ⟨rfl, trivial⟩, rfl⟩
 simp only [List.take, List.drop]
 rintro _ _ rfl
 refine V_y (Y_assign rfl) rfl rfl rfl ?_
 refine V_to (fun _ _ => rfl) ?_
 obtain rfl := Option.some.inj hm
 refine C_ret ?_
 try simp only [↓inBlock_ret, ↓then_ret]
 exact retQ rfl (Res.one Try.results12 rfl) ⟨rfl, hK.kp⟩
set_option maxRecDepth 4000 in
set_option maxHeartbeats 4000000 in
theorem cal_stretch_c (w : World) (from_ : Int) (to_ : Int) : Ret Try.prog 50 #[.int .i64 from_, .int .i64 to_] w fun v w' => v = .int .i64 (cal_stretch from_ to_) ∧ w = w' := by
 generalize hm : cal_stretch from_ to_ = r
 unfold cal_stretch at hm
 refine enter Try.func50 rfl Try.ntmps50 rfl ?_
 refine C_seq ?_
 refine C_region ?_
 refine V_y (Y_assign rfl) rfl rfl rfl ?_
 refine V_to (fun _ _ => rfl) ?_
 refine C_seq ?_
 refine C_block ?_
 refine C_seq ?_
 refine C_region ?_
 refine V_y (Y_move rfl) rfl rfl rfl ?_
 refine V_call Try.call47 rfl rfl rfl rfl (cal_within_c w from_ 0 3000000) ?_
 rintro _ _ ⟨rfl, rfl⟩
 refine V_y (Y_not rfl) rfl rfl rfl ?_
 refine V_y (Y_move rfl) rfl rfl rfl ?_
 refine V_cut 4 (fun _ : Unit => [(0, .int .i64 from_), (1, .int .i64 to_), (13, .bool ((!(cal_within from_ 0 3000000)) || (!(cal_within to_ 0 3000001))))]) (fun _ w' => w = w') ?_ ?_
 ·simp only [List.take, List.drop]
  rcases Bool.eq_false_or_eq_true (!(cal_within from_ 0 3000000)) with hc1 | hc1
  ·refine V_gn rfl rfl rfl hc1 rfl rfl rfl ?_
   refine V_gn rfl rfl rfl hc1 rfl rfl rfl ?_
   refine V_gn rfl rfl rfl hc1 rfl rfl rfl ?_
   refine V_y (Y_pick_te rfl hc1 rfl) rfl rfl rfl ?_
   exact V_end fun a ha => ⟨(), ha.sub ⟨rfl, rfl, (by rw [hc1]; rfl), trivial⟩, rfl⟩
  ·refine V_ge rfl rfl rfl hc1 ?_
   refine V_y (Y_move rfl) rfl rfl rfl ?_
   refine V_ge rfl rfl rfl hc1 ?_
   refine V_call Try.call47 rfl rfl rfl rfl (cal_within_c w to_ 0 3000001) ?_
   rintro _ _ ⟨rfl, rfl⟩
   refine V_ge rfl rfl rfl hc1 ?_
   refine V_y (Y_not rfl) rfl rfl rfl ?_
   refine V_y (Y_pick_fe rfl hc1 rfl) rfl rfl rfl ?_
   exact V_end fun a ha => ⟨(), ha.sub ⟨rfl, rfl, (by rw [hc1]; rfl), trivial⟩, rfl⟩
 simp only [List.take, List.drop]
 rintro _ _ rfl
 refine V_y (Y_assign rfl) rfl rfl rfl ?_
 refine V_to (fun _ _ => rfl) ?_
 refine C_cond rfl (fun hc3 => ?_) (fun hc3 => ?_)
 ·rw [if_pos hc3] at hm
  refine C_seq ?_
  refine C_region ?_
  refine V_y (Y_assign rfl) rfl rfl rfl ?_
  refine V_to (fun _ _ => rfl) ?_
  obtain rfl := hm
  refine C_ret ?_
  try simp only [↓inBlock_ret, ↓then_ret]
  exact retQ rfl (Res.one Try.results50 rfl) ⟨rfl, rfl⟩
 ·rw [if_neg (nt hc3)] at hm
  refine C_seq ?_
  refine C_region ?_
  refine V_y (Y_move rfl) rfl rfl rfl ?_
  refine V_y (Y_move rfl) rfl rfl rfl ?_
  refine V_y (Y_gtr rfl rfl) rfl rfl rfl ?_
  refine V_y (Y_assign rfl) rfl rfl rfl ?_
  refine V_to (fun _ _ => rfl) ?_
  refine C_cond rfl (fun hc4 => ?_) (fun hc4 => ?_)
  ·rw [if_pos hc4] at hm
   refine C_seq ?_
   refine C_region ?_
   refine V_y (Y_assign rfl) rfl rfl rfl ?_
   refine V_to (fun _ _ => rfl) ?_
   obtain rfl := hm
   refine C_ret ?_
   try simp only [↓inBlock_ret, ↓then_ret]
   exact retQ rfl (Res.one Try.results50 rfl) ⟨rfl, rfl⟩
  ·rw [if_neg (nt hc4)] at hm
   refine C_skip_to (fun _ _ => rfl) ?_
   refine C_seq ?_
   refine C_region ?_
   refine V_y (Y_assign rfl) rfl rfl rfl ?_
   refine V_to (fun _ _ => rfl) ?_
   obtain rfl := hm
   refine C_ret ?_
   try simp only [↓inBlock_ret, ↓then_ret]
   exact retQ rfl (Res.one Try.results50 rfl) ⟨rfl, rfl⟩
set_option maxRecDepth 4000 in
set_option maxHeartbeats 4000000 in
theorem cal_Calendar_open_c (w : World) {A : Nat → Prop} (hA : ∀ b, w.heap.size ≤ b → A b) (c : cal_Calendar) (v_c0 : Value) (h_c0 : Sl A w v_c0 c.zone.changes) (v_c1 : Value) (h_c1 : Sl A w v_c1 c.week) (v_c2 : Value) (h_c2 : Sl A w v_c2 c.specials) (from_ : Int) (to_ : Int) {r : (cal_Calendar × Int × Int)} (hm : cal_Calendar_open c from_ to_ = some r) : Ret Try.prog 51 #[.agg #[.int .i64 c.zone.offset, v_c0, v_c1, v_c2], .int .i64 from_, .int .i64 to_] w fun v w' => ∃ c0 c1 c2, v = .func (.func 68) #[] #[.pointer (some ⟨c0, 0, none⟩), .pointer (some ⟨c1, 0, none⟩), .pointer (some ⟨c2, 0, none⟩)] ∧ El A w' c0 0 r.1 ∧ El A w' c1 0 r.2.1 ∧ El A w' c2 0 r.2.2 ∧ Kp Dw w w' := by
 unfold cal_Calendar_open at hm
 refine enter Try.func51 rfl Try.ntmps51 rfl ?_
 have hA0 := hA
 have hB := Nat.le_refl w.heap.size
 have hK : Tr Dw w.heap.size A w A w := Tr.refl (Dw := Dw) hA
 have hH : Hp w.heap.size A w [] := Hp.nil
 refine C_seq ?_
 refine C_region ?_
 refine V_box rfl rfl ?_
 intro b7 w9 h10
 have hk12 := h10.kp (Dw := Dw)
 have h11 : El (α := cal_Calendar) A w9 b7 0 c := h10.el hA ⟨[.int .i64 c.zone.offset, v_c0], _, rfl, ⟨[.int .i64 c.zone.offset], _, rfl, rfl, ⟨_, rfl, h_c0⟩⟩, ⟨[v_c1], _, rfl, ⟨_, rfl, h_c1⟩, ⟨_, rfl, h_c2⟩⟩⟩
 have ht13 := Kp.tr (Dw := Dw) hk12 hA hB
 replace hK := Tr.trans (Dw := Dw) hK ht13
 replace hB := Nat.le_trans hB ht13.ex.size
 replace hA := ht13.new
 refine V_box rfl rfl ?_
 intro b14 w15 h16
 have hk18 := h16.kp (Dw := Dw)
 have h17 : El (α := Int) A w15 b14 0 from_ := h16.el hA rfl
 have ht19 := Kp.tr (Dw := Dw) hk18 hA hB
 replace h11 := El.tr (Dw := Dw) h11 ht19
 replace hK := Tr.trans (Dw := Dw) hK ht19
 replace hB := Nat.le_trans hB ht19.ex.size
 replace hA := ht19.new
 refine V_box rfl rfl ?_
 intro b20 w21 h22
 have hk24 := h22.kp (Dw := Dw)
 have h23 : El (α := Int) A w21 b20 0 to_ := h22.el hA rfl
 have ht25 := Kp.tr (Dw := Dw) hk24 hA hB
 replace h11 := El.tr (Dw := Dw) h11 ht25
 replace h17 := El.tr (Dw := Dw) h17 ht25
 replace hK := Tr.trans (Dw := Dw) hK ht25
 refine V_y (Y_assign rfl) rfl rfl rfl ?_
 refine V_to (fun _ _ => rfl) ?_
 refine C_seq ?_
 refine C_region ?_
 refine V_y (Y_makeFunc rfl rfl) rfl rfl rfl ?_
 refine V_y (Y_assign rfl) rfl rfl rfl ?_
 refine V_to (fun _ _ => rfl) ?_
 obtain rfl := Option.some.inj hm
 refine C_ret ?_
 try simp only [↓inBlock_ret, ↓then_ret]
 exact retQ rfl (Res.one Try.results51 rfl) ⟨b7, b14, b20, rfl, (El.out (Dw := Dw) h11 hA0 hK), (El.out (Dw := Dw) h17 hA0 hK), (El.out (Dw := Dw) h23 hA0 hK), hK.kp⟩
set_option maxRecDepth 4000 in
set_option maxHeartbeats 4000000 in
theorem cal_Calendar_shifts_c (w : World) {A : Nat → Prop} (hA : ∀ b, w.heap.size ≤ b → A b) (c : cal_Calendar) (v_c0 : Value) (h_c0 : Sl A w v_c0 c.zone.changes) (v_c1 : Value) (h_c1 : Sl A w v_c1 c.week) (v_c2 : Value) (h_c2 : Sl A w v_c2 c.specials) (from_ : Int) (to_ : Int) {r : (cal_Calendar × Int × Int)} (hm : cal_Calendar_shifts c from_ to_ = some r) : Ret Try.prog 69 #[.agg #[.int .i64 c.zone.offset, v_c0, v_c1, v_c2], .int .i64 from_, .int .i64 to_] w fun v w' => ∃ c0 c1 c2, v = .func (.func 80) #[] #[.pointer (some ⟨c0, 0, none⟩), .pointer (some ⟨c1, 0, none⟩), .pointer (some ⟨c2, 0, none⟩)] ∧ El A w' c0 0 r.1 ∧ El A w' c1 0 r.2.1 ∧ El A w' c2 0 r.2.2 ∧ Kp Dw w w' := by
 unfold cal_Calendar_shifts at hm
 refine enter Try.func69 rfl Try.ntmps69 rfl ?_
 have hA0 := hA
 have hB := Nat.le_refl w.heap.size
 have hK : Tr Dw w.heap.size A w A w := Tr.refl (Dw := Dw) hA
 have hH : Hp w.heap.size A w [] := Hp.nil
 refine C_seq ?_
 refine C_region ?_
 refine V_box rfl rfl ?_
 intro b7 w9 h10
 have hk12 := h10.kp (Dw := Dw)
 have h11 : El (α := cal_Calendar) A w9 b7 0 c := h10.el hA ⟨[.int .i64 c.zone.offset, v_c0], _, rfl, ⟨[.int .i64 c.zone.offset], _, rfl, rfl, ⟨_, rfl, h_c0⟩⟩, ⟨[v_c1], _, rfl, ⟨_, rfl, h_c1⟩, ⟨_, rfl, h_c2⟩⟩⟩
 have ht13 := Kp.tr (Dw := Dw) hk12 hA hB
 replace hK := Tr.trans (Dw := Dw) hK ht13
 replace hB := Nat.le_trans hB ht13.ex.size
 replace hA := ht13.new
 refine V_box rfl rfl ?_
 intro b14 w15 h16
 have hk18 := h16.kp (Dw := Dw)
 have h17 : El (α := Int) A w15 b14 0 from_ := h16.el hA rfl
 have ht19 := Kp.tr (Dw := Dw) hk18 hA hB
 replace h11 := El.tr (Dw := Dw) h11 ht19
 replace hK := Tr.trans (Dw := Dw) hK ht19
 replace hB := Nat.le_trans hB ht19.ex.size
 replace hA := ht19.new
 refine V_box rfl rfl ?_
 intro b20 w21 h22
 have hk24 := h22.kp (Dw := Dw)
 have h23 : El (α := Int) A w21 b20 0 to_ := h22.el hA rfl
 have ht25 := Kp.tr (Dw := Dw) hk24 hA hB
 replace h11 := El.tr (Dw := Dw) h11 ht25
 replace h17 := El.tr (Dw := Dw) h17 ht25
 replace hK := Tr.trans (Dw := Dw) hK ht25
 refine V_y (Y_assign rfl) rfl rfl rfl ?_
 refine V_to (fun _ _ => rfl) ?_
 refine C_seq ?_
 refine C_region ?_
 refine V_y (Y_makeFunc rfl rfl) rfl rfl rfl ?_
 refine V_y (Y_assign rfl) rfl rfl rfl ?_
 refine V_to (fun _ _ => rfl) ?_
 obtain rfl := Option.some.inj hm
 refine C_ret ?_
 try simp only [↓inBlock_ret, ↓then_ret]
 exact retQ rfl (Res.one Try.results69 rfl) ⟨b7, b14, b20, rfl, (El.out (Dw := Dw) h11 hA0 hK), (El.out (Dw := Dw) h17 hA0 hK), (El.out (Dw := Dw) h23 hA0 hK), hK.kp⟩
set_option maxRecDepth 4000 in
set_option maxHeartbeats 4000000 in
theorem cal_Zone_parts_c (w : World) {A : Nat → Prop} (hA : ∀ b, w.heap.size ≤ b → A b) (z : cal_Zone) (v_z : Value) (h_z : Sl A w v_z z.changes) {r : (List cal_part)} (hm : cal_Zone_parts z = some r) : Ret Try.prog 81 #[.agg #[.int .i64 z.offset, v_z]] w fun v w' => ∃ s0, v = s0 ∧ Ownd 122 w w' s0 r ∧ Kp Dw w w' := by
 unfold cal_Zone_parts at hm
 refine enter Try.func81 rfl Try.ntmps81 rfl ?_
 have hA0 := hA
 have hB := Nat.le_refl w.heap.size
 have hK : Tr Dw w.heap.size A w A w := Tr.refl (Dw := Dw) hA
 have hH : Hp w.heap.size A w [] := Hp.nil
 refine C_seq ?_
 refine C_region ?_
 refine V_box rfl rfl ?_
 intro b3 w4 h5
 have hk7 := h5.kp (Dw := Dw)
 have h6 : El (α := cal_Zone) A w4 b3 0 z := h5.el hA ⟨[.int .i64 z.offset], _, rfl, rfl, ⟨_, rfl, h_z⟩⟩
 have ht8 := Kp.tr (Dw := Dw) hk7 hA hB
 replace hH := Hp.kp (Dw := Dw) hH hk7
 replace hK := Tr.trans (Dw := Dw) hK ht8
 replace hB := Nat.le_trans hB ht8.ex.size
 replace hA := ht8.new
 refine V_y (Y_assign rfl) rfl rfl rfl ?_
 refine V_to (fun _ _ => rfl) ?_
 refine C_seq ?_
 refine C_region ?_
 have h9 := El_cal_Zone_0 h6
 refine V_y (Y_fieldAddr Try.underlying54 rfl Try.sizeOf3 (by decide) rfl) rfl rfl rfl ?_
 refine V_y (Y_load (El.int h9) Try.isAgg3 rfl) rfl rfl rfl ?_
 refine V_y (Y_build Try.underlying122 Try.zeroValue122 (Try_places122 _ Try.underlying122) rfl (by with_unfolding_all rfl)) rfl rfl rfl ?_
 refine V_buildOwnH (Dw := Dw) (cells := #[.int .i64 0, .int .i64 3000001, .int .i64 z.offset]) (l := ([(⟨0, 3000001, z.offset⟩ : cal_part)] : List cal_part)) (len := 1) hH Try.underlying119 Try.sizeOf122 Try.zeroValue122 rfl (by kernel_rfl) (show (1 * 3 : Nat) ≠ 0 by decide) (show (1 * 3 : Nat) ≤ 2 ^ 24 by decide) hB hA ⟨[.int .i64 0, .int .i64 3000001, .int .i64 z.offset], _, rfl, ⟨[.int .i64 0], _, rfl, rfl, ⟨[.int .i64 3000001], _, rfl, rfl, rfl⟩⟩, rfl⟩ rfl rfl ?_
 intro v10 w11 A14 hH16 ht15
 replace h6 := El.tr (Dw := Dw) h6 ht15
 replace hK := Tr.trans (Dw := Dw) hK ht15
 replace hB := Nat.le_trans hB ht15.ex.size
 replace hA := ht15.new
 replace hH : Hp w.heap.size A14 w11 (obS (α := cal_part) 122 v10 ([(⟨0, 3000001, z.offset⟩ : cal_part)] : List cal_part) :: []) := hH16
 refine V_y (Y_assign rfl) rfl rfl rfl ?_
 refine V_to (fun _ _ => rfl) ?_
 refine C_seq ?_
 refine C_seq ?_
 refine C_region ?_
 have h17 := El_cal_Zone_1 h6
 refine V_y (Y_fieldAddr Try.underlying54 rfl Try.sizeOf52 (by decide) rfl) rfl rfl rfl ?_
 obtain ⟨v18, h19, h20⟩ := El.list h17
 refine V_y (Y_load h19 Try.isAgg52 rfl) rfl rfl rfl ?_
 refine V_y (Y_lenSl h20 rfl Try.underlying52 rfl) rfl rfl rfl ?_
 refine V_y (Y_move rfl) rfl rfl rfl ?_
 refine V_to (fun _ _ => rfl) ?_
 have hn45 := Sl.le h20
 obtain ⟨o21, ho21, hm⟩ := Option.bind_eq_some_iff.1 hm
 refine C_cutG (ι := ((List cal_part) × Value × (Nat → Prop))) (fun ⟨s22, v28, A30⟩ => [(3, v28)]) (fun ⟨s22, v28, A30⟩ => fun w' => o21 = .fin s22 ∧ Hp w.heap.size A30 w' (obS (α := cal_part) 122 v28 s22 :: []) ∧ Tr Dw w.heap.size A14 w11 A30 w') ?_ ?_
 ·refine C_block ?_
  refine C_range ho21 (fun k24 s32 a w' => ∃ i : (Value × (Nat → Prop)), Has ⟨35, [], none⟩ a ([(3, i.1), (11, v18), (12, .int .i64 (z.changes.length : Int)), (13, .int .i64 (k24 : Int))]) ∧ Hp w.heap.size i.2 w' (obS (α := cal_part) 122 i.1 s32 :: []) ∧ Tr Dw w.heap.size A14 w11 i.2 w') (fun a ha => ⟨(v10, A14), ha.sub ⟨rfl, rfl, rfl, rfl, trivial⟩, ⟨hH, Tr.refl (Dw := Dw) hA⟩⟩) ?_
  rintro K k24 s32 a w33 ⟨⟨v34, A36⟩, ha86, hH37, hr23⟩ hle41 K44 h43
  refine C_of ?_ ha86
  replace h20 := Sl.tr (Dw := Dw) h20 hr23
  replace hB := Nat.le_trans hB hr23.ex.size
  replace hA := hr23.new
  replace hH : Hp w.heap.size A36 w33 (obS (α := cal_part) 122 v34 s32 :: []) := hH37
  refine C_seq (C_region (V_y (Y_lss rfl rfl) rfl rfl rfl (V_to (fun _ _ => rfl) ?_)))
  refine C_seq ?_
  refine C_cond rfl (fun hc46 => ?_) (fun hc46 => ?_)
  ·have hlt42 := lt_of_dec hc46
   obtain ⟨x38, h39, h40⟩ := K44 hlt42
   refine C_skip_to (fun _ _ => rfl) ?_
   refine C_seq ?_
   refine C_block ?_
   refine C_seq ?_
   refine C_region ?_
   obtain ⟨x47, hx47, h39⟩ := Option.bind_eq_some_iff.1 h39
   refine V_indexAddr h20 hx47 Try.underlying52 Try.sizeOf104 rfl rfl rfl ?_
   intro b48 o49 h50
   obtain ⟨h51, _⟩ := El_cal_Change h50
   refine V_y (Y_loadA h51 Try.isAgg104 Try.sizeOf104 rfl) rfl rfl rfl ?_
   refine V_alloc Try.zeroValue104 rfl ?_
   intro b52 w53 h54
   refine V_storeNew h54 Try.sizeOf104 rfl rfl rfl rfl (by exact (List.forall_mem_cons.2 ⟨rfl, (List.forall_mem_cons.2 ⟨rfl, (fun _ h => nomatch h)⟩)⟩)) ?_
   intro w55 h56
   have hk58 := h56.kp (Dw := Dw)
   have h57 : El (α := cal_Change) A36 w55 b52 0 x47 := h56.el hA ⟨[.int .i64 x47.at_], _, rfl, rfl, rfl⟩
   have ht59 := Kp.tr (Dw := Dw) hk58 hA hB
   replace hH := Hp.kp (Dw := Dw) hH hk58
   replace hr23 := Tr.trans (Dw := Dw) hr23 ht59
   replace hB := Nat.le_trans hB ht59.ex.size
   replace hA := ht59.new
   refine V_to (fun _ _ => rfl) ?_
   refine C_seq ?_
   refine C_region ?_
   refine V_y (Y_move rfl) rfl rfl rfl ?_
   refine V_y (Y_move rfl) rfl rfl rfl ?_
   refine V_y (Y_lenSl (Hp.any (α := cal_part) (e := 122) (v := v34) (l := s32) hH (i := 0) rfl) rfl Try.underlying119 rfl) rfl rfl rfl ?_
   refine V_y (Y_subI rfl rfl) rfl rfl rfl ?_
   have h60 := El_cal_Change_0 h57
   refine V_y (Y_fieldAddr Try.underlying104 rfl Try.sizeOf3 (by decide) rfl) rfl rfl rfl ?_
   refine V_y (Y_load (El.int h60) Try.isAgg3 rfl) rfl rfl rfl ?_
   obtain ⟨x61, hx61, h39⟩ := Option.bind_eq_some_iff.1 h39
   refine V_indexAddrH (α := cal_part) (e := 122) (v := v34) (l := s32) hH (i := 0) rfl hx61 Try.underlying119 Try.sizeOf122 rfl rfl rfl ?_
   intro b62 o63 h64 hl65
   have h66 := El_cal_part_1 h64
   refine V_y (Y_fieldAddr Try.underlying122 rfl Try.sizeOf3 (by decide) rfl) rfl rfl rfl ?_
   obtain ⟨x67, hx67, h39⟩ := Option.bind_eq_some_iff.1 h39
   refine V_storeFH (Dw := Dw) (α := cal_part) (e := 122) (v := v34) (l := s32) (foff := 1) hH (i := 0) rfl hl65 hx61 hx67 (fun _ h => by obtain ⟨_, _, rfl, rfl, ⟨_, _, rfl, rfl, rfl⟩⟩ := h; exact ⟨[_], _, rfl, rfl, ⟨[_], _, rfl, rfl, rfl⟩⟩) Try.sizeOf3 rfl (by simp [Value.cells, Value.oneCell']) (by decide) hB hA (congrArg (fun z => some (Value.pointer (some ⟨_, z, none⟩))) (by simp [Nat.add_assoc])) rfl ?_
   intro w68 hH69 ht70
   replace h57 := El.tr (Dw := Dw) h57 ht70
   replace hr23 := Tr.trans (Dw := Dw) hr23 ht70
   replace hB := Nat.le_trans hB ht70.ex.size
   replace hA := ht70.new
   replace hH : Hp w.heap.size A36 w68 (obS (α := cal_part) 122 v34 x67 :: []) := hH69
   refine V_to (fun _ _ => rfl) ?_
   refine C_region ?_
   refine V_y (Y_move rfl) rfl rfl rfl ?_
   have h71 := El_cal_Change_0 h57
   refine V_y (Y_fieldAddr Try.underlying104 rfl Try.sizeOf3 (by decide) rfl) rfl rfl rfl ?_
   refine V_y (Y_load (El.int h71) Try.isAgg3 rfl) rfl rfl rfl ?_
   have h72 := El_cal_Change_1 h57
   refine V_y (Y_fieldAddr Try.underlying104 rfl Try.sizeOf3 (by decide) rfl) rfl rfl rfl ?_
   refine V_y (Y_load (El.int h72) Try.isAgg3 rfl) rfl rfl rfl ?_
   refine V_y (Y_build Try.underlying122 Try.zeroValue122 (Try_places122 _ Try.underlying122) rfl (by with_unfolding_all rfl)) rfl rfl rfl ?_
   refine V_buildSlice (Dw := Dw) (cells := #[.int .i64 x47.at_, .int .i64 3000001, .int .i64 x47.offset]) (l := ([(⟨x47.at_, 3000001, x47.offset⟩ : cal_part)] : List cal_part)) (len := 1) Try.underlying119 Try.sizeOf122 Try.zeroValue122 rfl (by kernel_rfl) (show (1 * 3 : Nat) ≠ 0 by decide) (show (1 * 3 : Nat) ≤ 2 ^ 24 by decide) hA ⟨[.int .i64 x47.at_, .int .i64 3000001, .int .i64 x47.offset], _, rfl, ⟨[.int .i64 x47.at_], _, rfl, rfl, ⟨[.int .i64 3000001], _, rfl, rfl, rfl⟩⟩, rfl⟩ rfl rfl ?_
   intro v73 w74 hk76 h75
   have ht77 := Kp.tr (Dw := Dw) hk76 hA hB
   replace hH := Hp.kp (Dw := Dw) hH hk76
   replace hr23 := Tr.trans (Dw := Dw) hr23 ht77
   replace hB := Nat.le_trans hB ht77.ex.size
   replace hA := ht77.new
   obtain ⟨x78, hx78, h39⟩ := Option.bind_eq_some_iff.1 h39
   refine V_appendH (Dw := Dw) (e := 122) (v := v34) (l := x67) (ti := Try.t122) (bytes := 24) (lim := 5864062014805) hH (i := 0) rfl h75 hx78 Try.underlying119 Try_info122 rfl rfl rfl rfl (by decide) (by decide) (by decide) hB hA rfl rfl rfl ?_
   intro v79 w80 A81 hH82 ht83
   replace hr23 := Tr.trans (Dw := Dw) hr23 ht83
   replace hH : Hp w.heap.size A81 w80 (obS (α := cal_part) 122 v79 x78 :: []) := hH82
   refine V_y (Y_assign rfl) rfl rfl rfl ?_
   refine V_to (fun _ _ => rfl) ?_
   refine C_region ?_
   refine V_y (Y_addI rfl rfl) rfl rfl rfl ?_
   refine V_y (Y_move rfl) rfl rfl rfl ?_
   obtain rfl := Option.some.inj h39
   refine V_end (fun a ha84 => ?_)
   exact ⟨x78, hlt42, h40, ⟨(v79, A81), ha84.sub ⟨rfl, rfl, rfl, (congrArg (fun z => some (Value.int .i64 z)) (w64_succ hlt42 hn45)), trivial⟩, ⟨hH, hr23⟩⟩⟩
  ·refine C_exit (fun a ha85 => ?_)
   exact ⟨(s32, v34, A36), ha85.sub ⟨rfl, trivial⟩, ⟨(h43 (eq_of_dec hle41 hc46)).symm, hH, hr23⟩⟩
 rintro ⟨s22, v28, A30⟩ w25 ⟨rfl, hH31, hk26⟩ a ha27
 rw [Lp.andThen_fin] at hm
 replace hK := Tr.trans (Dw := Dw) hK hk26
 replace hA := hk26.new
 replace hH : Hp w.heap.size A30 w25 (obS (α := cal_part) 122 v28 s22 :: []) := hH31
 refine C_at (n := ⟨35, [], none⟩) (fun _ _ => rfl) ?_ ha27
 refine C_seq ?_
 refine C_region ?_
 refine V_y (Y_move rfl) rfl rfl rfl ?_
 refine V_y (Y_assign rfl) rfl rfl rfl ?_
 refine V_to (fun _ _ => rfl) ?_
 obtain rfl := Option.some.inj hm
 refine C_ret ?_
 try simp only [↓inBlock_ret, ↓then_ret]
 exact retQ rfl (Res.one Try.results81 rfl) ⟨v28, rfl, (Hp.ownd hH (i := 0) rfl), hK.kp⟩
set_option maxRecDepth 4000 in
set_option maxHeartbeats 4000000 in
theorem cal_floor_c (w : World) (a_ : Int) (b : Int) {r : Int} (hm : cal_floor a_ b = some r) : Ret Try.prog 84 #[.int .i64 a_, .int .i64 b] w fun v w' => v = .int .i64 r ∧ w = w' := by
 unfold cal_floor at hm
 refine enter Try.func84 rfl Try.ntmps84 rfl ?_
 refine C_seq ?_
 refine C_region ?_
 refine V_y (Y_assign rfl) rfl rfl rfl ?_
 refine V_to (fun _ _ => rfl) ?_
 refine C_seq ?_
 refine C_region ?_
 refine V_y (Y_move rfl) rfl rfl rfl ?_
 refine V_y (Y_move rfl) rfl rfl rfl ?_
 obtain ⟨x1, hx1, hm⟩ := Option.bind_eq_some_iff.1 hm
 refine V_y (Y_quo hx1 rfl rfl) rfl rfl rfl ?_
 refine V_y (Y_assign rfl) rfl rfl rfl ?_
 refine V_to (fun _ _ => rfl) ?_
 refine C_seq ?_
 refine C_seq ?_
 refine C_region ?_
 refine V_y (Y_move rfl) rfl rfl rfl ?_
 refine V_y (Y_move rfl) rfl rfl rfl ?_
 obtain ⟨x2, hx2, hm⟩ := Option.bind_eq_some_iff.1 hm
 refine V_y (Y_rem hx2 rfl rfl) rfl rfl rfl ?_
 refine V_y (Y_lss rfl rfl) rfl rfl rfl ?_
 refine V_to (fun _ _ => rfl) ?_
 obtain ⟨s4, ho3, hm⟩ := Option.bind_eq_some_iff.1 hm
 refine C_cutG (ι := Unit) (fun (_ : Unit) => [(5, .int .i64 s4)]) (fun (_ : Unit) => fun w' => w = w') ?_ ?_
 ·refine C_cond rfl (fun hc9 => ?_) (fun hc9 => ?_)
  ·rw [if_pos hc9] at ho3
   refine C_region ?_
   refine V_y (Y_move rfl) rfl rfl rfl ?_
   refine V_y (Y_subI rfl rfl) rfl rfl rfl ?_
   refine V_y (Y_assign rfl) rfl rfl rfl ?_
   obtain rfl := Option.some.inj ho3
   refine V_end (fun a ha10 => ?_)
   exact ⟨(), ha10.sub ⟨rfl, trivial⟩, rfl⟩
  ·rw [if_neg (nt hc9)] at ho3
   obtain rfl := Option.some.inj ho3
   refine C_skip (fun a ha11 => ?_)
   exact ⟨(), ha11.sub ⟨rfl, trivial⟩, rfl⟩
 rintro _ _ rfl a ha8
 refine C_at (n := ⟨16, [], none⟩) (fun _ _ => rfl) ?_ ha8
 refine C_seq ?_
 refine C_region ?_
 refine V_y (Y_move rfl) rfl rfl rfl ?_
 refine V_y (Y_assign rfl) rfl rfl rfl ?_
 refine V_to (fun _ _ => rfl) ?_
 obtain rfl := Option.some.inj hm
 refine C_ret ?_
 try simp only [↓inBlock_ret, ↓then_ret]
 exact retQ rfl (Res.one Try.results84 rfl) ⟨rfl, rfl⟩
set_option maxRecDepth 4000 in
set_option maxHeartbeats 4000000 in
theorem slices_BinarySearchFunc_Lcal_Special_cal_Special_int_c (w : World) {A : Nat → Prop} (hA : ∀ b, w.heap.size ≤ b → A b) (x : (List cal_Special)) (v_x : Value) (h_x : Sl A w v_x x) (target : Int) (cmp : cal_Special → Int → Option Int) (cmp_f : FuncId) (cmp_a cmp_c : Array Value) (cmp_call : ∀ (args : Array Value) (w : World), (callFunc cmp_f args).run Try.prog w = .ok (.enter cmp_f args) w) (cmp_spec : ∀ (w1 : World) (A1 : Nat → Prop), Tr Dw w.heap.size A w A1 w1 → (∀ b, w1.heap.size ≤ b → A1 b) → ∀ (y0 : cal_Special) (v1 : Value) (h2 : Sl A1 w1 v1 y0.shifts) (y1 : Int) (r : Int), cmp y0 y1 = some r → Ret Try.prog cmp_f (cmp_a ++ #[.agg #[.int .i64 y0.day, v1], .int .i64 y1] ++ cmp_c) w1 fun v w' => v = .int .i64 r ∧ Kp Dw w1 w') {r : (Int × Bool)} (hm : slices_BinarySearchFunc_Lcal_Special_cal_Special_int x target cmp = some r) : Ret Try.prog 91 #[v_x, .int .i64 target, .func (.func cmp_f) cmp_a cmp_c] w fun v w' => v = .tuple #[.int .i64 r.1, .bool r.2] ∧ Kp Dw w w' := by
 unfold slices_BinarySearchFunc_Lcal_Special_cal_Special_int at hm
 refine enter Try.func91 rfl Try.ntmps91 rfl ?_
 have hA0 := hA
 have hB := Nat.le_refl w.heap.size
 have hK : Tr Dw w.heap.size A w A w := Tr.refl (Dw := Dw) hA
 have hH : Hp w.heap.size A w [] := Hp.nil
 refine C_seq ?_
 refine C_region ?_
 refine V_y (Y_assign rfl) rfl rfl rfl ?_
 refine V_y (Y_assign rfl) rfl rfl rfl ?_
 refine V_to (fun _ _ => rfl) ?_
 refine C_seq ?_
 refine C_region ?_
 refine V_y (Y_move rfl) rfl rfl rfl ?_
 refine V_y (Y_lenSl h_x rfl Try.underlying56 rfl) rfl rfl rfl ?_
 refine V_y (Y_assign rfl) rfl rfl rfl ?_
 refine V_to (fun _ _ => rfl) ?_
 refine C_seq ?_
 refine C_region ?_
 refine V_y (Y_move rfl) rfl rfl rfl ?_
 refine V_y (Y_assign rfl) rfl rfl rfl ?_
 refine V_y (Y_assign rfl) rfl rfl rfl ?_
 refine V_to (fun _ _ => rfl) ?_
 refine C_seq ?_
 obtain ⟨o3, ho3, hm⟩ := Option.bind_eq_some_iff.1 hm
 refine C_cutG (ι := ((Int × Int) × (Nat → Prop))) (fun ⟨s4, A10⟩ => [(0, v_x), (1, .int .i64 target), (2, .func (.func cmp_f) cmp_a cmp_c), (8, .int .i64 (x.length : Int)), (9, .int .i64 s4.1)]) (fun ⟨s4, A10⟩ => fun w' => o3 = .fin s4 ∧ Hp w.heap.size A10 w' ([]) ∧ Tr Dw w.heap.size A w A10 w') ?_ ?_
 ·refine C_block ?_
  refine C_while ho3 (fun s12 a w' => ∃ i : (Nat → Prop), Has ⟨49, [], none⟩ a ([(0, v_x), (1, .int .i64 target), (2, .func (.func cmp_f) cmp_a cmp_c), (8, .int .i64 (x.length : Int)), (9, .int .i64 s12.1), (10, .int .i64 s12.2)]) ∧ Hp w.heap.size i w' ([]) ∧ Tr Dw w.heap.size A w i w') (fun a ha => ⟨A, ha.sub ⟨rfl, rfl, rfl, rfl, rfl, rfl, trivial⟩, ⟨hH, Tr.refl (Dw := Dw) hA⟩⟩) ?_
  rintro K s12 a w13 ⟨A14, ha56, hH15, hr5⟩ K22
  refine C_of ?_ ha56
  replace h_x := Sl.tr (Dw := Dw) h_x hr5
  replace hK := Tr.trans (Dw := Dw) hK hr5
  replace hB := Nat.le_trans hB hr5.ex.size
  replace hA := hr5.new
  replace hH : Hp w.heap.size A14 w13 ([]) := hH15
  obtain ⟨x16, h17, h18⟩ := K22
  refine C_seq ?_
  refine C_seq ?_
  refine C_region ?_
  refine V_y (Y_move rfl) rfl rfl rfl ?_
  refine V_y (Y_move rfl) rfl rfl rfl ?_
  refine V_y (Y_lss rfl rfl) rfl rfl rfl ?_
  refine V_to (fun _ _ => rfl) ?_
  refine C_cond rfl (fun hc23 => ?_) (fun hc23 => ?_)
  ·rw [if_pos hc23] at h17
   refine C_skip_to (fun _ _ => rfl) ?_
   obtain ⟨s25, ho24, h17⟩ := Option.bind_eq_some_iff.1 h17
   refine C_cutG (ι := (Nat → Prop)) (fun (A30 : (Nat → Prop)) => [(0, v_x), (1, .int .i64 target), (2, .func (.func cmp_f) cmp_a cmp_c), (8, .int .i64 (x.length : Int)), (9, .int .i64 s25.1), (10, .int .i64 s25.2)]) (fun (A30 : (Nat → Prop)) => fun w' => Hp w.heap.size A30 w' ([]) ∧ Tr Dw w.heap.size A14 w13 A30 w') ?_ ?_
   ·have hr26 : Tr Dw w.heap.size A14 w13 A14 w13 := Tr.refl (Dw := Dw) hA
    refine C_block ?_
    refine C_seq ?_
    refine C_region ?_
    refine V_y (Y_move rfl) rfl rfl rfl ?_
    refine V_y (Y_move rfl) rfl rfl rfl ?_
    refine V_y (Y_addI rfl rfl) rfl rfl rfl ?_
    refine V_y (Y_convI Try.underlying3 Try.underlying71 rfl) rfl rfl rfl ?_
    obtain ⟨x32, hx32, ho24⟩ := Option.bind_eq_some_iff.1 ho24
    refine V_y (Y_shr hx32 rfl rfl) rfl rfl rfl ?_
    refine V_y (Y_convI Try.underlying71 Try.underlying3 rfl) rfl rfl rfl ?_
    refine V_y (Y_assign rfl) rfl rfl rfl ?_
    refine V_to (fun _ _ => rfl) ?_
    refine C_seq ?_
    refine C_region ?_
    refine V_y (Y_move rfl) rfl rfl rfl ?_
    refine V_y (Y_move rfl) rfl rfl rfl ?_
    refine V_y (Y_move rfl) rfl rfl rfl ?_
    obtain ⟨x33, hx33, ho24⟩ := Option.bind_eq_some_iff.1 ho24
    refine V_indexAddr h_x hx33 Try.underlying56 Try.sizeOf82 rfl rfl rfl ?_
    intro b34 o35 h36
    obtain ⟨v37, h39, h38⟩ := El_cal_Special h36
    refine V_y (Y_loadA h39 Try.isAgg82 Try.sizeOf82 rfl) rfl rfl rfl ?_
    refine V_y (Y_move rfl) rfl rfl rfl ?_
    obtain ⟨x40, hx40, ho24⟩ := Option.bind_eq_some_iff.1 ho24
    refine V_call cmp_call rfl rfl rfl rfl (cmp_spec w13 _ hK hA x33 v37 h38 target _ hx40) ?_
    rintro _ w41 ⟨rfl, hk42⟩
    have ht43 := Kp.tr (Dw := Dw) hk42 hA hB
    replace hH := Hp.kp (Dw := Dw) hH hk42
    replace hr26 := Tr.trans (Dw := Dw) hr26 ht43
    refine V_y (Y_lss rfl rfl) rfl rfl rfl ?_
    refine V_to (fun _ _ => rfl) ?_
    obtain ⟨s45, ho44, ho24⟩ := Option.bind_eq_some_iff.1 ho24
    refine C_cutG (ι := Unit) (fun (_ : Unit) => [(0, v_x), (1, .int .i64 target), (2, .func (.func cmp_f) cmp_a cmp_c), (8, .int .i64 (x.length : Int)), (9, .int .i64 s45.1), (10, .int .i64 s45.2)]) (fun (_ : Unit) => fun w' => w41 = w') ?_ ?_
    ·refine C_cond rfl (fun hc50 => ?_) (fun hc50 => ?_)
     ·rw [if_pos hc50] at ho44
      refine C_region ?_
      refine V_y (Y_move rfl) rfl rfl rfl ?_
      refine V_y (Y_addI rfl rfl) rfl rfl rfl ?_
      refine V_y (Y_assign rfl) rfl rfl rfl ?_
      obtain rfl := Option.some.inj ho44
      refine V_end (fun a ha51 => ?_)
      exact ⟨(), ha51.sub ⟨rfl, rfl, rfl, rfl, rfl, rfl, trivial⟩, rfl⟩
     ·rw [if_neg (nt hc50)] at ho44
      refine C_region ?_
      refine V_y (Y_move rfl) rfl rfl rfl ?_
      refine V_y (Y_assign rfl) rfl rfl rfl ?_
      obtain rfl := Option.some.inj ho44
      refine V_end (fun a ha52 => ?_)
      exact ⟨(), ha52.sub ⟨rfl, rfl, rfl, rfl, rfl, rfl, trivial⟩, rfl⟩
    rintro _ _ rfl a ha49
    obtain rfl := Option.some.inj ho24
    exact ⟨A14, ha49.sub ⟨rfl, rfl, rfl, rfl, rfl, rfl, trivial⟩, ⟨hH, hr26⟩⟩
   rintro A30 w27 ⟨hH31, hk28⟩ a ha29
   replace hr5 := Tr.trans (Dw := Dw) hr5 hk28
   replace hA := hk28.new
   replace hH : Hp w.heap.size A30 w27 ([]) := hH31
   obtain rfl := Option.some.inj h17
   exact ⟨(s25.1, s25.2), h18, ⟨A30, ha29.sub ⟨rfl, rfl, rfl, rfl, rfl, rfl, trivial⟩, ⟨hH, hr5⟩⟩⟩
  ·rw [if_neg (nt hc23)] at h17
   obtain rfl := Option.some.inj h17
   refine C_exit (fun a ha55 => ?_)
   exact ⟨((s12.1, s12.2), A14), ha55.sub ⟨rfl, rfl, rfl, rfl, rfl, trivial⟩, ⟨h18.symm, hH, hr5⟩⟩
 rintro ⟨s4, A10⟩ w7 ⟨rfl, hH11, hk8⟩ a ha9
 rw [Lp.andThen_fin] at hm
 replace h_x := Sl.tr (Dw := Dw) h_x hk8
 replace hK := Tr.trans (Dw := Dw) hK hk8
 replace hB := Nat.le_trans hB hk8.ex.size
 replace hA := hk8.new
 replace hH : Hp w.heap.size A10 w7 ([]) := hH11
 refine C_at (n := ⟨49, [], none⟩) (fun _ _ => rfl) ?_ ha9
 refine C_seq ?_
 obtain ⟨s58, ho57, hm⟩ := Option.bind_eq_some_iff.1 hm
 refine C_cutG (ι := (Nat → Prop)) (fun (A63 : (Nat → Prop)) => [(6, .int .i64 s58.1), (7, .bool s58.2)]) (fun (A63 : (Nat → Prop)) => fun w' => Hp w.heap.size A63 w' ([]) ∧ Tr Dw w.heap.size A10 w7 A63 w') ?_ ?_
 ·have hr59 : Tr Dw w.heap.size A10 w7 A10 w7 := Tr.refl (Dw := Dw) hA
  refine C_region ?_
  refine V_y (Y_move rfl) rfl rfl rfl ?_
  refine V_y (Y_move rfl) rfl rfl rfl ?_
  refine V_y (Y_move rfl) rfl rfl rfl ?_
  refine V_y (Y_lss rfl rfl) rfl rfl rfl ?_
  refine V_y (Y_move rfl) rfl rfl rfl ?_
  rcases Bool.eq_false_or_eq_true (decide (s4.1 < (x.length : Int))) with hc65 | hc65
  ·rw [if_pos hc65] at ho57
   refine V_ge rfl rfl rfl hc65 ?_
   refine V_y (Y_move rfl) rfl rfl rfl ?_
   refine V_ge rfl rfl rfl hc65 ?_
   refine V_y (Y_move rfl) rfl rfl rfl ?_
   refine V_ge rfl rfl rfl hc65 ?_
   refine V_y (Y_move rfl) rfl rfl rfl ?_
   refine V_ge rfl rfl rfl hc65 ?_
   obtain ⟨x66, hx66, ho57⟩ := Option.bind_eq_some_iff.1 ho57
   refine V_indexAddr h_x hx66 Try.underlying56 Try.sizeOf82 rfl rfl rfl ?_
   intro b67 o68 h69
   refine V_ge rfl rfl rfl hc65 ?_
   obtain ⟨v70, h72, h71⟩ := El_cal_Special h69
   refine V_y (Y_loadA h72 Try.isAgg82 Try.sizeOf82 rfl) rfl rfl rfl ?_
   refine V_ge rfl rfl rfl hc65 ?_
   refine V_y (Y_move rfl) rfl rfl rfl ?_
   refine V_ge rfl rfl rfl hc65 ?_
   obtain ⟨x73, hx73, ho57⟩ := Option.bind_eq_some_iff.1 ho57
   refine V_call cmp_call rfl rfl rfl rfl (cmp_spec w7 _ hK hA x66 v70 h71 target _ hx73) ?_
   rintro _ w74 ⟨rfl, hk75⟩
   have ht76 := Kp.tr (Dw := Dw) hk75 hA hB
   replace hH := Hp.kp (Dw := Dw) hH hk75
   replace hr59 := Tr.trans (Dw := Dw) hr59 ht76
   refine V_ge rfl rfl rfl hc65 ?_
   refine V_y (Y_eql rfl rfl) rfl rfl rfl ?_
   refine V_y (Y_pick_te rfl hc65 rfl) rfl rfl rfl ?_
   refine V_y (Y_assign rfl) rfl rfl rfl ?_
   refine V_y (Y_assign rfl) rfl rfl rfl ?_
   obtain rfl := Option.some.inj ho57
   refine V_end (fun a ha77 => ?_)
   exact ⟨A10, ha77.sub ⟨rfl, rfl, trivial⟩, ⟨hH, hr59⟩⟩
  ·rw [if_neg (nt hc65)] at ho57
   refine V_gn rfl rfl rfl hc65 rfl rfl rfl ?_
   refine V_gn rfl rfl rfl hc65 rfl rfl rfl ?_
   refine V_gn rfl rfl rfl hc65 rfl rfl rfl ?_
   refine V_gn rfl rfl rfl hc65 rfl rfl rfl ?_
   refine V_gn rfl rfl rfl hc65 rfl rfl rfl ?_
   refine V_gn rfl rfl rfl hc65 rfl rfl rfl ?_
   refine V_gn rfl rfl rfl hc65 rfl rfl rfl ?_
   refine V_gn rfl rfl rfl hc65 rfl rfl rfl ?_
   refine V_y (Y_pick_fe rfl hc65 rfl) rfl rfl rfl ?_
   refine V_y (Y_assign rfl) rfl rfl rfl ?_
   refine V_y (Y_assign rfl) rfl rfl rfl ?_
   obtain rfl := Option.some.inj ho57
   refine V_end (fun a ha78 => ?_)
   exact ⟨A10, ha78.sub ⟨rfl, rfl, trivial⟩, ⟨hH, hr59⟩⟩
 rintro A63 w60 ⟨hH64, hk61⟩ a ha62
 replace hK := Tr.trans (Dw := Dw) hK hk61
 replace hA := hk61.new
 replace hH : Hp w.heap.size A63 w60 ([]) := hH64
 refine C_at (n := ⟨49, [], none⟩) (fun _ _ => rfl) ?_ ha62
 obtain rfl := Option.some.inj hm
 refine C_ret ?_
 try simp only [↓inBlock_ret, ↓then_ret]
 exact retQ rfl (Res.two Try.results91 rfl rfl) ⟨rfl, hK.kp⟩
set_option maxRecDepth 4000 in
set_option maxHeartbeats 4000000 in
theorem cal_Calendar_shiftsOf_1_c (w : World) {A : Nat → Prop} (hA : ∀ b, w.heap.size ≤ b → A b) (s : cal_Special) (v_s : Value) (h_s : Sl A w v_s s.shifts) (d : Int) {r : Int} (hm : cal_Calendar_shiftsOf_1 s d = some r) : Ret Try.prog 92 #[.agg #[.int .i64 s.day, v_s], .int .i64 d] w fun v w' => v = .int .i64 r ∧ Kp Dw w w' := by
 unfold cal_Calendar_shiftsOf_1 at hm
 refine enter Try.func92 rfl Try.ntmps92 rfl ?_
 have hA0 := hA
 have hB := Nat.le_refl w.heap.size
 have hK : Tr Dw w.heap.size A w A w := Tr.refl (Dw := Dw) hA
 have hH : Hp w.heap.size A w [] := Hp.nil
 refine C_seq ?_
 refine C_region ?_
 refine V_box rfl rfl ?_
 intro b3 w4 h5
 have hk7 := h5.kp (Dw := Dw)
 have h6 : El (α := cal_Special) A w4 b3 0 s := h5.el hA ⟨[.int .i64 s.day], _, rfl, rfl, ⟨_, rfl, h_s⟩⟩
 have ht8 := Kp.tr (Dw := Dw) hk7 hA hB
 replace hK := Tr.trans (Dw := Dw) hK ht8
 refine V_y (Y_assign rfl) rfl rfl rfl ?_
 refine V_to (fun _ _ => rfl) ?_
 refine C_seq ?_
 refine C_region ?_
 have h9 := El_cal_Special_0 h6
 refine V_y (Y_fieldAddr Try.underlying82 rfl Try.sizeOf3 (by decide) rfl) rfl rfl rfl ?_
 refine V_y (Y_load (El.int h9) Try.isAgg3 rfl) rfl rfl rfl ?_
 refine V_y (Y_move rfl) rfl rfl rfl ?_
 refine V_call Try.call18 rfl rfl rfl rfl (cmp_Compare_int_c w4 s.day d) ?_
 rintro _ _ ⟨rfl, rfl⟩
 refine V_y (Y_assign rfl) rfl rfl rfl ?_
 refine V_to (fun _ _ => rfl) ?_
 obtain rfl := Option.some.inj hm
 refine C_ret ?_
 try simp only [↓inBlock_ret, ↓then_ret]
 exact retQ rfl (Res.one Try.results92 rfl) ⟨rfl, hK.kp⟩
set_option maxRecDepth 4000 in
set_option maxHeartbeats 4000000 in
theorem slices_Clone_Lcal_Shift_cal_Shift_c (w : World) {A : Nat → Prop} (hA : ∀ b, w.heap.size ≤ b → A b) (s : (List cal_Shift)) (v_s : Value) (h_s : Sl A w v_s s) {r : (List cal_Shift)} (hm : slices_Clone_Lcal_Shift_cal_Shift s = some r) : Ret Try.prog 93 #[v_s] w fun v w' => ∃ s0, v = s0 ∧ Ownd 106 w w' s0 r ∧ Kp Dw w w' := by
 unfold slices_Clone_Lcal_Shift_cal_Shift at hm
 refine enter Try.func93 rfl Try.ntmps93 rfl ?_
 have hA0 := hA
 have hB := Nat.le_refl w.heap.size
 have hK : Tr Dw w.heap.size A w A w := Tr.refl (Dw := Dw) hA
 have hH : Hp w.heap.size A w [] := Hp.nil
 rcases Sl.split h_s with ⟨rfl, rfl⟩ | ⟨a0, n0, c0, rfl⟩
 ·replace hm : some ([] : (List cal_Shift)) = some r := by simpa [appendL] using hm
  refine C_seq ?_
  refine C_region ?_
  refine V_y (Y_assign rfl) rfl rfl rfl ?_
  refine V_to (fun _ _ => rfl) ?_
  refine C_seq ?_
  refine C_seq ?_
  refine C_region ?_
  refine V_y (Y_move rfl) rfl rfl rfl ?_
  refine V_y (Y_eqlNilT rfl rfl Try.underlying55) rfl rfl rfl ?_
  refine V_to (fun _ _ => rfl) ?_
  refine C_cond rfl (fun hc => ?_) (fun hc => ?_)
  ·refine C_seq ?_
   refine C_region ?_
   refine V_y (Y_assign rfl) rfl rfl rfl ?_
   refine V_to (fun _ _ => rfl) ?_
   obtain rfl := Option.some.inj hm
   replace hH : Hp w.heap.size A w (obS (α := cal_Shift) 106 (.slice none 0 0) ([] : (List cal_Shift)) :: []) := Hp.addNil (α := cal_Shift) (e := 106) hH
   refine C_ret ?_
   try simp only [↓inBlock_ret, ↓then_ret]
   exact retQ rfl (Res.one Try.results93 rfl) ⟨.slice none 0 0, rfl, (Hp.ownd hH (i := 0) rfl), hK.kp⟩
  ·exact absurd hc (by decide)
 ·refine C_seq ?_
  refine C_region ?_
  refine V_y (Y_assign rfl) rfl rfl rfl ?_
  refine V_to (fun _ _ => rfl) ?_
  refine C_seq ?_
  refine C_seq ?_
  refine C_region ?_
  refine V_y (Y_move rfl) rfl rfl rfl ?_
  refine V_y (Y_eqlNilF rfl rfl Try.underlying55) rfl rfl rfl ?_
  refine V_to (fun _ _ => rfl) ?_
  refine C_cond rfl (fun hc => ?_) (fun hc => ?_)
  ·exact absurd hc (by decide)
  ·refine C_skip_to (fun _ _ => rfl) ?_
   refine C_seq ?_
   refine C_region ?_
   refine V_buildOwn0H (Dw := Dw) (α := cal_Shift) hH Try.underlying55 Try.sizeOf106 hB hA rfl ?_
   intro v3 w4 A5 hH6 ht7
   replace h_s := Sl.tr (Dw := Dw) h_s ht7
   replace hK := Tr.trans (Dw := Dw) hK ht7
   replace hB := Nat.le_trans hB ht7.ex.size
   replace hA := ht7.new
   replace hH : Hp w.heap.size A5 w4 (obS (α := cal_Shift) 106 v3 ([] : List cal_Shift) :: []) := hH6
   refine V_y (Y_move rfl) rfl rfl rfl ?_
   obtain ⟨x8, hx8, hm⟩ := Option.bind_eq_some_iff.1 hm
   refine V_appendH (Dw := Dw) (e := 106) (v := v3) (l := ([] : List cal_Shift)) (ti := Try.t106) (bytes := 24) (lim := 5864062014805) hH (i := 0) rfl h_s hx8 Try.underlying55 Try_info106 rfl rfl rfl rfl (by decide) (by decide) (by decide) hB hA rfl rfl rfl ?_
   intro v9 w10 A11 hH12 ht13
   replace hK := Tr.trans (Dw := Dw) hK ht13
   replace hH : Hp w.heap.size A11 w10 (obS (α := cal_Shift) 106 v9 x8 :: []) := hH12
   refine V_y (Y_assign rfl) rfl rfl rfl ?_
   refine V_to (fun _ _ => rfl) ?_
   obtain rfl := Option.some.inj hm
   refine C_ret ?_
   try simp only [↓inBlock_ret, ↓then_ret]
   exact retQ rfl (Res.one Try.results93 rfl) ⟨v9, rfl, (Hp.ownd hH (i := 0) rfl), hK.kp⟩
set_option maxRecDepth 4000 in
set_option maxHeartbeats 4000000 in
theorem cal_Calendar_shiftsOf_c (w : World) {A : Nat → Prop} (hA : ∀ b, w.heap.size ≤ b → A b) (c : cal_Calendar) (v_c0 : Value) (h_c0 : Sl A w v_c0 c.zone.changes) (v_c1 : Value) (h_c1 : Sl A w v_c1 c.week) (v_c2 : Value) (h_c2 : Sl A w v_c2 c.specials) (day : Int) {r : (List cal_Shift)} (hm : cal_Calendar_shiftsOf c day = some r) : Ret Try.prog 83 #[.agg #[.int .i64 c.zone.offset, v_c0, v_c1, v_c2], .int .i64 day] w fun v w' => ∃ s0, v = s0 ∧ Ownd 106 w w' s0 r ∧ Kp Dw w w' := by
 unfold cal_Calendar_shiftsOf at hm
 refine enter Try.func83 rfl Try.ntmps83 rfl ?_
 have hA0 := hA
 have hB := Nat.le_refl w.heap.size
 have hK : Tr Dw w.heap.size A w A w := Tr.refl (Dw := Dw) hA
 have hH : Hp w.heap.size A w [] := Hp.nil
 refine C_seq ?_
 refine C_region ?_
 refine V_box rfl rfl ?_
 intro b7 w9 h10
 have hk12 := h10.kp (Dw := Dw)
 have h11 : El (α := cal_Calendar) A w9 b7 0 c := h10.el hA ⟨[.int .i64 c.zone.offset, v_c0], _, rfl, ⟨[.int .i64 c.zone.offset], _, rfl, rfl, ⟨_, rfl, h_c0⟩⟩, ⟨[v_c1], _, rfl, ⟨_, rfl, h_c1⟩, ⟨_, rfl, h_c2⟩⟩⟩
 have ht13 := Kp.tr (Dw := Dw) hk12 hA hB
 replace hH := Hp.kp (Dw := Dw) hH hk12
 replace hK := Tr.trans (Dw := Dw) hK ht13
 replace hB := Nat.le_trans hB ht13.ex.size
 replace hA := ht13.new
 refine V_y (Y_assign rfl) rfl rfl rfl ?_
 refine V_to (fun _ _ => rfl) ?_
 refine C_seq ?_
 refine C_region ?_
 have h14 := El_cal_Calendar_2 h11
 refine V_y (Y_fieldAddr Try.underlying58 rfl Try.sizeOf56 (by decide) rfl) rfl rfl rfl ?_
 obtain ⟨v15, h16, h17⟩ := El.list h14
 refine V_y (Y_load h16 Try.isAgg56 rfl) rfl rfl rfl ?_
 refine V_y (Y_move rfl) rfl rfl rfl ?_
 obtain ⟨x20, hx20, hm⟩ := Option.bind_eq_some_iff.1 hm
 refine V_call Try.call91 rfl rfl rfl rfl (slices_BinarySearchFunc_Lcal_Special_cal_Special_int_c (Dw := Dw) w9 hA c.specials v15 h17 day (fun y31 y32 => cal_Calendar_shiftsOf_1 y31 y32) 92 #[] #[] Try.call92 (fun w27 A28 ht29 h30 y21 v22 h23 y24 r25 h26 => (cal_Calendar_shiftsOf_1_c (Dw := Dw) w27 h30 y21 v22 h23 y24  h26).mono (fun _ _ h => ⟨h.1, h.2⟩)) hx20) ?_
 rintro _ w33 ⟨rfl, hk34⟩
 have ht35 := Kp.tr (Dw := Dw) hk34 hA hB
 replace hH := Hp.kp (Dw := Dw) hH hk34
 replace h11 := El.tr (Dw := Dw) h11 ht35
 replace hK := Tr.trans (Dw := Dw) hK ht35
 replace hB := Nat.le_trans hB ht35.ex.size
 replace hA := ht35.new
 refine V_y (Y_move rfl) rfl rfl rfl ?_
 refine V_y (Y_extract rfl rfl) rfl rfl rfl ?_
 refine V_y (Y_extract rfl rfl) rfl rfl rfl ?_
 refine V_y (Y_assign rfl) rfl rfl rfl ?_
 refine V_y (Y_assign rfl) rfl rfl rfl ?_
 refine V_to (fun _ _ => rfl) ?_
 refine C_seq ?_
 refine C_seq ?_
 refine C_region ?_
 refine V_y (Y_move rfl) rfl rfl rfl ?_
 refine V_to (fun _ _ => rfl) ?_
 refine C_cond rfl (fun hc36 => ?_) (fun hc36 => ?_)
 ·rw [if_pos hc36] at hm
  refine C_seq ?_
  refine C_region ?_
  have h37 := El_cal_Calendar_2 h11
  refine V_y (Y_fieldAddr Try.underlying58 rfl Try.sizeOf56 (by decide) rfl) rfl rfl rfl ?_
  obtain ⟨v38, h39, h40⟩ := El.list h37
  refine V_y (Y_load h39 Try.isAgg56 rfl) rfl rfl rfl ?_
  refine V_y (Y_move rfl) rfl rfl rfl ?_
  obtain ⟨x41, hx41, hm⟩ := Option.bind_eq_some_iff.1 hm
  refine V_indexAddr h40 hx41 Try.underlying56 Try.sizeOf82 rfl rfl rfl ?_
  intro b42 o43 h44
  have h45 := El_cal_Special_1 h44
  refine V_y (Y_fieldAddr Try.underlying82 rfl Try.sizeOf55 (by decide) rfl) rfl rfl rfl ?_
  obtain ⟨v46, h47, h48⟩ := El.list h45
  refine V_y (Y_load h47 Try.isAgg55 rfl) rfl rfl rfl ?_
  obtain ⟨x49, hx49, hm⟩ := Option.bind_eq_some_iff.1 hm
  refine V_call Try.call93 rfl rfl rfl rfl (slices_Clone_Lcal_Shift_cal_Shift_c (Dw := Dw) w33 hA x41.shifts v46 h48 hx49) ?_
  rintro v50 w52 ⟨_, rfl, h51, hk53⟩
  obtain ⟨A54, ht55, hH56⟩ := Hp.addOwnd (Dw := Dw) hH hB hA hk53 h51
  replace hK := Tr.trans (Dw := Dw) hK ht55
  replace hH : Hp w.heap.size A54 w52 (obS (α := cal_Shift) 106 v50 x49 :: []) := hH56
  refine V_y (Y_assign rfl) rfl rfl rfl ?_
  refine V_to (fun _ _ => rfl) ?_
  obtain rfl := Option.some.inj hm
  refine C_ret ?_
  try simp only [↓inBlock_ret, ↓then_ret]
  exact retQ rfl (Res.one Try.results83 rfl) ⟨v50, rfl, (Hp.ownd hH (i := 0) rfl), hK.kp⟩
 ·rw [if_neg (nt hc36)] at hm
  refine C_skip_to (fun _ _ => rfl) ?_
  refine C_seq ?_
  refine C_region ?_
  refine V_y (Y_assign rfl) rfl rfl rfl ?_
  refine V_to (fun _ _ => rfl) ?_
  refine C_seq ?_
  refine C_seq ?_
  refine C_region ?_
  have h57 := El_cal_Calendar_1 h11
  refine V_y (Y_fieldAddr Try.underlying58 rfl Try.sizeOf55 (by decide) rfl) rfl rfl rfl ?_
  obtain ⟨v58, h59, h60⟩ := El.list h57
  refine V_y (Y_load h59 Try.isAgg55 rfl) rfl rfl rfl ?_
  refine V_y (Y_lenSl h60 rfl Try.underlying55 rfl) rfl rfl rfl ?_
  refine V_y (Y_move rfl) rfl rfl rfl ?_
  refine V_to (fun _ _ => rfl) ?_
  replace hH : Hp w.heap.size A w33 (obS (α := cal_Shift) 106 (.slice none 0 0) ([] : (List cal_Shift)) :: []) := Hp.addNil (α := cal_Shift) (e := 106) hH
  have hn85 := Sl.le h60
  obtain ⟨o61, ho61, hm⟩ := Option.bind_eq_some_iff.1 hm
  refine C_cutG (ι := ((List cal_Shift) × Value × (Nat → Prop))) (fun ⟨s62, v68, A70⟩ => [(7, v68)]) (fun ⟨s62, v68, A70⟩ => fun w' => o61 = .fin s62 ∧ Hp w.heap.size A70 w' (obS (α := cal_Shift) 106 v68 s62 :: []) ∧ Tr Dw w.heap.size A w33 A70 w') ?_ ?_
  ·refine C_block ?_
   refine C_range ho61 (fun k64 s72 a w' => ∃ i : (Value × (Nat → Prop)), Has ⟨50, [], none⟩ a ([(1, .int .i64 day), (7, i.1), (26, v58), (27, .int .i64 (c.week.length : Int)), (28, .int .i64 (k64 : Int))]) ∧ Hp w.heap.size i.2 w' (obS (α := cal_Shift) 106 i.1 s72 :: []) ∧ Tr Dw w.heap.size A w33 i.2 w') (fun a ha => ⟨(.slice none 0 0, A), ha.sub ⟨rfl, rfl, rfl, rfl, rfl, trivial⟩, ⟨hH, Tr.refl (Dw := Dw) hA⟩⟩) ?_
   rintro K k64 s72 a w73 ⟨⟨v74, A76⟩, ha144, hH77, hr63⟩ hle81 K84 h83
   refine C_of ?_ ha144
   replace h60 := Sl.tr (Dw := Dw) h60 hr63
   replace hB := Nat.le_trans hB hr63.ex.size
   replace hA := hr63.new
   replace hH : Hp w.heap.size A76 w73 (obS (α := cal_Shift) 106 v74 s72 :: []) := hH77
   refine C_seq (C_region (V_y (Y_lss rfl rfl) rfl rfl rfl (V_to (fun _ _ => rfl) ?_)))
   refine C_seq ?_
   refine C_cond rfl (fun hc86 => ?_) (fun hc86 => ?_)
   ·have hlt82 := lt_of_dec hc86
    obtain ⟨x78, h79, h80⟩ := K84 hlt82
    refine C_skip_to (fun _ _ => rfl) ?_
    refine C_seq ?_
    obtain ⟨s88, ho87, h79⟩ := Option.bind_eq_some_iff.1 h79
    refine C_cutG (ι := (Value × (Nat → Prop))) (fun ⟨v90, A95⟩ => [(1, .int .i64 day), (7, v90), (26, v58), (27, .int .i64 (c.week.length : Int)), (28, .int .i64 (k64 : Int))]) (fun ⟨v90, A95⟩ => fun w' => Hp w.heap.size A95 w' (obS (α := cal_Shift) 106 v90 s88 :: []) ∧ Tr Dw w.heap.size A76 w73 A95 w') ?_ ?_
    ·have hr89 : Tr Dw w.heap.size A76 w73 A76 w73 := Tr.refl (Dw := Dw) hA
     refine C_block ?_
     refine C_seq ?_
     refine C_region ?_
     obtain ⟨x97, hx97, ho87⟩ := Option.bind_eq_some_iff.1 ho87
     refine V_indexAddr h60 hx97 Try.underlying55 Try.sizeOf106 rfl rfl rfl ?_
     intro b98 o99 h100
     obtain ⟨h101, _⟩ := El_cal_Shift h100
     refine V_y (Y_loadA h101 Try.isAgg106 Try.sizeOf106 rfl) rfl rfl rfl ?_
     refine V_alloc Try.zeroValue106 rfl ?_
     intro b102 w103 h104
     refine V_storeNew h104 Try.sizeOf106 rfl rfl rfl rfl (by exact (List.forall_mem_cons.2 ⟨rfl, (List.forall_mem_cons.2 ⟨rfl, (List.forall_mem_cons.2 ⟨rfl, (fun _ h => nomatch h)⟩)⟩)⟩)) ?_
     intro w105 h106
     have hk108 := h106.kp (Dw := Dw)
     have h107 : El (α := cal_Shift) A76 w105 b102 0 x97 := h106.el hA ⟨[.int .i64 x97.day], _, rfl, rfl, ⟨[.int .i64 x97.from_], _, rfl, rfl, rfl⟩⟩
     have ht109 := Kp.tr (Dw := Dw) hk108 hA hB
     replace hH := Hp.kp (Dw := Dw) hH hk108
     replace hr89 := Tr.trans (Dw := Dw) hr89 ht109
     replace hB := Nat.le_trans hB ht109.ex.size
     replace hA := ht109.new
     refine V_to (fun _ _ => rfl) ?_
     refine C_seq ?_
     refine C_region_q (Dw := Dw) Try_mixed (by kernel_rfl) ?_
     have h110 := El_cal_Shift_0 h107
     refine VQ_y (fun w' hw' => Y_fieldAddr Try.underlying106 rfl Try.sizeOf3 (by decide) rfl) rfl rfl rfl ?_
     refine VQ_y (fun w' hw' => Y_load (El.int (El.kp (Dw := Dw) h110 hw')) Try.isAgg3 rfl) rfl rfl rfl ?_
     refine VQ_y (fun w' hw' => Y_move rfl) rfl rfl rfl ?_
     refine VQ_y (fun w' hw' => Y_move rfl) rfl rfl rfl ?_
     obtain ⟨x111, hx111, ho87⟩ := Option.bind_eq_some_iff.1 ho87
     refine VQ_call (.int .i64 x111) Try.call84 rfl rfl rfl rfl (fun w' hw' => (cal_floor_c w' day 7 hx111).mono (fun _ _ h => ⟨h.1, h.2 ▸ hw'⟩)) ?_
     refine VQ_y (fun w' hw' => Y_mulI rfl rfl) rfl rfl rfl ?_
     refine VQ_y (fun w' hw' => Y_subI rfl rfl) rfl rfl rfl ?_
     refine VQ_y (fun w' hw' => Y_eql rfl rfl) rfl rfl rfl ?_
     refine VQ_to (fun _ _ => rfl) (fun w112 hk113 => ?_)
     have ht114 := Kp.tr (Dw := Dw) hk113 hA hB
     replace hH := Hp.kp (Dw := Dw) hH hk113
     replace h107 := El.tr (Dw := Dw) h107 ht114
     replace hr89 := Tr.trans (Dw := Dw) hr89 ht114
     replace hB := Nat.le_trans hB ht114.ex.size
     replace hA := ht114.new
     obtain ⟨s116, ho115, ho87⟩ := Option.bind_eq_some_iff.1 ho87
     refine C_cutG (ι := (Value × (Nat → Prop))) (fun ⟨v118, A123⟩ => [(1, .int .i64 day), (7, v118), (26, v58), (27, .int .i64 (c.week.length : Int)), (28, .int .i64 (k64 : Int))]) (fun ⟨v118, A123⟩ => fun w' => Hp w.heap.size A123 w' (obS (α := cal_Shift) 106 v118 s116 :: []) ∧ Tr Dw w.heap.size A76 w112 A123 w') ?_ ?_
     ·have hr117 : Tr Dw w.heap.size A76 w112 A76 w112 := Tr.refl (Dw := Dw) hA
      refine C_cond rfl (fun hc125 => ?_) (fun hc125 => ?_)
      ·rw [if_pos hc125] at ho115
       refine C_region ?_
       refine V_y (Y_move rfl) rfl rfl rfl ?_
       have h126 := El_cal_Shift_1 h107
       refine V_y (Y_fieldAddr Try.underlying106 rfl Try.sizeOf3 (by decide) rfl) rfl rfl rfl ?_
       refine V_y (Y_load (El.int h126) Try.isAgg3 rfl) rfl rfl rfl ?_
       have h127 := El_cal_Shift_2 h107
       refine V_y (Y_fieldAddr Try.underlying106 rfl Try.sizeOf3 (by decide) rfl) rfl rfl rfl ?_
       refine V_y (Y_load (El.int h127) Try.isAgg3 rfl) rfl rfl rfl ?_
       refine V_y (Y_build Try.underlying106 Try.zeroValue106 (Try_places106 _ Try.underlying106) rfl (by with_unfolding_all rfl)) rfl rfl rfl ?_
       refine V_buildSlice (Dw := Dw) (cells := #[.int .i64 0, .int .i64 x97.from_, .int .i64 x97.to_]) (l := ([(⟨0, x97.from_, x97.to_⟩ : cal_Shift)] : List cal_Shift)) (len := 1) Try.underlying55 Try.sizeOf106 Try.zeroValue106 rfl (by kernel_rfl) (show (1 * 3 : Nat) ≠ 0 by decide) (show (1 * 3 : Nat) ≤ 2 ^ 24 by decide) hA ⟨[.int .i64 0, .int .i64 x97.from_, .int .i64 x97.to_], _, rfl, ⟨[.int .i64 0], _, rfl, rfl, ⟨[.int .i64 x97.from_], _, rfl, rfl, rfl⟩⟩, rfl⟩ rfl rfl ?_
       intro v128 w129 hk131 h130
       have ht132 := Kp.tr (Dw := Dw) hk131 hA hB
       replace hH := Hp.kp (Dw := Dw) hH hk131
       replace hr117 := Tr.trans (Dw := Dw) hr117 ht132
       replace hB := Nat.le_trans hB ht132.ex.size
       replace hA := ht132.new
       obtain ⟨x133, hx133, ho115⟩ := Option.bind_eq_some_iff.1 ho115
       refine V_appendH (Dw := Dw) (e := 106) (v := v74) (l := s72) (ti := Try.t106) (bytes := 24) (lim := 5864062014805) hH (i := 0) rfl h130 hx133 Try.underlying55 Try_info106 rfl rfl rfl rfl (by decide) (by decide) (by decide) hB hA rfl rfl rfl ?_
       intro v134 w135 A136 hH137 ht138
       replace hr117 := Tr.trans (Dw := Dw) hr117 ht138
       replace hH : Hp w.heap.size A136 w135 (obS (α := cal_Shift) 106 v134 x133 :: []) := hH137
       refine V_y (Y_assign rfl) rfl rfl rfl ?_
       obtain rfl := Option.some.inj ho115
       refine V_end (fun a ha139 => ?_)
       exact ⟨(v134, A136), ha139.sub ⟨rfl, rfl, rfl, rfl, rfl, trivial⟩, ⟨hH, hr117⟩⟩
      ·rw [if_neg (nt hc125)] at ho115
       obtain rfl := Option.some.inj ho115
       refine C_skip (fun a ha140 => ?_)
       exact ⟨(v74, A76), ha140.sub ⟨rfl, rfl, rfl, rfl, rfl, trivial⟩, ⟨hH, hr117⟩⟩
     rintro ⟨v118, A123⟩ w120 ⟨hH124, hk121⟩ a ha122
     replace hr89 := Tr.trans (Dw := Dw) hr89 hk121
     replace hA := hk121.new
     replace hH : Hp w.heap.size A123 w120 (obS (α := cal_Shift) 106 v118 s116 :: []) := hH124
     obtain rfl := Option.some.inj ho87
     exact ⟨(v118, A123), ha122.sub ⟨rfl, rfl, rfl, rfl, rfl, trivial⟩, ⟨hH, hr89⟩⟩
    rintro ⟨v90, A95⟩ w92 ⟨hH96, hk93⟩ a ha94
    replace hr63 := Tr.trans (Dw := Dw) hr63 hk93
    replace hA := hk93.new
    replace hH : Hp w.heap.size A95 w92 (obS (α := cal_Shift) 106 v90 s88 :: []) := hH96
    refine C_at (n := ⟨50, [], none⟩) (fun _ _ => rfl) ?_ ha94
    refine C_region ?_
    refine V_y (Y_addI rfl rfl) rfl rfl rfl ?_
    refine V_y (Y_move rfl) rfl rfl rfl ?_
    obtain rfl := Option.some.inj h79
    refine V_end (fun a ha142 => ?_)
    exact ⟨s88, hlt82, h80, ⟨(v90, A95), ha142.sub ⟨rfl, rfl, rfl, rfl, (congrArg (fun z => some (Value.int .i64 z)) (w64_succ hlt82 hn85)), trivial⟩, ⟨hH, hr63⟩⟩⟩
   ·refine C_exit (fun a ha143 => ?_)
    exact ⟨(s72, v74, A76), ha143.sub ⟨rfl, trivial⟩, ⟨(h83 (eq_of_dec hle81 hc86)).symm, hH, hr63⟩⟩
  rintro ⟨s62, v68, A70⟩ w65 ⟨rfl, hH71, hk66⟩ a ha67
  rw [Lp.andThen_fin] at hm
  replace hK := Tr.trans (Dw := Dw) hK hk66
  replace hA := hk66.new
  replace hH : Hp w.heap.size A70 w65 (obS (α := cal_Shift) 106 v68 s62 :: []) := hH71
  refine C_at (n := ⟨50, [], none⟩) (fun _ _ => rfl) ?_ ha67
  refine C_seq ?_
  refine C_region ?_
  refine V_y (Y_move rfl) rfl rfl rfl ?_
  refine V_y (Y_assign rfl) rfl rfl rfl ?_
  refine V_to (fun _ _ => rfl) ?_
  obtain rfl := Option.some.inj hm
  refine C_ret ?_
  try simp only [↓inBlock_ret, ↓then_ret]
  exact retQ rfl (Res.one Try.results83 rfl) ⟨v68, rfl, (Hp.ownd hH (i := 0) rfl), hK.kp⟩
set_option maxRecDepth 4000 in
set_option maxHeartbeats 4000000 in
theorem cal_Calendar_shifts_1_1_c (w : World) {A : Nat → Prop} {B : Nat} (hB : B ≤ w.heap.size) (hA : ∀ b, w.heap.size ≤ b → A b) (day : Int) (p1 : cal_Calendar) (b_p1 : Nat) (h_p1 : El A w b_p1 0 p1) (p2 : cal_part) (b_p2 : Nat) (h_p2 : El A w b_p2 0 p2) (p3 : Int) (b_p3 : Nat) (h_p3 : El A w b_p3 0 p3) (p4 : Int) (b_p4 : Nat) (h_p4 : El A w b_p4 0 p4) {p5_S : Type} (p5 : cal_Span → p5_S → Option (Bool × p5_S)) (p5_Y : p5_S → Ob) (p5_v : Value) (p5_one : p5_v.cells.toList = [p5_v]) (p5_s : p5_S) (p5_spec : ∀ (w2 : World) (A2 : Nat → Prop) (L2 : List Ob) (x : cal_Span) (z : p5_S) (b : Bool) (z2 : p5_S), B ≤ w2.heap.size → (∀ b, w2.heap.size ≤ b → A2 b) → Tr Dw B A w A2 w2 → Hp B A2 w2 (p5_Y z :: L2) → p5 x z = some (b, z2) → CallV Try.prog p5_v [.agg #[.int .i64 x.from_, .int .i64 x.to_]] w2 fun v w3 => v = .bool b ∧ ∃ A3, Tr Dw B A2 w2 A3 w3 ∧ Hp B A3 w3 (p5_Y z2 :: L2)) (b_p5 : Nat) (h_p5 : Vb A w b_p5 p5_v) {L : List Ob} (hH : Hp B A w (p5_Y p5_s :: L)) {r : (Bool × p5_S)} (hm : cal_Calendar_shifts_1_1 day p1 p2 p3 p4 p5 p5_s = some r) : Ret Try.prog 82 #[.int .i64 day, .pointer (some ⟨b_p1, 0, none⟩), .pointer (some ⟨b_p2, 0, none⟩), .pointer (some ⟨b_p3, 0, none⟩), .pointer (some ⟨b_p4, 0, none⟩), .pointer (some ⟨b_p5, 0, none⟩)] w fun v w' => ∃ A1 : Nat → Prop, v = .bool r.1 ∧ Hp B A1 w' (p5_Y r.2 :: L) ∧ Tr Dw B A w A1 w' := by
 unfold cal_Calendar_shifts_1_1 at hm
 refine enter Try.func82 rfl Try.ntmps82 rfl ?_
 have hK : Tr Dw B A w A w := Tr.refl (Dw := Dw) hA
 refine C_seq ?_
 refine C_region ?_
 refine V_y (Y_assign rfl) rfl rfl rfl ?_
 refine V_to (fun _ _ => rfl) ?_
 refine C_seq ?_
 refine C_seq ?_
 refine C_region ?_
 obtain ⟨v1, v3, v5, h7, h2, h4, h6⟩ := El_cal_Calendar h_p1
 refine V_y (Y_loadA h7 Try.isAgg58 Try.sizeOf58 rfl) rfl rfl rfl ?_
 refine V_y (Y_move rfl) rfl rfl rfl ?_
 obtain ⟨x8, hx8, hm⟩ := Option.bind_eq_some_iff.1 hm
 refine V_call Try.call83 rfl rfl rfl rfl (cal_Calendar_shiftsOf_c (Dw := Dw) w hA p1 v1 h2 v3 h4 v5 h6 day hx8) ?_
 rintro v9 w11 ⟨_, rfl, h10, hk12⟩
 obtain ⟨A13, ht14, hH15⟩ := Hp.addOwnd (Dw := Dw) hH hB hA hk12 h10
 replace h_p2 := El.tr (Dw := Dw) h_p2 ht14
 replace h_p3 := El.tr (Dw := Dw) h_p3 ht14
 replace h_p4 := El.tr (Dw := Dw) h_p4 ht14
 replace h_p5 := Vb.tr (Dw := Dw) h_p5 ht14
 replace hK := Tr.trans (Dw := Dw) hK ht14
 replace hB := Nat.le_trans hB ht14.ex.size
 replace hA := ht14.new
 replace hH : Hp B A13 w11 (obS (α := cal_Shift) 106 v9 x8 :: p5_Y p5_s :: L) := hH15
 refine V_y (Y_lenSl (Hp.any (α := cal_Shift) (e := 106) (v := v9) (l := x8) hH (i := 0) rfl) rfl Try.underlying55 rfl) rfl rfl rfl ?_
 refine V_y (Y_move rfl) rfl rfl rfl ?_
 refine V_to (fun _ _ => rfl) ?_
 have hn36 := Hp.le (α := cal_Shift) (e := 106) (v := v9) (l := x8) hH (i := 0) rfl
 obtain ⟨o16, ho16, hm⟩ := Option.bind_eq_some_iff.1 hm
 refine C_cutG (ι := (p5_S × (Nat → Prop))) (fun ⟨s17, A23⟩ => []) (fun ⟨s17, A23⟩ => fun w' => o16 = .fin s17 ∧ Hp B A23 w' (obS (α := cal_Shift) 106 v9 x8 :: p5_Y s17 :: L) ∧ Tr Dw B A13 w11 A23 w') ?_ ?_
 ·refine C_block ?_
  refine C_range ho16 (fun k19 s25 a w' => ∃ i : (Nat → Prop), Has ⟨50, [], none⟩ a ([(0, .int .i64 day), (2, .pointer (some ⟨b_p2, 0, none⟩)), (3, .pointer (some ⟨b_p3, 0, none⟩)), (4, .pointer (some ⟨b_p4, 0, none⟩)), (5, .pointer (some ⟨b_p5, 0, none⟩)), (14, v9), (15, .int .i64 (x8.length : Int)), (16, .int .i64 (k19 : Int))]) ∧ Hp B i w' (obS (α := cal_Shift) 106 v9 x8 :: p5_Y s25 :: L) ∧ Tr Dw B A13 w11 i w') (fun a ha => ⟨A13, ha.sub ⟨rfl, rfl, rfl, rfl, rfl, rfl, rfl, rfl, trivial⟩, ⟨hH, Tr.refl (Dw := Dw) hA⟩⟩) ?_
  rintro K k19 s25 a w26 ⟨A27, ha85, hH28, hr18⟩ hle32 K35 h34
  refine C_of ?_ ha85
  replace h_p2 := El.tr (Dw := Dw) h_p2 hr18
  replace h_p3 := El.tr (Dw := Dw) h_p3 hr18
  replace h_p4 := El.tr (Dw := Dw) h_p4 hr18
  replace h_p5 := Vb.tr (Dw := Dw) h_p5 hr18
  replace hK := Tr.trans (Dw := Dw) hK hr18
  replace hB := Nat.le_trans hB hr18.ex.size
  replace hA := hr18.new
  replace hH : Hp B A27 w26 (obS (α := cal_Shift) 106 v9 x8 :: p5_Y s25 :: L) := hH28
  refine C_seq (C_region (V_y (Y_lss rfl rfl) rfl rfl rfl (V_to (fun _ _ => rfl) ?_)))
  refine C_seq ?_
  refine C_cond rfl (fun hc37 => ?_) (fun hc37 => ?_)
  ·have hlt33 := lt_of_dec hc37
   obtain ⟨x29, h30, h31⟩ := K35 hlt33
   refine C_skip_to (fun _ _ => rfl) ?_
   refine C_seq ?_
   refine C_block ?_
   refine C_seq ?_
   refine C_region ?_
   obtain ⟨x38, hx38, h30⟩ := Option.bind_eq_some_iff.1 h30
   refine V_indexAddrH (α := cal_Shift) (e := 106) (v := v9) (l := x8) hH (i := 0) rfl hx38 Try.underlying55 Try.sizeOf106 rfl rfl rfl ?_
   intro b39 o40 h41 hl42
   obtain ⟨h43, _⟩ := El_cal_Shift h41
   refine V_y (Y_loadA h43 Try.isAgg106 Try.sizeOf106 rfl) rfl rfl rfl ?_
   refine V_alloc Try.zeroValue106 rfl ?_
   intro b44 w45 h46
   refine V_storeNew h46 Try.sizeOf106 rfl rfl rfl rfl (by exact (List.forall_mem_cons.2 ⟨rfl, (List.forall_mem_cons.2 ⟨rfl, (List.forall_mem_cons.2 ⟨rfl, (fun _ h => nomatch h)⟩)⟩)⟩)) ?_
   intro w47 h48
   have hk50 := h48.kp (Dw := Dw)
   have h49 : El (α := cal_Shift) A27 w47 b44 0 x38 := h48.el hA ⟨[.int .i64 x38.day], _, rfl, rfl, ⟨[.int .i64 x38.from_], _, rfl, rfl, rfl⟩⟩
   have ht51 := Kp.tr (Dw := Dw) hk50 hA hB
   replace hH := Hp.kp (Dw := Dw) hH hk50
   replace h_p2 := El.tr (Dw := Dw) h_p2 ht51
   replace h_p3 := El.tr (Dw := Dw) h_p3 ht51
   replace h_p4 := El.tr (Dw := Dw) h_p4 ht51
   replace h_p5 := Vb.tr (Dw := Dw) h_p5 ht51
   replace hK := Tr.trans (Dw := Dw) hK ht51
   replace hr18 := Tr.trans (Dw := Dw) hr18 ht51
   replace hB := Nat.le_trans hB ht51.ex.size
   replace hA := ht51.new
   refine V_to (fun _ _ => rfl) ?_
   refine C_seq ?_
   refine C_region ?_
   refine V_y (Y_move rfl) rfl rfl rfl ?_
   refine V_y (Y_mulI rfl rfl) rfl rfl rfl ?_
   have h52 := El_cal_part_2 h_p2
   refine V_y (Y_fieldAddr Try.underlying122 rfl Try.sizeOf3 (by decide) rfl) rfl rfl rfl ?_
   refine V_y (Y_load (El.int h52) Try.isAgg3 rfl) rfl rfl rfl ?_
   refine V_y (Y_subI rfl rfl) rfl rfl rfl ?_
   refine V_y (Y_assign rfl) rfl rfl rfl ?_
   refine V_to (fun _ _ => rfl) ?_
   refine C_seq ?_
   refine C_region ?_
   refine V_y (Y_load (El.int h_p3) Try.isAgg3 rfl) rfl rfl rfl ?_
   refine V_y (Y_move rfl) rfl rfl rfl ?_
   have h53 := El_cal_Shift_1 h49
   refine V_y (Y_fieldAddr Try.underlying106 rfl Try.sizeOf3 (by decide) rfl) rfl rfl rfl ?_
   refine V_y (Y_load (El.int h53) Try.isAgg3 rfl) rfl rfl rfl ?_
   refine V_y (Y_addI rfl rfl) rfl rfl rfl ?_
   refine V_y (Y_max2 rfl rfl) rfl rfl rfl ?_
   refine V_y (Y_load (El.int h_p4) Try.isAgg3 rfl) rfl rfl rfl ?_
   refine V_y (Y_move rfl) rfl rfl rfl ?_
   have h54 := El_cal_Shift_2 h49
   refine V_y (Y_fieldAddr Try.underlying106 rfl Try.sizeOf3 (by decide) rfl) rfl rfl rfl ?_
   refine V_y (Y_load (El.int h54) Try.isAgg3 rfl) rfl rfl rfl ?_
   refine V_y (Y_addI rfl rfl) rfl rfl rfl ?_
   refine V_y (Y_min2 rfl rfl) rfl rfl rfl ?_
   refine V_y (Y_build Try.underlying88 Try.zeroValue88 (Try_places88 _ Try.underlying88) rfl (by with_unfolding_all rfl)) rfl rfl rfl ?_
   refine V_alloc Try.zeroValue88 rfl ?_
   intro b55 w56 h57
   refine V_storeNew h57 Try.sizeOf88 rfl rfl rfl rfl (by exact (List.forall_mem_cons.2 ⟨rfl, (List.forall_mem_cons.2 ⟨rfl, (fun _ h => nomatch h)⟩)⟩)) ?_
   intro w58 h59
   have hk61 := h59.kp (Dw := Dw)
   have h60 : El (α := cal_Span) A27 w58 b55 0 (⟨(if p3 < w64 ((w64 ((w64 (day * 1440)) - p2.offset)) + x38.from_) then w64 ((w64 ((w64 (day * 1440)) - p2.offset)) + x38.from_) else p3), (if w64 ((w64 ((w64 (day * 1440)) - p2.offset)) + x38.to_) < p4 then w64 ((w64 ((w64 (day * 1440)) - p2.offset)) + x38.to_) else p4)⟩ : cal_Span) := h59.el hA ⟨[.int .i64 (if p3 < w64 ((w64 ((w64 (day * 1440)) - p2.offset)) + x38.from_) then w64 ((w64 ((w64 (day * 1440)) - p2.offset)) + x38.from_) else p3)], _, rfl, rfl, rfl⟩
   have ht62 := Kp.tr (Dw := Dw) hk61 hA hB
   replace hH := Hp.kp (Dw := Dw) hH hk61
   replace h_p5 := Vb.tr (Dw := Dw) h_p5 ht62
   replace hK := Tr.trans (Dw := Dw) hK ht62
   replace hr18 := Tr.trans (Dw := Dw) hr18 ht62
   replace hB := Nat.le_trans hB ht62.ex.size
   replace hA := ht62.new
   refine V_to (fun _ _ => rfl) ?_
   refine C_seq ?_
   obtain ⟨s64, ho63, h30⟩ := Option.bind_eq_some_iff.1 h30
   refine C_cutG (ι := (Nat → Prop)) (fun (A69 : (Nat → Prop)) => [(0, .int .i64 day), (2, .pointer (some ⟨b_p2, 0, none⟩)), (3, .pointer (some ⟨b_p3, 0, none⟩)), (4, .pointer (some ⟨b_p4, 0, none⟩)), (5, .pointer (some ⟨b_p5, 0, none⟩)), (14, v9), (15, .int .i64 (x8.length : Int)), (16, .int .i64 (k19 : Int)), (48, .bool s64.1)]) (fun (A69 : (Nat → Prop)) => fun w' => Hp B A69 w' (obS (α := cal_Shift) 106 v9 x8 :: p5_Y s64.2 :: L) ∧ Tr Dw B A27 w58 A69 w') ?_ ?_
   ·have hr65 : Tr Dw B A27 w58 A27 w58 := Tr.refl (Dw := Dw) hA
    refine C_region ?_
    have h71 := El_cal_Span_0 h60
    refine V_y (Y_fieldAddr Try.underlying88 rfl Try.sizeOf3 (by decide) rfl) rfl rfl rfl ?_
    refine V_y (Y_load (El.int h71) Try.isAgg3 rfl) rfl rfl rfl ?_
    have h72 := El_cal_Span_1 h60
    refine V_y (Y_fieldAddr Try.underlying88 rfl Try.sizeOf3 (by decide) rfl) rfl rfl rfl ?_
    refine V_y (Y_load (El.int h72) Try.isAgg3 rfl) rfl rfl rfl ?_
    refine V_y (Y_lss rfl rfl) rfl rfl rfl ?_
    refine V_y (Y_move rfl) rfl rfl rfl ?_
    rcases Bool.eq_false_or_eq_true (decide (((⟨(if p3 < w64 ((w64 ((w64 (day * 1440)) - p2.offset)) + x38.from_) then w64 ((w64 ((w64 (day * 1440)) - p2.offset)) + x38.from_) else p3), (if w64 ((w64 ((w64 (day * 1440)) - p2.offset)) + x38.to_) < p4 then w64 ((w64 ((w64 (day * 1440)) - p2.offset)) + x38.to_) else p4)⟩ : cal_Span).from_) < ((⟨(if p3 < w64 ((w64 ((w64 (day * 1440)) - p2.offset)) + x38.from_) then w64 ((w64 ((w64 (day * 1440)) - p2.offset)) + x38.from_) else p3), (if w64 ((w64 ((w64 (day * 1440)) - p2.offset)) + x38.to_) < p4 then w64 ((w64 ((w64 (day * 1440)) - p2.offset)) + x38.to_) else p4)⟩ : cal_Span).to_))) with hc73 | hc73
    ·rw [if_pos hc73] at ho63
     refine V_ge rfl rfl rfl hc73 ?_
     refine V_y (Y_load h_p5.2.2 Try.isAgg109 rfl) rfl rfl rfl ?_
     refine V_ge rfl rfl rfl hc73 ?_
     obtain ⟨h74, _⟩ := El_cal_Span h60
     refine V_y (Y_loadA h74 Try.isAgg88 Try.sizeOf88 rfl) rfl rfl rfl ?_
     refine V_ge rfl rfl rfl hc73 ?_
     obtain ⟨x75, hx75, ho63⟩ := Option.bind_eq_some_iff.1 ho63
     replace hH : Hp B A27 w58 (p5_Y s25 :: obS (α := cal_Shift) 106 v9 x8 :: L) := Hp.front hH (i := 1) rfl
     refine V_callV rfl rfl rfl (p5_spec w58 _ _ (⟨(if p3 < w64 ((w64 ((w64 (day * 1440)) - p2.offset)) + x38.from_) then w64 ((w64 ((w64 (day * 1440)) - p2.offset)) + x38.from_) else p3), (if w64 ((w64 ((w64 (day * 1440)) - p2.offset)) + x38.to_) < p4 then w64 ((w64 ((w64 (day * 1440)) - p2.offset)) + x38.to_) else p4)⟩ : cal_Span) _ x75.1 x75.2 hB hA hK hH hx75) ?_
     rintro _ w76 ⟨rfl, A77, ht79, hH78⟩
     replace h_p5 := Vb.tr (Dw := Dw) h_p5 ht79
     replace hr65 := Tr.trans (Dw := Dw) hr65 ht79
     replace hH : Hp B A77 w76 (p5_Y x75.2 :: obS (α := cal_Shift) 106 v9 x8 :: L) := hH78
     refine V_ge rfl rfl rfl hc73 ?_
     refine V_y (Y_not rfl) rfl rfl rfl ?_
     refine V_y (Y_pick_te rfl hc73 rfl) rfl rfl rfl ?_
     obtain rfl := Option.some.inj ho63
     refine V_end (fun a ha80 => ?_)
     replace hH : Hp B A77 w76 (obS (α := cal_Shift) 106 v9 x8 :: p5_Y x75.2 :: L) := Hp.front hH (i := 1) rfl
     exact ⟨A77, ha80.sub ⟨rfl, rfl, rfl, rfl, rfl, rfl, rfl, rfl, rfl, trivial⟩, ⟨hH, hr65⟩⟩
    ·rw [if_neg (nt hc73)] at ho63
     refine V_gn rfl rfl rfl hc73 rfl rfl rfl ?_
     refine V_gn rfl rfl rfl hc73 rfl rfl rfl ?_
     refine V_gn rfl rfl rfl hc73 rfl rfl rfl ?_
     refine V_gn rfl rfl rfl hc73 rfl rfl rfl ?_
     refine V_y (Y_pick_fe rfl hc73 rfl) rfl rfl rfl ?_
     obtain rfl := Option.some.inj ho63
     refine V_end (fun a ha81 => ?_)
     exact ⟨A27, ha81.sub ⟨rfl, rfl, rfl, rfl, rfl, rfl, rfl, rfl, rfl, trivial⟩, ⟨hH, hr65⟩⟩
   rintro A69 w66 ⟨hH70, hk67⟩ a ha68
   replace h_p5 := Vb.tr (Dw := Dw) h_p5 hk67
   replace hK := Tr.trans (Dw := Dw) hK hk67
   replace hr18 := Tr.trans (Dw := Dw) hr18 hk67
   replace hA := hk67.new
   replace hH : Hp B A69 w66 (obS (α := cal_Shift) 106 v9 x8 :: p5_Y s64.2 :: L) := hH70
   refine C_at (n := ⟨50, [], none⟩) (fun _ _ => rfl) ?_ ha68
   refine C_cond rfl (fun hc82 => ?_) (fun hc82 => ?_)
   ·rw [if_pos hc82] at h30
    refine C_seq ?_
    refine C_region ?_
    refine V_y (Y_assign rfl) rfl rfl rfl ?_
    refine V_to (fun _ _ => rfl) ?_
    obtain rfl := Option.some.inj h30
    obtain rfl := (h31 : Lp.rt _ = _)
    rw [Lp.andThen_rt] at hm
    obtain rfl := Option.some.inj hm
    replace hH : Hp B A69 w66 (p5_Y s64.2 :: obS (α := cal_Shift) 106 v9 x8 :: L) := Hp.front hH (i := 1) rfl
    replace hH : Hp B A69 w66 (p5_Y s64.2 :: L) := Hp.drop hH (i := 1) rfl
    refine C_ret ?_
    try simp only [↓inBlock_ret, ↓then_ret]
    exact retQ rfl (Res.one Try.results82 rfl) ⟨A69, rfl, hH, hK⟩
   ·rw [if_neg (nt hc82)] at h30
    refine C_skip_to (fun _ _ => rfl) ?_
    refine C_region ?_
    refine V_y (Y_addI rfl rfl) rfl rfl rfl ?_
    refine V_y (Y_move rfl) rfl rfl rfl ?_
    obtain rfl := Option.some.inj h30
    refine V_end (fun a ha83 => ?_)
    exact ⟨s64.2, hlt33, h31, ⟨A69, ha83.sub ⟨rfl, rfl, rfl, rfl, rfl, rfl, rfl, (congrArg (fun z => some (Value.int .i64 z)) (w64_succ hlt33 hn36)), trivial⟩, ⟨hH, hr18⟩⟩⟩
  ·refine C_exit (fun a ha84 => ?_)
   exact ⟨(s25, A27), ha84.sub trivial, ⟨(h34 (eq_of_dec hle32 hc37)).symm, hH, hr18⟩⟩
 rintro ⟨s17, A23⟩ w20 ⟨rfl, hH24, hk21⟩ a ha22
 rw [Lp.andThen_fin] at hm
 replace hK := Tr.trans (Dw := Dw) hK hk21
 replace hA := hk21.new
 replace hH : Hp B A23 w20 (obS (α := cal_Shift) 106 v9 x8 :: p5_Y s17 :: L) := hH24
 refine C_at (n := ⟨50, [], none⟩) (fun _ _ => rfl) ?_ ha22
 refine C_seq ?_
 refine C_region ?_
 refine V_y (Y_assign rfl) rfl rfl rfl ?_
 refine V_to (fun _ _ => rfl) ?_
 obtain rfl := Option.some.inj hm
 replace hH : Hp B A23 w20 (p5_Y s17 :: obS (α := cal_Shift) 106 v9 x8 :: L) := Hp.front hH (i := 1) rfl
 replace hH : Hp B A23 w20 (p5_Y s17 :: L) := Hp.drop hH (i := 1) rfl
 refine C_ret ?_
 try simp only [↓inBlock_ret, ↓then_ret]
 exact retQ rfl (Res.one Try.results82 rfl) ⟨A23, rfl, hH, hK⟩
set_option maxRecDepth 4000 in
set_option maxHeartbeats 4000000 in
theorem cal_Calendar_shifts_1_c (w : World) {A : Nat → Prop} {B : Nat} (hB : B ≤ w.heap.size) (hA : ∀ b, w.heap.size ≤ b → A b) {yield_S : Type} (yield : cal_Span → yield_S → Option (Bool × yield_S)) (yield_Y : yield_S → Ob) (yield_v : Value) (yield_one : yield_v.cells.toList = [yield_v]) (yield_s : yield_S) (yield_spec : ∀ (w2 : World) (A2 : Nat → Prop) (L2 : List Ob) (x : cal_Span) (z : yield_S) (b : Bool) (z2 : yield_S), B ≤ w2.heap.size → (∀ b, w2.heap.size ≤ b → A2 b) → Tr Dw B A w A2 w2 → Hp B A2 w2 (yield_Y z :: L2) → yield x z = some (b, z2) → CallV Try.prog yield_v [.agg #[.int .i64 x.from_, .int .i64 x.to_]] w2 fun v w3 => v = .bool b ∧ ∃ A3, Tr Dw B A2 w2 A3 w3 ∧ Hp B A3 w3 (yield_Y z2 :: L2)) (p1 : cal_Calendar) (b_p1 : Nat) (h_p1 : El A w b_p1 0 p1) (p2 : Int) (b_p2 : Nat) (h_p2 : El A w b_p2 0 p2) (p3 : Int) (b_p3 : Nat) (h_p3 : El A w b_p3 0 p3) {L : List Ob} (hH : Hp B A w (yield_Y yield_s :: L)) {r : yield_S} (hm : cal_Calendar_shifts_1 yield yield_s p1 p2 p3 = some r) : Ret Try.prog 80 #[yield_v, .pointer (some ⟨b_p1, 0, none⟩), .pointer (some ⟨b_p2, 0, none⟩), .pointer (some ⟨b_p3, 0, none⟩)] w fun v w' => ∃ A1 : Nat → Prop, v = .tuple #[] ∧ Hp B A1 w' (yield_Y r :: L) ∧ Tr Dw B A w A1 w' := by
 unfold cal_Calendar_shifts_1 at hm
 refine enter Try.func80 rfl Try.ntmps80 rfl ?_
 have hK : Tr Dw B A w A w := Tr.refl (Dw := Dw) hA
 refine C_seq ?_
 refine C_region ?_
 refine V_box rfl rfl ?_
 intro b1 w2 h3
 have hk4 := h3.kp (Dw := Dw)
 have h5 : Vb A w2 b1 yield_v := h3.vb hA yield_one
 have ht6 := Kp.tr (Dw := Dw) hk4 hA hB
 replace hH := Hp.kp (Dw := Dw) hH hk4
 replace h_p1 := El.tr (Dw := Dw) h_p1 ht6
 replace h_p2 := El.tr (Dw := Dw) h_p2 ht6
 replace h_p3 := El.tr (Dw := Dw) h_p3 ht6
 replace hK := Tr.trans (Dw := Dw) hK ht6
 replace hB := Nat.le_trans hB ht6.ex.size
 replace hA := ht6.new
 refine V_to (fun _ _ => rfl) ?_
 refine C_seq ?_
 refine C_region ?_
 have h7 := El_cal_Calendar_0 h_p1
 refine V_y (Y_fieldAddr Try.underlying58 rfl Try.sizeOf54 (by decide) rfl) rfl rfl rfl ?_
 obtain ⟨v8, h10, h9⟩ := El_cal_Zone h7
 refine V_y (Y_loadA h10 Try.isAgg54 Try.sizeOf54 rfl) rfl rfl rfl ?_
 obtain ⟨x11, hx11, hm⟩ := Option.bind_eq_some_iff.1 hm
 refine V_call Try.call81 rfl rfl rfl rfl (cal_Zone_parts_c (Dw := Dw) w2 hA p1.zone v8 h9 hx11) ?_
 rintro v12 w14 ⟨_, rfl, h13, hk15⟩
 obtain ⟨A16, ht17, hH18⟩ := Hp.addOwnd (Dw := Dw) hH hB hA hk15 h13
 replace h_p1 := El.tr (Dw := Dw) h_p1 ht17
 replace h_p2 := El.tr (Dw := Dw) h_p2 ht17
 replace h_p3 := El.tr (Dw := Dw) h_p3 ht17
 replace h5 := Vb.tr (Dw := Dw) h5 ht17
 replace hK := Tr.trans (Dw := Dw) hK ht17
 replace hB := Nat.le_trans hB ht17.ex.size
 replace hA := ht17.new
 replace hH : Hp B A16 w14 (obS (α := cal_part) 122 v12 x11 :: yield_Y yield_s :: L) := hH18
 refine V_y (Y_lenSl (Hp.any (α := cal_part) (e := 122) (v := v12) (l := x11) hH (i := 0) rfl) rfl Try.underlying119 rfl) rfl rfl rfl ?_
 refine V_y (Y_move rfl) rfl rfl rfl ?_
 refine V_to (fun _ _ => rfl) ?_
 have hn39 := Hp.le (α := cal_part) (e := 122) (v := v12) (l := x11) hH (i := 0) rfl
 obtain ⟨o19, ho19, hm⟩ := Option.bind_eq_some_iff.1 hm
 refine C_cutG (ι := (yield_S × (Nat → Prop))) (fun ⟨s20, A26⟩ => []) (fun ⟨s20, A26⟩ => fun w' => o19 = .fin s20 ∧ Hp B A26 w' (obS (α := cal_part) 122 v12 x11 :: yield_Y s20 :: L) ∧ Tr Dw B A16 w14 A26 w') ?_ ?_
 ·refine C_block ?_
  refine C_range ho19 (fun k22 s28 a w' => ∃ i : (Nat → Prop), Has ⟨52, [], none⟩ a ([(1, .pointer (some ⟨b_p1, 0, none⟩)), (2, .pointer (some ⟨b_p2, 0, none⟩)), (3, .pointer (some ⟨b_p3, 0, none⟩)), (4, .pointer (some ⟨b1, 0, none⟩)), (13, v12), (14, .int .i64 (x11.length : Int)), (15, .int .i64 (k22 : Int))]) ∧ Hp B i w' (obS (α := cal_part) 122 v12 x11 :: yield_Y s28 :: L) ∧ Tr Dw B A16 w14 i w') (fun a ha => ⟨A16, ha.sub ⟨rfl, rfl, rfl, rfl, rfl, rfl, rfl, trivial⟩, ⟨hH, Tr.refl (Dw := Dw) hA⟩⟩) ?_
  rintro K k22 s28 a w29 ⟨A30, ha119, hH31, hr21⟩ hle35 K38 h37
  refine C_of ?_ ha119
  replace h_p1 := El.tr (Dw := Dw) h_p1 hr21
  replace h_p2 := El.tr (Dw := Dw) h_p2 hr21
  replace h_p3 := El.tr (Dw := Dw) h_p3 hr21
  replace h5 := Vb.tr (Dw := Dw) h5 hr21
  replace hK := Tr.trans (Dw := Dw) hK hr21
  replace hB := Nat.le_trans hB hr21.ex.size
  replace hA := hr21.new
  replace hH : Hp B A30 w29 (obS (α := cal_part) 122 v12 x11 :: yield_Y s28 :: L) := hH31
  refine C_seq (C_region (V_y (Y_lss rfl rfl) rfl rfl rfl (V_to (fun _ _ => rfl) ?_)))
  refine C_seq ?_
  refine C_cond rfl (fun hc40 => ?_) (fun hc40 => ?_)
  ·have hlt36 := lt_of_dec hc40
   obtain ⟨x32, h33, h34⟩ := K38 hlt36
   refine C_skip_to (fun _ _ => rfl) ?_
   refine C_seq ?_
   obtain ⟨o41, ho41, h33⟩ := Option.bind_eq_some_iff.1 h33
   refine C_cutG (ι := (yield_S × (Nat → Prop))) (fun ⟨s42, A47⟩ => [(1, .pointer (some ⟨b_p1, 0, none⟩)), (2, .pointer (some ⟨b_p2, 0, none⟩)), (3, .pointer (some ⟨b_p3, 0, none⟩)), (4, .pointer (some ⟨b1, 0, none⟩)), (13, v12), (14, .int .i64 (x11.length : Int)), (15, .int .i64 (k22 : Int))]) (fun ⟨s42, A47⟩ => fun w' => o41 = .fin s42 ∧ Hp B A47 w' (obS (α := cal_part) 122 v12 x11 :: yield_Y s42 :: L) ∧ Tr Dw B A30 w29 A47 w') ?_ ?_
   ·have hr43 : Tr Dw B A30 w29 A30 w29 := Tr.refl (Dw := Dw) hA
    refine C_block ?_
    refine C_seq ?_
    refine C_region ?_
    obtain ⟨x49, hx49, ho41⟩ := Option.bind_eq_some_iff.1 ho41
    refine V_indexAddrH (α := cal_part) (e := 122) (v := v12) (l := x11) hH (i := 0) rfl hx49 Try.underlying119 Try.sizeOf122 rfl rfl rfl ?_
    intro b50 o51 h52 hl53
    obtain ⟨h54, _⟩ := El_cal_part h52
    refine V_y (Y_loadA h54 Try.isAgg122 Try.sizeOf122 rfl) rfl rfl rfl ?_
    refine V_alloc Try.zeroValue122 rfl ?_
    intro b55 w56 h57
    refine V_storeNew h57 Try.sizeOf122 rfl rfl rfl rfl (by exact (List.forall_mem_cons.2 ⟨rfl, (List.forall_mem_cons.2 ⟨rfl, (List.forall_mem_cons.2 ⟨rfl, (fun _ h => nomatch h)⟩)⟩)⟩)) ?_
    intro w58 h59
    have hk61 := h59.kp (Dw := Dw)
    have h60 : El (α := cal_part) A30 w58 b55 0 x49 := h59.el hA ⟨[.int .i64 x49.from_], _, rfl, rfl, ⟨[.int .i64 x49.to_], _, rfl, rfl, rfl⟩⟩
    have ht62 := Kp.tr (Dw := Dw) hk61 hA hB
    replace hH := Hp.kp (Dw := Dw) hH hk61
    replace h_p1 := El.tr (Dw := Dw) h_p1 ht62
    replace h_p2 := El.tr (Dw := Dw) h_p2 ht62
    replace h_p3 := El.tr (Dw := Dw) h_p3 ht62
    replace h5 := Vb.tr (Dw := Dw) h5 ht62
    replace hK := Tr.trans (Dw := Dw) hK ht62
    replace hr43 := Tr.trans (Dw := Dw) hr43 ht62
    replace hB := Nat.le_trans hB ht62.ex.size
    replace hA := ht62.new
    refine V_to (fun _ _ => rfl) ?_
    refine C_seq ?_
    refine C_region_def (Dw := Dw) (B := B) (k := 8) [(7, 3, .int .i64 0), (8, 3, .int .i64 0)] [(22, 3), (26, 7)] Try_mixed (by kernel_rfl) rfl ⟨⟨_, _, _, rfl, by simp⟩, Try.zeroValue3, ⟨⟨_, _, _, rfl, by simp⟩, Try.zeroValue3, trivial⟩⟩ ⟨⟨_, _, _, rfl, by decide, by decide⟩, by decide, rfl, Try.sizeOf3, ⟨⟨_, _, _, rfl, by decide, by decide⟩, by decide, rfl, Try.sizeOf3, trivial⟩⟩ rfl rfl (by decide) hH hB hA ?_
    simp only [List.take]
    refine VQ_y (fun w' hw' => Y_load (El.int (El.kp (Dw := Dw) h_p2 hw')) Try.isAgg3 rfl) rfl rfl rfl ?_
    have h70 := El_cal_part_0 h60
    refine VQ_y (fun w' hw' => Y_fieldAddr Try.underlying122 rfl Try.sizeOf3 (by decide) rfl) rfl rfl rfl ?_
    refine VQ_y (fun w' hw' => Y_load (El.int (El.kp (Dw := Dw) h70 hw')) Try.isAgg3 rfl) rfl rfl rfl ?_
    refine VQ_y (fun w' hw' => Y_max2 rfl rfl) rfl rfl rfl ?_
    refine VQ_y (fun w' hw' => Y_load (El.int (El.kp (Dw := Dw) h_p3 hw')) Try.isAgg3 rfl) rfl rfl rfl ?_
    have h71 := El_cal_part_1 h60
    refine VQ_y (fun w' hw' => Y_fieldAddr Try.underlying122 rfl Try.sizeOf3 (by decide) rfl) rfl rfl rfl ?_
    refine VQ_y (fun w' hw' => Y_load (El.int (El.kp (Dw := Dw) h71 hw')) Try.isAgg3 rfl) rfl rfl rfl ?_
    refine VQ_y (fun w' hw' => Y_min2 rfl rfl) rfl rfl rfl ?_
    refine VQ_end fun a ha => ⟨_, [.int .i64 (if p2 < x49.from_ then x49.from_ else p2), .int .i64 (if x49.to_ < p3 then x49.to_ else p3)], ha, rfl, rfl, ⟨rfl, (by simp [Value.cells, Value.oneCell']), ⟨rfl, (by simp [Value.cells, Value.oneCell']), trivial⟩⟩, fun b63 w65 A66 hH67 ht68 a ha69 => ?_⟩
    replace h_p1 := El.tr (Dw := Dw) h_p1 ht68
    replace h5 := Vb.tr (Dw := Dw) h5 ht68
    replace h60 := El.tr (Dw := Dw) h60 ht68
    replace hK := Tr.trans (Dw := Dw) hK ht68
    replace hr43 := Tr.trans (Dw := Dw) hr43 ht68
    replace hB := Nat.le_trans hB ht68.ex.size
    replace hA := ht68.new
    replace hH : Hp B A66 w65 (obC (b63 0) [.int .i64 (if p2 < x49.from_ then x49.from_ else p2)] 3 :: obC (b63 1) [.int .i64 (if x49.to_ < p3 then x49.to_ else p3)] 3 :: obS (α := cal_part) 122 v12 x11 :: yield_Y s28 :: L) := hH67
    obtain ⟨A72, ht73, h74, hH75⟩ := Hp.freezeC (Dw := Dw) (α := Int) (x := (if p2 < x49.from_ then x49.from_ else p2)) hH (i := 0) rfl hA (by exact rfl)
    replace h_p1 := El.tr (Dw := Dw) h_p1 ht73
    replace h5 := Vb.tr (Dw := Dw) h5 ht73
    replace h60 := El.tr (Dw := Dw) h60 ht73
    replace hK := Tr.trans (Dw := Dw) hK ht73
    replace hr43 := Tr.trans (Dw := Dw) hr43 ht73
    replace hB := Nat.le_trans hB ht73.ex.size
    replace hA := ht73.new
    replace hH : Hp B A72 w65 (obC (b63 1) [.int .i64 (if x49.to_ < p3 then x49.to_ else p3)] 3 :: obS (α := cal_part) 122 v12 x11 :: yield_Y s28 :: L) := hH75
    obtain ⟨A76, ht77, h78, hH79⟩ := Hp.freezeC (Dw := Dw) (α := Int) (x := (if x49.to_ < p3 then x49.to_ else p3)) hH (i := 0) rfl hA (by exact rfl)
    replace h_p1 := El.tr (Dw := Dw) h_p1 ht77
    replace h5 := Vb.tr (Dw := Dw) h5 ht77
    replace h60 := El.tr (Dw := Dw) h60 ht77
    replace h74 := El.tr (Dw := Dw) h74 ht77
    replace hK := Tr.trans (Dw := Dw) hK ht77
    replace hr43 := Tr.trans (Dw := Dw) hr43 ht77
    replace hB := Nat.le_trans hB ht77.ex.size
    replace hA := ht77.new
    replace hH : Hp B A76 w65 (obS (α := cal_part) 122 v12 x11 :: yield_Y s28 :: L) := hH79
    refine C_at (n := ⟨52, [], none⟩) (fun _ _ => rfl) ?_ ha69
    refine C_seq ?_
    refine C_region ?_
    refine V_y (Y_makeFunc rfl rfl) rfl rfl rfl ?_
    refine V_y (Y_assign rfl) rfl rfl rfl ?_
    refine V_to (fun _ _ => rfl) ?_
    refine C_seq ?_
    refine C_seq ?_
    refine C_region ?_
    refine V_y (Y_load (El.int h74) Try.isAgg3 rfl) rfl rfl rfl ?_
    refine V_y (Y_load (El.int h78) Try.isAgg3 rfl) rfl rfl rfl ?_
    refine V_y (Y_geq rfl rfl) rfl rfl rfl ?_
    refine V_to (fun _ _ => rfl) ?_
    refine C_cond rfl (fun hc80 => ?_) (fun hc80 => ?_)
    ·rw [if_pos hc80] at ho41
     obtain rfl := Option.some.inj ho41
     refine C_exit (fun a ha81 => ?_)
     exact ⟨(s28, A76), ha81.sub ⟨rfl, rfl, rfl, rfl, rfl, rfl, rfl, trivial⟩, ⟨rfl, hH, hr43⟩⟩
    ·rw [if_neg (nt hc80)] at ho41
     refine C_skip_to (fun _ _ => rfl) ?_
     refine C_seq ?_
     refine C_region ?_
     refine V_y (Y_load (El.int h74) Try.isAgg3 rfl) rfl rfl rfl ?_
     have h82 := El_cal_part_2 h60
     refine V_y (Y_fieldAddr Try.underlying122 rfl Try.sizeOf3 (by decide) rfl) rfl rfl rfl ?_
     refine V_y (Y_load (El.int h82) Try.isAgg3 rfl) rfl rfl rfl ?_
     refine V_y (Y_addI rfl rfl) rfl rfl rfl ?_
     obtain ⟨x83, hx83, ho41⟩ := Option.bind_eq_some_iff.1 ho41
     refine V_call Try.call84 rfl rfl rfl rfl (cal_floor_c w65 (w64 ((if p2 < x49.from_ then x49.from_ else p2) + x49.offset)) 1440 hx83) ?_
     rintro _ _ ⟨rfl, rfl⟩
     refine V_y (Y_subI rfl rfl) rfl rfl rfl ?_
     refine V_y (Y_assign rfl) rfl rfl rfl ?_
     refine V_to (fun _ _ => rfl) ?_
     obtain ⟨o84, ho84, ho41⟩ := Option.bind_eq_some_iff.1 ho41
     refine C_cutG (ι := ((Int × yield_S) × (Nat → Prop))) (fun ⟨s85, A91⟩ => [(1, .pointer (some ⟨b_p1, 0, none⟩)), (2, .pointer (some ⟨b_p2, 0, none⟩)), (3, .pointer (some ⟨b_p3, 0, none⟩)), (4, .pointer (some ⟨b1, 0, none⟩)), (13, v12), (14, .int .i64 (x11.length : Int)), (15, .int .i64 (k22 : Int))]) (fun ⟨s85, A91⟩ => fun w' => o84 = .fin s85 ∧ Hp B A91 w' (obS (α := cal_part) 122 v12 x11 :: yield_Y s85.2 :: L) ∧ Tr Dw B A76 w65 A91 w') ?_ ?_
     ·refine C_block ?_
      refine C_while ho84 (fun s93 a w' => ∃ i : (Nat → Prop), Has ⟨52, [], none⟩ a ([(1, .pointer (some ⟨b_p1, 0, none⟩)), (2, .pointer (some ⟨b_p2, 0, none⟩)), (3, .pointer (some ⟨b_p3, 0, none⟩)), (4, .pointer (some ⟨b1, 0, none⟩)), (6, .pointer (some ⟨b55, 0, none⟩)), (8, .pointer (some ⟨(b63 1), 0, none⟩)), (9, .func (.func 82) #[] #[.pointer (some ⟨b_p1, 0, none⟩), .pointer (some ⟨b55, 0, none⟩), .pointer (some ⟨(b63 0), 0, none⟩), .pointer (some ⟨(b63 1), 0, none⟩), .pointer (some ⟨b1, 0, none⟩)]), (10, .int .i64 s93.1), (13, v12), (14, .int .i64 (x11.length : Int)), (15, .int .i64 (k22 : Int))]) ∧ Hp B i w' (obS (α := cal_part) 122 v12 x11 :: yield_Y s93.2 :: L) ∧ Tr Dw B A76 w65 i w') (fun a ha => ⟨A76, ha.sub ⟨rfl, rfl, rfl, rfl, rfl, rfl, rfl, rfl, rfl, rfl, rfl, trivial⟩, ⟨hH, Tr.refl (Dw := Dw) hA⟩⟩) ?_
      rintro K s93 a w94 ⟨A95, ha115, hH96, hr86⟩ K103
      refine C_of ?_ ha115
      replace h_p1 := El.tr (Dw := Dw) h_p1 hr86
      replace h5 := Vb.tr (Dw := Dw) h5 hr86
      replace h60 := El.tr (Dw := Dw) h60 hr86
      replace h78 := El.tr (Dw := Dw) h78 hr86
      replace h74 := El.tr (Dw := Dw) h74 hr86
      replace hK := Tr.trans (Dw := Dw) hK hr86
      replace hB := Nat.le_trans hB hr86.ex.size
      replace hA := hr86.new
      replace hH : Hp B A95 w94 (obS (α := cal_part) 122 v12 x11 :: yield_Y s93.2 :: L) := hH96
      obtain ⟨x97, h98, h99⟩ := K103
      refine C_seq ?_
      refine C_seq ?_
      refine C_region ?_
      refine V_y (Y_move rfl) rfl rfl rfl ?_
      refine V_y (Y_load (El.int h78) Try.isAgg3 rfl) rfl rfl rfl ?_
      refine V_y (Y_subI rfl rfl) rfl rfl rfl ?_
      have h104 := El_cal_part_2 h60
      refine V_y (Y_fieldAddr Try.underlying122 rfl Try.sizeOf3 (by decide) rfl) rfl rfl rfl ?_
      refine V_y (Y_load (El.int h104) Try.isAgg3 rfl) rfl rfl rfl ?_
      refine V_y (Y_addI rfl rfl) rfl rfl rfl ?_
      obtain ⟨x105, hx105, h98⟩ := Option.bind_eq_some_iff.1 h98
      refine V_call Try.call84 rfl rfl rfl rfl (cal_floor_c w94 (w64 ((w64 ((if x49.to_ < p3 then x49.to_ else p3) - 1)) + x49.offset)) 1440 hx105) ?_
      rintro _ _ ⟨rfl, rfl⟩
      refine V_y (Y_leq rfl rfl) rfl rfl rfl ?_
      refine V_to (fun _ _ => rfl) ?_
      refine C_cond rfl (fun hc106 => ?_) (fun hc106 => ?_)
      ·rw [if_pos hc106] at h98
       refine C_skip_to (fun _ _ => rfl) ?_
       refine C_seq ?_
       refine C_block ?_
       refine C_seq ?_
       refine C_region ?_
       refine V_y (Y_move rfl) rfl rfl rfl ?_
       refine V_y (Y_move rfl) rfl rfl rfl ?_
       replace hH : Hp B A95 w94 (yield_Y s93.2 :: obS (α := cal_part) 122 v12 x11 :: L) := Hp.front hH (i := 1) rfl
       obtain ⟨x107, hx107, h98⟩ := Option.bind_eq_some_iff.1 h98
       refine V_call Try.call82 rfl rfl rfl rfl (cal_Calendar_shifts_1_1_c (Dw := Dw) w94 hB hA s93.1 p1 b_p1 h_p1 x49 b55 h60 (if p2 < x49.from_ then x49.from_ else p2) (b63 0) h74 (if x49.to_ < p3 then x49.to_ else p3) (b63 1) h78 yield yield_Y yield_v yield_one s93.2 (fun w2 A2 L2 x2 z2 b2 z3 h1 h2 h3 => yield_spec w2 A2 L2 x2 z2 b2 z3 h1 h2 (Tr.trans (Dw := Dw) hK h3)) b1 h5 hH hx107) ?_
       rintro _ w108 ⟨A109, rfl, hH110, ht111⟩
       replace h5 := Vb.tr (Dw := Dw) h5 ht111
       replace hK := Tr.trans (Dw := Dw) hK ht111
       replace hr86 := Tr.trans (Dw := Dw) hr86 ht111
       replace hH : Hp B A109 w108 (yield_Y x107.2 :: obS (α := cal_part) 122 v12 x11 :: L) := hH110
       refine V_y (Y_not rfl) rfl rfl rfl ?_
       refine V_to (fun _ _ => rfl) ?_
       refine C_cond rfl (fun hc112 => ?_) (fun hc112 => ?_)
       ·rw [if_pos hc112] at h98
        obtain rfl := Option.some.inj h98
        obtain rfl := (h99 : Lp.rt _ = _)
        rw [Lp.andThen_rt] at ho41
        obtain rfl := Option.some.inj ho41
        rw [Lp.andThen_rt] at h33
        obtain rfl := Option.some.inj h33
        obtain rfl := (h34 : Lp.rt _ = _)
        rw [Lp.andThen_rt] at hm
        obtain rfl := Option.some.inj hm
        replace hH : Hp B A109 w108 (yield_Y x107.2 :: L) := Hp.drop hH (i := 1) rfl
        refine C_ret ?_
        try simp only [↓inBlock_ret, ↓then_ret]
        exact retQ rfl (Res.zero Try.results80) ⟨A109, rfl, hH, hK⟩
       ·rw [if_neg (nt hc112)] at h98
        refine C_skip_to (fun _ _ => rfl) ?_
        refine C_region ?_
        refine V_y (Y_move rfl) rfl rfl rfl ?_
        refine V_y (Y_addI rfl rfl) rfl rfl rfl ?_
        refine V_y (Y_assign rfl) rfl rfl rfl ?_
        obtain rfl := Option.some.inj h98
        refine V_end (fun a ha113 => ?_)
        replace hH : Hp B A109 w108 (obS (α := cal_part) 122 v12 x11 :: yield_Y x107.2 :: L) := Hp.front hH (i := 1) rfl
        exact ⟨(w64 (s93.1 + 1), x107.2), h99, ⟨A109, ha113.sub ⟨rfl, rfl, rfl, rfl, rfl, rfl, rfl, rfl, rfl, rfl, rfl, trivial⟩, ⟨hH, hr86⟩⟩⟩
      ·rw [if_neg (nt hc106)] at h98
       obtain rfl := Option.some.inj h98
       refine C_exit (fun a ha114 => ?_)
       exact ⟨((s93.1, s93.2), A95), ha114.sub ⟨rfl, rfl, rfl, rfl, rfl, rfl, rfl, trivial⟩, ⟨h99.symm, hH, hr86⟩⟩
     rintro ⟨s85, A91⟩ w88 ⟨rfl, hH92, hk89⟩ a ha90
     rw [Lp.andThen_fin] at ho41
     replace h5 := Vb.tr (Dw := Dw) h5 hk89
     replace hr43 := Tr.trans (Dw := Dw) hr43 hk89
     replace hA := hk89.new
     replace hH : Hp B A91 w88 (obS (α := cal_part) 122 v12 x11 :: yield_Y s85.2 :: L) := hH92
     obtain rfl := Option.some.inj ho41
     exact ⟨(s85.2, A91), ha90.sub ⟨rfl, rfl, rfl, rfl, rfl, rfl, rfl, trivial⟩, ⟨rfl, hH, hr43⟩⟩
   rintro ⟨s42, A47⟩ w44 ⟨rfl, hH48, hk45⟩ a ha46
   rw [Lp.andThen_fin] at h33
   replace h5 := Vb.tr (Dw := Dw) h5 hk45
   replace hr21 := Tr.trans (Dw := Dw) hr21 hk45
   replace hA := hk45.new
   replace hH : Hp B A47 w44 (obS (α := cal_part) 122 v12 x11 :: yield_Y s42 :: L) := hH48
   refine C_at (n := ⟨52, [], none⟩) (fun _ _ => rfl) ?_ ha46
   refine C_region ?_
   refine V_y (Y_addI rfl rfl) rfl rfl rfl ?_
   refine V_y (Y_move rfl) rfl rfl rfl ?_
   obtain rfl := Option.some.inj h33
   refine V_end (fun a ha117 => ?_)
   exact ⟨s42, hlt36, h34, ⟨A47, ha117.sub ⟨rfl, rfl, rfl, rfl, rfl, rfl, (congrArg (fun z => some (Value.int .i64 z)) (w64_succ hlt36 hn39)), trivial⟩, ⟨hH, hr21⟩⟩⟩
  ·refine C_exit (fun a ha118 => ?_)
   exact ⟨(s28, A30), ha118.sub trivial, ⟨(h37 (eq_of_dec hle35 hc40)).symm, hH, hr21⟩⟩
 rintro ⟨s20, A26⟩ w23 ⟨rfl, hH27, hk24⟩ a ha25
 rw [Lp.andThen_fin] at hm
 replace hK := Tr.trans (Dw := Dw) hK hk24
 replace hA := hk24.new
 replace hH : Hp B A26 w23 (obS (α := cal_part) 122 v12 x11 :: yield_Y s20 :: L) := hH27
 obtain rfl := Option.some.inj hm
 replace hH : Hp B A26 w23 (yield_Y s20 :: obS (α := cal_part) 122 v12 x11 :: L) := Hp.front hH (i := 1) rfl
 replace hH : Hp B A26 w23 (yield_Y s20 :: L) := Hp.drop hH (i := 1) rfl
 try simp only [↓inBlock_ret, ↓then_ret]
 exact normQ (retQ rfl (Res.zero Try.results80) ⟨A26, rfl, hH, hK⟩ a ha25)
end Go.Proofs.Ytabkhhpkibbheaa.W
