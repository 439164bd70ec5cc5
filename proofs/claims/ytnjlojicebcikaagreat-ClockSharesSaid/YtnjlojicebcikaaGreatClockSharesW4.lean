/-
  Written by program (gen.py) from the IR of the dump: each function computes its model.
-/
import Derived.Test.YtnjlojicebcikaaGreatClockSharesW3
namespace Go.Proofs.YtnjlojicebcikaaGreat.W
open Go Go.RowKit Go.Pu Go.Gw Go.Proofs Go.Proofs.YtnjlojicebcikaaGreat.M
set_option linter.unusedVariables false
set_option linter.unusedSimpArgs false
variable {Dw : Prop}

set_option maxRecDepth 4000 in
set_option maxHeartbeats 4000000 in
theorem portref2_clocksFault_c (w : World) {A : Nat → Prop} (hA : ∀ b, w.heap.size ≤ b → A b) (l : (List level_Clock)) (v_l : Value) (h_l : Sl A w v_l l) (cals : (List cal_Calendar)) (v_cals : Value) (h_cals : Sl A w v_cals cals) {r : Int} (hm : portref2_clocksFault l cals = some r) : Ret Tryz.prog 21 #[v_l, v_cals] w fun v w' => v = .int .i64 r ∧ Kp Dw w w' := by
  unfold portref2_clocksFault at hm
  refine enter Tryz.func21 rfl Tryz.ntmps21 rfl ?_
  have hA0 := hA
  have hB := Nat.le_refl w.heap.size
  have hK : Tr Dw w.heap.size A w A w := Tr.refl (Dw := Dw) hA
  have hH : Hp w.heap.size A w [] := Hp.nil
  refine C_seq ?_
  refine C_region ?_
  refine V_box rfl rfl ?_
  intro b5 w6 h7
  have h12 : (v_cals).oneCell' = true := by obtain ⟨_, _, e, _⟩ := Sl.form h_cals; rw [e]; rfl
  have hk9 := h7.kp (Dw := Dw)
  have h8 : El (α := (List cal_Calendar)) A w6 b5 0 cals := h7.el hA (by rw [Value.cells_one h12]; exact ⟨_, rfl, h_cals⟩)
  have ht13 := Kp.tr hk9 hA hB
  replace hH := Hp.kp hH hk9
  replace h_l := Sl.tr h_l ht13
  replace h_cals := Sl.tr h_cals ht13
  replace hK := Tr.trans hK ht13
  replace hB := Nat.le_trans hB ht13.ex.size
  replace hA := ht13.new
  refine V_as rfl rfl ?_
  refine V_to (fun _ _ => rfl) ?_
  refine C_seq ?_
  refine C_seq ?_
  refine C_region ?_
  refine V_mv rfl rfl ?_
  refine V_y (Y_lenSl h_l rfl Tryz.underlying22 rfl) rfl rfl rfl ?_
  refine V_y (Y_gtr rfl rfl) rfl rfl rfl ?_
  refine V_to (fun _ _ => rfl) ?_
  refine C_cond rfl (fun hc14 => ?_) (fun hc14 => ?_)
  · rw [if_pos hc14] at hm
    refine C_seq ?_
    refine C_region ?_
    refine V_as rfl rfl ?_
    refine V_to (fun _ _ => rfl) ?_
    obtain rfl := Option.some.inj hm
    refine C_ret ?_
    try simp only [↓inBlock_ret, ↓then_ret]
    exact retQ rfl (Res.one Tryz.results21 rfl) ⟨rfl, hK.kp⟩
  · rw [if_neg (nt hc14)] at hm
    refine C_skip_to (fun _ _ => rfl) ?_
    refine C_seq ?_
    refine C_seq ?_
    refine C_region ?_
    refine V_mv rfl rfl ?_
    refine V_y (Y_lenSl h_l rfl Tryz.underlying22 rfl) rfl rfl rfl ?_
    refine V_mv rfl rfl ?_
    refine V_to (fun _ _ => rfl) ?_
    have hn35 := Sl.le h_l
    obtain ⟨o15, ho15, hm⟩ := Option.bind_eq_some_iff.1 hm
    refine C_cutG (ι := (Unit × (Nat → Prop))) (fun ⟨s16, A22⟩ => [(0, v_l), (3, .pointer (some ⟨b5, 0, none⟩))]) (fun ⟨s16, A22⟩ => fun w' => o15 = .fin s16 ∧ Hp w.heap.size A22 w' ([]) ∧ Tr Dw w.heap.size A w6 A22 w') ?_ ?_
    · refine C_block ?_
      refine C_range ho15 (fun k18 _ a w' => ∃ i : (Nat → Prop), Has ⟨42, [], none⟩ a ([(0, v_l), (3, .pointer (some ⟨b5, 0, none⟩)), (14, v_l), (15, .int .i64 (l.length : Int)), (16, .int .i64 (k18 : Int))]) ∧ Hp w.heap.size i w' ([]) ∧ Tr Dw w.heap.size A w6 i w') (fun a ha => ⟨A, ha.sub ⟨rfl, rfl, rfl, rfl, rfl, trivial⟩, ⟨hH, Tr.refl (Dw := Dw) hA⟩⟩) ?_
      rintro K k18 _ a w25 ⟨A26, ha65, hH27, hr17⟩ hle31 K34 h33
      refine C_of ?_ ha65
      replace h_l := Sl.tr h_l hr17
      replace h8 := El.tr h8 hr17
      replace hK := Tr.trans hK hr17
      replace hB := Nat.le_trans hB hr17.ex.size
      replace hA := hr17.new
      replace hH : Hp w.heap.size A26 w25 ([]) := hH27
      refine C_seq (C_region (V_y (Y_lss rfl rfl) rfl rfl rfl (V_to (fun _ _ => rfl) ?_)))
      refine C_seq ?_
      refine C_cond rfl (fun hc36 => ?_) (fun hc36 => ?_)
      · have hlt32 := lt_of_dec hc36
        obtain ⟨x28, h29, h30⟩ := K34 hlt32
        refine C_skip_to (fun _ _ => rfl) ?_
        refine C_seq ?_
        refine C_block ?_
        refine C_seq ?_
        refine C_region ?_
        obtain ⟨x37, hx37, h29⟩ := Option.bind_eq_some_iff.1 h29
        refine V_indexAddr h_l hx37 Tryz.underlying22 Tryz.sizeOf39 rfl rfl rfl ?_
        intro b38 o39 h40
        obtain ⟨v41, h43, h42⟩ := El_level_Clock h40
        refine V_y (Y_loadA h43 Tryz.isAgg39 Tryz.sizeOf39 rfl) rfl rfl rfl ?_
        refine V_alloc Tryz.zeroValue39 rfl ?_
        intro b44 w45 h46
        have h51 : (v41).oneCell' = true := by obtain ⟨_, _, e, _⟩ := Sl.form h42; rw [e]; rfl
        refine V_storeNew h46 Tryz.sizeOf39 rfl rfl rfl rfl (by exact (List.forall_mem_cons.2 ⟨rfl, (List.forall_mem_cons.2 ⟨rfl, (List.forall_mem_cons.2 ⟨rfl, (List.forall_mem_cons.2 ⟨rfl, (List.forall_mem_cons.2 ⟨rfl, (List.forall_mem_cons.2 ⟨rfl, (List.forall_mem_cons.2 ⟨h51, (fun _ h => nomatch h)⟩)⟩)⟩)⟩)⟩)⟩)⟩)) ?_
        intro w47 h48
        have hk53 := h48.kp (Dw := Dw)
        have h52 : El (α := level_Clock) A26 w47 b44 0 x37 := h48.el hA ⟨[.int .i64 x37.kind], _, rfl, rfl, ⟨[.int .i64 x37.level], _, rfl, rfl, ⟨[.int .i64 x37.minutes], _, rfl, rfl, ⟨[.int .i64 x37.start], _, rfl, rfl, ⟨[.int .i64 x37.stop], _, rfl, rfl, ⟨[.int .i64 x37.end_], _, rfl, rfl, ⟨_, rfl, h42⟩⟩⟩⟩⟩⟩⟩
        have ht54 := Kp.tr hk53 hA hB
        replace hH := Hp.kp hH hk53
        replace h_l := Sl.tr h_l ht54
        replace h8 := El.tr h8 ht54
        replace h40 := El.tr h40 ht54
        replace h42 := Sl.tr h42 ht54
        replace hK := Tr.trans hK ht54
        replace hr17 := Tr.trans hr17 ht54
        replace hB := Nat.le_trans hB ht54.ex.size
        replace hA := ht54.new
        refine V_to (fun _ _ => rfl) ?_
        refine C_seq ?_
        refine C_region ?_
        obtain ⟨v55, h57, h56⟩ := El_level_Clock h52
        refine V_y (Y_loadA h57 Tryz.isAgg39 Tryz.sizeOf39 rfl) rfl rfl rfl ?_
        obtain ⟨x58, hx58, h29⟩ := Option.bind_eq_some_iff.1 h29
        refine V_call Tryz.call41 rfl rfl rfl rfl (portref2_ClockFault_c (Dw := Dw) w47 hA x37 v55 h56 hx58) ?_
        rintro _ w59 ⟨rfl, hk60⟩
        have ht61 := Kp.tr hk60 hA hB
        replace hH := Hp.kp hH hk60
        replace h_l := Sl.tr h_l ht61
        replace h8 := El.tr h8 ht61
        replace h52 := El.tr h52 ht61
        replace h56 := Sl.tr h56 ht61
        replace hK := Tr.trans hK ht61
        replace hr17 := Tr.trans hr17 ht61
        replace hB := Nat.le_trans hB ht61.ex.size
        replace hA := ht61.new
        refine V_as rfl rfl ?_
        refine V_to (fun _ _ => rfl) ?_
        refine C_seq ?_
        refine C_region ?_
        refine V_mv rfl rfl ?_
        refine V_y (Y_neq rfl rfl) rfl rfl rfl ?_
        refine V_to (fun _ _ => rfl) ?_
        refine C_cond rfl (fun hc62 => ?_) (fun hc62 => ?_)
        · rw [if_pos hc62] at h29
          refine C_seq ?_
          refine C_region ?_
          refine V_mv rfl rfl ?_
          refine V_as rfl rfl ?_
          refine V_to (fun _ _ => rfl) ?_
          obtain rfl := Option.some.inj h29
          obtain rfl := (h30 : Lp.rt _ = _)
          rw [Lp.andThen_rt] at hm
          obtain rfl := Option.some.inj hm
          refine C_ret ?_
          try simp only [↓inBlock_ret, ↓then_ret]
          exact retQ rfl (Res.one Tryz.results21 rfl) ⟨rfl, hK.kp⟩
        · rw [if_neg (nt hc62)] at h29
          refine C_skip_to (fun _ _ => rfl) ?_
          refine C_region ?_
          refine V_y (Y_addI rfl rfl) rfl rfl rfl ?_
          refine V_mv rfl rfl ?_
          obtain rfl := Option.some.inj h29
          refine V_end (fun a ha63 => ?_)
          exact ⟨(), hlt32, h30, ⟨A26, ha63.sub ⟨rfl, rfl, rfl, rfl, (congrArg (fun z => some (Value.int .i64 z)) (w64_succ hlt32 hn35)), trivial⟩, ⟨hH, hr17⟩⟩⟩
      · refine C_exit (fun a ha64 => ?_)
        exact ⟨((), A26), ha64.sub ⟨rfl, rfl, trivial⟩, ⟨(h33 (eq_of_dec hle31 hc36)).symm, hH, hr17⟩⟩
    rintro ⟨s16, A22⟩ w19 ⟨rfl, hH23, hk20⟩ a ha21
    rw [Lp.andThen_fin] at hm
    replace h_l := Sl.tr h_l hk20
    replace h8 := El.tr h8 hk20
    replace hK := Tr.trans hK hk20
    replace hB := Nat.le_trans hB hk20.ex.size
    replace hA := hk20.new
    replace hH : Hp w.heap.size A22 w19 ([]) := hH23
    refine C_at (n := ⟨42, [], none⟩) (fun _ _ => rfl) ?_ ha21
    refine C_seq ?_
    refine C_seq ?_
    refine C_region ?_
    obtain ⟨v66, h67, h68⟩ := El.list h8
    refine V_y (Y_load h67 Tryz.isAgg23 rfl) rfl rfl rfl ?_
    obtain ⟨x69, hx69, hm⟩ := Option.bind_eq_some_iff.1 hm
    refine V_call Tryz.call42 rfl rfl rfl rfl (portref2_CalsFault_c (Dw := Dw) w19 hA cals v66 h68 20 hx69) ?_
    rintro _ w70 ⟨rfl, hk71⟩
    have ht72 := Kp.tr hk71 hA hB
    replace hH := Hp.kp hH hk71
    replace h_l := Sl.tr h_l ht72
    replace h8 := El.tr h8 ht72
    replace h68 := Sl.tr h68 ht72
    replace hK := Tr.trans hK ht72
    replace hB := Nat.le_trans hB ht72.ex.size
    replace hA := ht72.new
    refine V_as rfl rfl ?_
    refine V_to (fun _ _ => rfl) ?_
    refine C_seq ?_
    refine C_region ?_
    refine V_mv rfl rfl ?_
    refine V_y (Y_neq rfl rfl) rfl rfl rfl ?_
    refine V_to (fun _ _ => rfl) ?_
    refine C_cond rfl (fun hc73 => ?_) (fun hc73 => ?_)
    · rw [if_pos hc73] at hm
      refine C_seq ?_
      refine C_region ?_
      refine V_mv rfl rfl ?_
      refine V_as rfl rfl ?_
      refine V_to (fun _ _ => rfl) ?_
      obtain rfl := Option.some.inj hm
      refine C_ret ?_
      try simp only [↓inBlock_ret, ↓then_ret]
      exact retQ rfl (Res.one Tryz.results21 rfl) ⟨rfl, hK.kp⟩
    · rw [if_neg (nt hc73)] at hm
      refine C_skip_to (fun _ _ => rfl) ?_
      refine C_seq ?_
      refine C_seq ?_
      refine C_region ?_
      refine V_mv rfl rfl ?_
      refine V_y (Y_lenSl h_l rfl Tryz.underlying22 rfl) rfl rfl rfl ?_
      refine V_mv rfl rfl ?_
      refine V_to (fun _ _ => rfl) ?_
      have hn94 := Sl.le h_l
      obtain ⟨o74, ho74, hm⟩ := Option.bind_eq_some_iff.1 hm
      refine C_cutG (ι := (Unit × (Nat → Prop))) (fun ⟨s75, A81⟩ => []) (fun ⟨s75, A81⟩ => fun w' => o74 = .fin s75 ∧ Hp w.heap.size A81 w' ([]) ∧ Tr Dw w.heap.size A22 w70 A81 w') ?_ ?_
      · refine C_block ?_
        refine C_range ho74 (fun k77 _ a w' => ∃ i : (Nat → Prop), Has ⟨42, [], none⟩ a ([(3, .pointer (some ⟨b5, 0, none⟩)), (31, v_l), (32, .int .i64 (l.length : Int)), (33, .int .i64 (k77 : Int))]) ∧ Hp w.heap.size i w' ([]) ∧ Tr Dw w.heap.size A22 w70 i w') (fun a ha => ⟨A22, ha.sub ⟨rfl, rfl, rfl, rfl, trivial⟩, ⟨hH, Tr.refl (Dw := Dw) hA⟩⟩) ?_
        rintro K k77 _ a w84 ⟨A85, ha134, hH86, hr76⟩ hle90 K93 h92
        refine C_of ?_ ha134
        replace h8 := El.tr h8 hr76
        replace h_l := Sl.tr h_l hr76
        replace hK := Tr.trans hK hr76
        replace hB := Nat.le_trans hB hr76.ex.size
        replace hA := hr76.new
        replace hH : Hp w.heap.size A85 w84 ([]) := hH86
        refine C_seq (C_region (V_y (Y_lss rfl rfl) rfl rfl rfl (V_to (fun _ _ => rfl) ?_)))
        refine C_seq ?_
        refine C_cond rfl (fun hc95 => ?_) (fun hc95 => ?_)
        · have hlt91 := lt_of_dec hc95
          obtain ⟨x87, h88, h89⟩ := K93 hlt91
          refine C_skip_to (fun _ _ => rfl) ?_
          refine C_seq ?_
          refine C_block ?_
          refine C_seq ?_
          refine C_region ?_
          obtain ⟨x96, hx96, h88⟩ := Option.bind_eq_some_iff.1 h88
          refine V_indexAddr h_l hx96 Tryz.underlying22 Tryz.sizeOf39 rfl rfl rfl ?_
          intro b97 o98 h99
          obtain ⟨v100, h102, h101⟩ := El_level_Clock h99
          refine V_y (Y_loadA h102 Tryz.isAgg39 Tryz.sizeOf39 rfl) rfl rfl rfl ?_
          refine V_alloc Tryz.zeroValue39 rfl ?_
          intro b103 w104 h105
          have h110 : (v100).oneCell' = true := by obtain ⟨_, _, e, _⟩ := Sl.form h101; rw [e]; rfl
          refine V_storeNew h105 Tryz.sizeOf39 rfl rfl rfl rfl (by exact (List.forall_mem_cons.2 ⟨rfl, (List.forall_mem_cons.2 ⟨rfl, (List.forall_mem_cons.2 ⟨rfl, (List.forall_mem_cons.2 ⟨rfl, (List.forall_mem_cons.2 ⟨rfl, (List.forall_mem_cons.2 ⟨rfl, (List.forall_mem_cons.2 ⟨h110, (fun _ h => nomatch h)⟩)⟩)⟩)⟩)⟩)⟩)⟩)) ?_
          intro w106 h107
          have hk112 := h107.kp (Dw := Dw)
          have h111 : El (α := level_Clock) A85 w106 b103 0 x96 := h107.el hA ⟨[.int .i64 x96.kind], _, rfl, rfl, ⟨[.int .i64 x96.level], _, rfl, rfl, ⟨[.int .i64 x96.minutes], _, rfl, rfl, ⟨[.int .i64 x96.start], _, rfl, rfl, ⟨[.int .i64 x96.stop], _, rfl, rfl, ⟨[.int .i64 x96.end_], _, rfl, rfl, ⟨_, rfl, h101⟩⟩⟩⟩⟩⟩⟩
          have ht113 := Kp.tr hk112 hA hB
          replace hH := Hp.kp hH hk112
          replace h8 := El.tr h8 ht113
          replace h_l := Sl.tr h_l ht113
          replace h99 := El.tr h99 ht113
          replace h101 := Sl.tr h101 ht113
          replace hK := Tr.trans hK ht113
          replace hr76 := Tr.trans hr76 ht113
          replace hB := Nat.le_trans hB ht113.ex.size
          replace hA := ht113.new
          refine V_to (fun _ _ => rfl) ?_
          refine C_seq ?_
          refine C_region ?_
          have h114 := El_level_Clock_6 h111
          refine V_y (Y_fieldAddr Tryz.underlying39 rfl Tryz.sizeOf37 (by decide) rfl) rfl rfl rfl ?_
          obtain ⟨v115, h116, h117⟩ := El.list h114
          refine V_y (Y_load h116 Tryz.isAgg37 rfl) rfl rfl rfl ?_
          refine V_y (Y_makeFunc rfl rfl) rfl rfl rfl ?_
          obtain ⟨x119, hx119, h88⟩ := Option.bind_eq_some_iff.1 h88
          refine V_call Tryz.call32 rfl rfl rfl rfl (slices_ContainsFunc_Llevel_Piece_level_Piece_c (Dw := Dw) w106 hA x96.pieces v115 h117 (fun y127 => portref2_clocksFault_1 y127 cals) 43 #[] #[.pointer (some ⟨b5, 0, none⟩)] Tryz.call43 (fun w123 A124 ht125 h126 y120 r121 h122 => (portref2_clocksFault_1_c (Dw := Dw) w123 h126 y120 cals b5 (El.tr h8 ht125) h122).mono (fun _ _ h => ⟨h.1, h.2⟩)) hx119) ?_
          rintro _ w128 ⟨rfl, hk129⟩
          have ht130 := Kp.tr hk129 hA hB
          replace hH := Hp.kp hH hk129
          replace h8 := El.tr h8 ht130
          replace h_l := Sl.tr h_l ht130
          replace h111 := El.tr h111 ht130
          replace h114 := El.tr h114 ht130
          replace h117 := Sl.tr h117 ht130
          replace hK := Tr.trans hK ht130
          replace hr76 := Tr.trans hr76 ht130
          replace hB := Nat.le_trans hB ht130.ex.size
          replace hA := ht130.new
          refine V_to (fun _ _ => rfl) ?_
          refine C_cond rfl (fun hc131 => ?_) (fun hc131 => ?_)
          · rw [if_pos hc131] at h88
            refine C_seq ?_
            refine C_region ?_
            refine V_as rfl rfl ?_
            refine V_to (fun _ _ => rfl) ?_
            obtain rfl := Option.some.inj h88
            obtain rfl := (h89 : Lp.rt _ = _)
            rw [Lp.andThen_rt] at hm
            obtain rfl := Option.some.inj hm
            refine C_ret ?_
            try simp only [↓inBlock_ret, ↓then_ret]
            exact retQ rfl (Res.one Tryz.results21 rfl) ⟨rfl, hK.kp⟩
          · rw [if_neg (nt hc131)] at h88
            refine C_skip_to (fun _ _ => rfl) ?_
            refine C_region ?_
            refine V_y (Y_addI rfl rfl) rfl rfl rfl ?_
            refine V_mv rfl rfl ?_
            obtain rfl := Option.some.inj h88
            refine V_end (fun a ha132 => ?_)
            exact ⟨(), hlt91, h89, ⟨A85, ha132.sub ⟨rfl, rfl, rfl, (congrArg (fun z => some (Value.int .i64 z)) (w64_succ hlt91 hn94)), trivial⟩, ⟨hH, hr76⟩⟩⟩
        · refine C_exit (fun a ha133 => ?_)
          exact ⟨((), A85), ha133.sub trivial, ⟨(h92 (eq_of_dec hle90 hc95)).symm, hH, hr76⟩⟩
      rintro ⟨s75, A81⟩ w78 ⟨rfl, hH82, hk79⟩ a ha80
      rw [Lp.andThen_fin] at hm
      replace hK := Tr.trans hK hk79
      replace hB := Nat.le_trans hB hk79.ex.size
      replace hA := hk79.new
      replace hH : Hp w.heap.size A81 w78 ([]) := hH82
      refine C_at (n := ⟨42, [], none⟩) (fun _ _ => rfl) ?_ ha80
      refine C_seq ?_
      refine C_region ?_
      refine V_as rfl rfl ?_
      refine V_to (fun _ _ => rfl) ?_
      obtain rfl := Option.some.inj hm
      refine C_ret ?_
      try simp only [↓inBlock_ret, ↓then_ret]
      exact retQ rfl (Res.one Tryz.results21 rfl) ⟨rfl, hK.kp⟩

set_option maxRecDepth 4000 in
set_option maxHeartbeats 4000000 in
theorem portref2_floorDiv_c (w : World) {A : Nat → Prop} (hA : ∀ b, w.heap.size ≤ b → A b) (a_ : Int) (b : Int) {r : (Int × Int)} (hm : portref2_floorDiv a_ b = some r) : Ret Tryz.prog 101 #[.int .i64 a_, .int .i64 b] w fun v w' => v = .tuple #[.int .i64 r.1, .int .i64 r.2] ∧ Kp Dw w w' := by
  unfold portref2_floorDiv at hm
  refine enter Tryz.func101 rfl Tryz.ntmps101 rfl ?_
  have hA0 := hA
  have hB := Nat.le_refl w.heap.size
  have hK : Tr Dw w.heap.size A w A w := Tr.refl (Dw := Dw) hA
  have hH : Hp w.heap.size A w [] := Hp.nil
  refine C_seq ?_
  refine C_region ?_
  refine V_as rfl rfl ?_
  refine V_as rfl rfl ?_
  refine V_to (fun _ _ => rfl) ?_
  refine C_seq ?_
  refine C_region_q (Dw := Dw) Tryz_mixed (by kernel_rfl) ?_
  refine VQ_y (fun w' hw' => Y_move rfl) rfl rfl rfl ?_
  refine VQ_y (fun w' hw' => Y_move rfl) rfl rfl rfl ?_
  obtain ⟨x1, hx1, hm⟩ := Option.bind_eq_some_iff.1 hm
  refine VQ_y (fun w' hw' => Y_quo hx1 rfl rfl) rfl rfl rfl ?_
  refine VQ_y (fun w' hw' => Y_move rfl) rfl rfl rfl ?_
  refine VQ_y (fun w' hw' => Y_move rfl) rfl rfl rfl ?_
  obtain ⟨x2, hx2, hm⟩ := Option.bind_eq_some_iff.1 hm
  refine VQ_y (fun w' hw' => Y_rem hx2 rfl rfl) rfl rfl rfl ?_
  refine VQ_y (fun w' hw' => Y_assign rfl) rfl rfl rfl ?_
  refine VQ_y (fun w' hw' => Y_assign rfl) rfl rfl rfl ?_
  refine VQ_to (fun _ _ => rfl) (fun w3 hk4 => ?_)
  have ht5 := Kp.tr hk4 hA hB
  replace hH := Hp.kp hH hk4
  replace hK := Tr.trans hK ht5
  replace hB := Nat.le_trans hB ht5.ex.size
  replace hA := ht5.new
  refine C_seq ?_
  refine C_seq ?_
  refine C_region ?_
  refine V_mv rfl rfl ?_
  refine V_y (Y_lss rfl rfl) rfl rfl rfl ?_
  refine V_to (fun _ _ => rfl) ?_
  obtain ⟨s7, ho6, hm⟩ := Option.bind_eq_some_iff.1 hm
  refine C_cutG (ι := Unit) (fun (_ : Unit) => [(6, .int .i64 s7.1), (7, .int .i64 s7.2)]) (fun (_ : Unit) => fun w' => w3 = w') ?_ ?_
  · refine C_cond rfl (fun hc12 => ?_) (fun hc12 => ?_)
    · rw [if_pos hc12] at ho6
      refine C_region ?_
      refine V_mv rfl rfl ?_
      refine V_y (Y_subI rfl rfl) rfl rfl rfl ?_
      refine V_mv rfl rfl ?_
      refine V_mv rfl rfl ?_
      refine V_y (Y_addI rfl rfl) rfl rfl rfl ?_
      refine V_as rfl rfl ?_
      refine V_as rfl rfl ?_
      obtain rfl := Option.some.inj ho6
      refine V_end (fun a ha13 => ?_)
      exact ⟨(), ha13.sub ⟨rfl, rfl, trivial⟩, rfl⟩
    · rw [if_neg (nt hc12)] at ho6
      obtain rfl := Option.some.inj ho6
      refine C_skip (fun a ha14 => ?_)
      exact ⟨(), ha14.sub ⟨rfl, rfl, trivial⟩, rfl⟩
  rintro _ _ rfl a ha11
  refine C_at (n := ⟨23, [], none⟩) (fun _ _ => rfl) ?_ ha11
  refine C_seq ?_
  refine C_region ?_
  refine V_mv rfl rfl ?_
  refine V_mv rfl rfl ?_
  refine V_as rfl rfl ?_
  refine V_as rfl rfl ?_
  refine V_to (fun _ _ => rfl) ?_
  obtain rfl := Option.some.inj hm
  refine C_ret ?_
  try simp only [↓inBlock_ret, ↓then_ret]
  exact retQ rfl (Res.two Tryz.results101 rfl rfl) ⟨rfl, hK.kp⟩

set_option maxRecDepth 4000 in
set_option maxHeartbeats 4000000 in
theorem portref2_ShiftsIn_c (w : World) {A : Nat → Prop} (hA : ∀ b, w.heap.size ≤ b → A b) (c : cal_Calendar) (v_c0 : Value) (h_c0 : Sl A w v_c0 c.zone.changes) (v_c1 : Value) (h_c1 : Sl A w v_c1 c.week) (v_c2 : Value) (h_c2 : Sl A w v_c2 c.specials) (day : Int) {r : (List cal_Shift)} (hm : portref2_ShiftsIn c day = some r) : Ret Tryz.prog 103 #[.agg #[.int .i64 c.zone.offset, v_c0, v_c1, v_c2], .int .i64 day] w fun v w' => ∃ s0, v = s0 ∧ Sl A w' s0 r ∧ Kp Dw w w' := by
  unfold portref2_ShiftsIn at hm
  refine enter Tryz.func103 rfl Tryz.ntmps103 rfl ?_
  have hA0 := hA
  have hB := Nat.le_refl w.heap.size
  have hK : Tr Dw w.heap.size A w A w := Tr.refl (Dw := Dw) hA
  have hH : Hp w.heap.size A w [] := Hp.nil
  refine C_seq ?_
  refine C_region ?_
  refine V_box rfl rfl ?_
  intro b7 w9 h10
  have hk12 := h10.kp (Dw := Dw)
  have h11 : El (α := cal_Calendar) A w9 b7 0 c := h10.el hA ⟨[.int .i64 c.zone.offset, v_c0], _, rfl, ⟨[.int .i64 c.zone.offset], _, rfl, rfl, ⟨_, rfl, h_c0⟩⟩, ⟨[v_c1], _, rfl, ⟨_, rfl, h_c1⟩, ⟨_, rfl, h_c2⟩⟩⟩
  have ht13 := Kp.tr hk12 hA hB
  replace hH := Hp.kp hH hk12
  replace h_c0 := Sl.tr h_c0 ht13
  replace h_c1 := Sl.tr h_c1 ht13
  replace h_c2 := Sl.tr h_c2 ht13
  replace hK := Tr.trans hK ht13
  replace hB := Nat.le_trans hB ht13.ex.size
  replace hA := ht13.new
  refine V_as rfl rfl ?_
  refine V_to (fun _ _ => rfl) ?_
  refine C_seq ?_
  refine C_seq ?_
  refine C_region ?_
  have h14 := El_cal_Calendar_2 h11
  refine V_y (Y_fieldAddr Tryz.underlying66 rfl Tryz.sizeOf64 (by decide) rfl) rfl rfl rfl ?_
  obtain ⟨v15, h16, h17⟩ := El.list h14
  refine V_y (Y_load h16 Tryz.isAgg64 rfl) rfl rfl rfl ?_
  refine V_y (Y_lenSl h17 rfl Tryz.underlying64 rfl) rfl rfl rfl ?_
  refine V_mv rfl rfl ?_
  refine V_to (fun _ _ => rfl) ?_
  have hn38 := Sl.le h17
  obtain ⟨o18, ho18, hm⟩ := Option.bind_eq_some_iff.1 hm
  refine C_cutG (ι := (Unit × (Nat → Prop))) (fun ⟨s19, A25⟩ => [(1, .int .i64 day), (2, .pointer (some ⟨b7, 0, none⟩))]) (fun ⟨s19, A25⟩ => fun w' => o18 = .fin s19 ∧ Hp w.heap.size A25 w' ([]) ∧ Tr Dw w.heap.size A w9 A25 w') ?_ ?_
  · refine C_block ?_
    refine C_range ho18 (fun k21 _ a w' => ∃ i : (Nat → Prop), Has ⟨52, [], none⟩ a ([(1, .int .i64 day), (2, .pointer (some ⟨b7, 0, none⟩)), (13, v15), (14, .int .i64 (c.specials.length : Int)), (15, .int .i64 (k21 : Int))]) ∧ Hp w.heap.size i w' ([]) ∧ Tr Dw w.heap.size A w9 i w') (fun a ha => ⟨A, ha.sub ⟨rfl, rfl, rfl, rfl, rfl, trivial⟩, ⟨hH, Tr.refl (Dw := Dw) hA⟩⟩) ?_
    rintro K k21 _ a w28 ⟨A29, ha66, hH30, hr20⟩ hle34 K37 h36
    refine C_of ?_ ha66
    replace h11 := El.tr h11 hr20
    replace h17 := Sl.tr h17 hr20
    replace hK := Tr.trans hK hr20
    replace hB := Nat.le_trans hB hr20.ex.size
    replace hA := hr20.new
    replace hH : Hp w.heap.size A29 w28 ([]) := hH30
    refine C_seq (C_region (V_y (Y_lss rfl rfl) rfl rfl rfl (V_to (fun _ _ => rfl) ?_)))
    refine C_seq ?_
    refine C_cond rfl (fun hc39 => ?_) (fun hc39 => ?_)
    · have hlt35 := lt_of_dec hc39
      obtain ⟨x31, h32, h33⟩ := K37 hlt35
      refine C_skip_to (fun _ _ => rfl) ?_
      refine C_seq ?_
      refine C_block ?_
      refine C_seq ?_
      refine C_region ?_
      obtain ⟨x40, hx40, h32⟩ := Option.bind_eq_some_iff.1 h32
      refine V_indexAddr h17 hx40 Tryz.underlying64 Tryz.sizeOf88 rfl rfl rfl ?_
      intro b41 o42 h43
      obtain ⟨v44, h46, h45⟩ := El_cal_Special h43
      refine V_y (Y_loadA h46 Tryz.isAgg88 Tryz.sizeOf88 rfl) rfl rfl rfl ?_
      refine V_alloc Tryz.zeroValue88 rfl ?_
      intro b47 w48 h49
      have h54 : (v44).oneCell' = true := by obtain ⟨_, _, e, _⟩ := Sl.form h45; rw [e]; rfl
      refine V_storeNew h49 Tryz.sizeOf88 rfl rfl rfl rfl (by exact (List.forall_mem_cons.2 ⟨rfl, (List.forall_mem_cons.2 ⟨h54, (fun _ h => nomatch h)⟩)⟩)) ?_
      intro w50 h51
      have hk56 := h51.kp (Dw := Dw)
      have h55 : El (α := cal_Special) A29 w50 b47 0 x40 := h51.el hA ⟨[.int .i64 x40.day], _, rfl, rfl, ⟨_, rfl, h45⟩⟩
      have ht57 := Kp.tr hk56 hA hB
      replace hH := Hp.kp hH hk56
      replace h11 := El.tr h11 ht57
      replace h17 := Sl.tr h17 ht57
      replace h43 := El.tr h43 ht57
      replace h45 := Sl.tr h45 ht57
      replace hK := Tr.trans hK ht57
      replace hr20 := Tr.trans hr20 ht57
      replace hB := Nat.le_trans hB ht57.ex.size
      replace hA := ht57.new
      refine V_to (fun _ _ => rfl) ?_
      refine C_seq ?_
      refine C_region ?_
      have h58 := El_cal_Special_0 h55
      refine V_y (Y_fieldAddr Tryz.underlying88 rfl Tryz.sizeOf3 (by decide) rfl) rfl rfl rfl ?_
      refine V_y (Y_load (El.int h58) Tryz.isAgg3 rfl) rfl rfl rfl ?_
      refine V_mv rfl rfl ?_
      refine V_y (Y_eql rfl rfl) rfl rfl rfl ?_
      refine V_to (fun _ _ => rfl) ?_
      refine C_cond rfl (fun hc59 => ?_) (fun hc59 => ?_)
      · rw [if_pos hc59] at h32
        refine C_seq ?_
        refine C_region ?_
        have h60 := El_cal_Special_1 h55
        refine V_y (Y_fieldAddr Tryz.underlying88 rfl Tryz.sizeOf63 (by decide) rfl) rfl rfl rfl ?_
        obtain ⟨v61, h62, h63⟩ := El.list h60
        refine V_y (Y_load h62 Tryz.isAgg63 rfl) rfl rfl rfl ?_
        refine V_as rfl rfl ?_
        refine V_to (fun _ _ => rfl) ?_
        obtain rfl := Option.some.inj h32
        obtain rfl := (h33 : Lp.rt _ = _)
        rw [Lp.andThen_rt] at hm
        obtain rfl := Option.some.inj hm
        refine C_ret ?_
        try simp only [↓inBlock_ret, ↓then_ret]
        exact retQ rfl (Res.one Tryz.results103 rfl) ⟨v61, rfl, (Sl.out (Dw := Dw) h63 hA0 hK), hK.kp⟩
      · rw [if_neg (nt hc59)] at h32
        refine C_skip_to (fun _ _ => rfl) ?_
        refine C_region ?_
        refine V_y (Y_addI rfl rfl) rfl rfl rfl ?_
        refine V_mv rfl rfl ?_
        obtain rfl := Option.some.inj h32
        refine V_end (fun a ha64 => ?_)
        exact ⟨(), hlt35, h33, ⟨A29, ha64.sub ⟨rfl, rfl, rfl, rfl, (congrArg (fun z => some (Value.int .i64 z)) (w64_succ hlt35 hn38)), trivial⟩, ⟨hH, hr20⟩⟩⟩
    · refine C_exit (fun a ha65 => ?_)
      exact ⟨((), A29), ha65.sub ⟨rfl, rfl, trivial⟩, ⟨(h36 (eq_of_dec hle34 hc39)).symm, hH, hr20⟩⟩
  rintro ⟨s19, A25⟩ w22 ⟨rfl, hH26, hk23⟩ a ha24
  rw [Lp.andThen_fin] at hm
  replace h11 := El.tr h11 hk23
  replace hK := Tr.trans hK hk23
  replace hB := Nat.le_trans hB hk23.ex.size
  replace hA := hk23.new
  replace hH : Hp w.heap.size A25 w22 ([]) := hH26
  refine C_at (n := ⟨52, [], none⟩) (fun _ _ => rfl) ?_ ha24
  refine C_seq ?_
  refine C_region ?_
  refine V_as rfl rfl ?_
  refine V_to (fun _ _ => rfl) ?_
  refine C_seq ?_
  refine C_region ?_
  refine V_mv rfl rfl ?_
  obtain ⟨x67, hx67, hm⟩ := Option.bind_eq_some_iff.1 hm
  refine V_call Tryz.call101 rfl rfl rfl rfl (portref2_floorDiv_c (Dw := Dw) w22 hA day 7 hx67) ?_
  rintro _ w68 ⟨rfl, hk69⟩
  have ht70 := Kp.tr hk69 hA hB
  replace hH := Hp.kp hH hk69
  replace h11 := El.tr h11 ht70
  replace hK := Tr.trans hK ht70
  replace hB := Nat.le_trans hB ht70.ex.size
  replace hA := ht70.new
  refine V_mv rfl rfl ?_
  refine V_y (Y_extract rfl rfl) rfl rfl rfl ?_
  refine V_y (Y_extract rfl rfl) rfl rfl rfl ?_
  refine V_as rfl rfl ?_
  refine V_as rfl rfl ?_
  refine V_to (fun _ _ => rfl) ?_
  refine C_seq ?_
  refine C_seq ?_
  refine C_region ?_
  have h71 := El_cal_Calendar_1 h11
  refine V_y (Y_fieldAddr Tryz.underlying66 rfl Tryz.sizeOf63 (by decide) rfl) rfl rfl rfl ?_
  obtain ⟨v72, h73, h74⟩ := El.list h71
  refine V_y (Y_load h73 Tryz.isAgg63 rfl) rfl rfl rfl ?_
  refine V_y (Y_lenSl h74 rfl Tryz.underlying63 rfl) rfl rfl rfl ?_
  refine V_mv rfl rfl ?_
  refine V_to (fun _ _ => rfl) ?_
  replace hH : Hp w.heap.size A25 w68 (obS (α := cal_Shift) 118 (.slice none 0 0) ([] : (List cal_Shift)) :: []) := Hp.addNil (α := cal_Shift) (e := 118) hH
  have hn99 := Sl.le h74
  obtain ⟨o75, ho75, hm⟩ := Option.bind_eq_some_iff.1 hm
  refine C_cutG (ι := ((List cal_Shift) × Value × (Nat → Prop))) (fun ⟨s76, v82, A84⟩ => [(7, v82)]) (fun ⟨s76, v82, A84⟩ => fun w' => o75 = .fin s76 ∧ Hp w.heap.size A84 w' (obS (α := cal_Shift) 118 v82 s76 :: []) ∧ Tr Dw w.heap.size A25 w68 A84 w') ?_ ?_
  · refine C_block ?_
    refine C_range ho75 (fun k78 s86 a w' => ∃ i : (Value × (Nat → Prop)), Has ⟨52, [], none⟩ a ([(7, i.1), (9, .int .i64 x67.2), (32, v72), (33, .int .i64 (c.week.length : Int)), (34, .int .i64 (k78 : Int))]) ∧ Hp w.heap.size i.2 w' (obS (α := cal_Shift) 118 i.1 s86 :: []) ∧ Tr Dw w.heap.size A25 w68 i.2 w') (fun a ha => ⟨(.slice none 0 0, A25), ha.sub ⟨rfl, rfl, rfl, rfl, rfl, trivial⟩, ⟨hH, Tr.refl (Dw := Dw) hA⟩⟩) ?_
    rintro K k78 s86 a w87 ⟨⟨v88, A90⟩, ha154, hH91, hr77⟩ hle95 K98 h97
    refine C_of ?_ ha154
    replace h74 := Sl.tr h74 hr77
    replace hK := Tr.trans hK hr77
    replace hB := Nat.le_trans hB hr77.ex.size
    replace hA := hr77.new
    replace hH : Hp w.heap.size A90 w87 (obS (α := cal_Shift) 118 v88 s86 :: []) := hH91
    refine C_seq (C_region (V_y (Y_lss rfl rfl) rfl rfl rfl (V_to (fun _ _ => rfl) ?_)))
    refine C_seq ?_
    refine C_cond rfl (fun hc100 => ?_) (fun hc100 => ?_)
    · have hlt96 := lt_of_dec hc100
      obtain ⟨x92, h93, h94⟩ := K98 hlt96
      refine C_skip_to (fun _ _ => rfl) ?_
      refine C_seq ?_
      obtain ⟨s102, ho101, h93⟩ := Option.bind_eq_some_iff.1 h93
      refine C_cutG (ι := (Value × (Nat → Prop))) (fun ⟨v104, A109⟩ => [(7, v104), (9, .int .i64 x67.2), (32, v72), (33, .int .i64 (c.week.length : Int)), (34, .int .i64 (k78 : Int))]) (fun ⟨v104, A109⟩ => fun w' => Hp w.heap.size A109 w' (obS (α := cal_Shift) 118 v104 s102 :: []) ∧ Tr Dw w.heap.size A90 w87 A109 w') ?_ ?_
      · have hr103 : Tr Dw w.heap.size A90 w87 A90 w87 := Tr.refl (Dw := Dw) hA
        refine C_block ?_
        refine C_seq ?_
        refine C_region ?_
        obtain ⟨x111, hx111, ho101⟩ := Option.bind_eq_some_iff.1 ho101
        refine V_indexAddr h74 hx111 Tryz.underlying63 Tryz.sizeOf118 rfl rfl rfl ?_
        intro b112 o113 h114
        obtain ⟨h115, _⟩ := El_cal_Shift h114
        refine V_y (Y_loadA h115 Tryz.isAgg118 Tryz.sizeOf118 rfl) rfl rfl rfl ?_
        refine V_alloc Tryz.zeroValue118 rfl ?_
        intro b116 w117 h118
        refine V_storeNew h118 Tryz.sizeOf118 rfl rfl rfl rfl (by exact (List.forall_mem_cons.2 ⟨rfl, (List.forall_mem_cons.2 ⟨rfl, (List.forall_mem_cons.2 ⟨rfl, (fun _ h => nomatch h)⟩)⟩)⟩)) ?_
        intro w119 h120
        have hk122 := h120.kp (Dw := Dw)
        have h121 : El (α := cal_Shift) A90 w119 b116 0 x111 := h120.el hA ⟨[.int .i64 x111.day], _, rfl, rfl, ⟨[.int .i64 x111.from_], _, rfl, rfl, rfl⟩⟩
        have ht123 := Kp.tr hk122 hA hB
        replace hH := Hp.kp hH hk122
        replace h74 := Sl.tr h74 ht123
        replace h114 := El.tr h114 ht123
        replace hK := Tr.trans hK ht123
        replace hr77 := Tr.trans hr77 ht123
        replace hr103 := Tr.trans hr103 ht123
        replace hB := Nat.le_trans hB ht123.ex.size
        replace hA := ht123.new
        refine V_to (fun _ _ => rfl) ?_
        refine C_seq ?_
        refine C_region ?_
        have h124 := El_cal_Shift_0 h121
        refine V_y (Y_fieldAddr Tryz.underlying118 rfl Tryz.sizeOf3 (by decide) rfl) rfl rfl rfl ?_
        refine V_y (Y_load (El.int h124) Tryz.isAgg3 rfl) rfl rfl rfl ?_
        refine V_mv rfl rfl ?_
        refine V_y (Y_eql rfl rfl) rfl rfl rfl ?_
        refine V_to (fun _ _ => rfl) ?_
        obtain ⟨s126, ho125, ho101⟩ := Option.bind_eq_some_iff.1 ho101
        refine C_cutG (ι := (Value × (Nat → Prop))) (fun ⟨v128, A133⟩ => [(7, v128), (9, .int .i64 x67.2), (32, v72), (33, .int .i64 (c.week.length : Int)), (34, .int .i64 (k78 : Int))]) (fun ⟨v128, A133⟩ => fun w' => Hp w.heap.size A133 w' (obS (α := cal_Shift) 118 v128 s126 :: []) ∧ Tr Dw w.heap.size A90 w119 A133 w') ?_ ?_
        · have hr127 : Tr Dw w.heap.size A90 w119 A90 w119 := Tr.refl (Dw := Dw) hA
          refine C_cond rfl (fun hc135 => ?_) (fun hc135 => ?_)
          · rw [if_pos hc135] at ho125
            refine C_region ?_
            refine V_mv rfl rfl ?_
            have h136 := El_cal_Shift_1 h121
            refine V_y (Y_fieldAddr Tryz.underlying118 rfl Tryz.sizeOf3 (by decide) rfl) rfl rfl rfl ?_
            refine V_y (Y_load (El.int h136) Tryz.isAgg3 rfl) rfl rfl rfl ?_
            have h137 := El_cal_Shift_2 h121
            refine V_y (Y_fieldAddr Tryz.underlying118 rfl Tryz.sizeOf3 (by decide) rfl) rfl rfl rfl ?_
            refine V_y (Y_load (El.int h137) Tryz.isAgg3 rfl) rfl rfl rfl ?_
            refine V_y (Y_build Tryz.underlying118 Tryz.zeroValue118 (Tryz_places118 _ Tryz.underlying118) rfl (by with_unfolding_all rfl)) rfl rfl rfl ?_
            refine V_buildSlice (Dw := Dw) (cells := #[.int .i64 0, .int .i64 x111.from_, .int .i64 x111.to_]) (l := ([(⟨0, x111.from_, x111.to_⟩ : cal_Shift)] : List cal_Shift)) (len := 1) Tryz.underlying63 Tryz.sizeOf118 Tryz.zeroValue118 rfl (by kernel_rfl) (show (1 * 3 : Nat) ≠ 0 by decide) (show (1 * 3 : Nat) ≤ 2 ^ 24 by decide) hA ⟨[.int .i64 0, .int .i64 x111.from_, .int .i64 x111.to_], _, rfl, ⟨[.int .i64 0], _, rfl, rfl, ⟨[.int .i64 x111.from_], _, rfl, rfl, rfl⟩⟩, rfl⟩ rfl rfl ?_
            intro v138 w139 hk141 h140
            have ht142 := Kp.tr hk141 hA hB
            replace hH := Hp.kp hH hk141
            replace h74 := Sl.tr h74 ht142
            replace h121 := El.tr h121 ht142
            replace h136 := El.tr h136 ht142
            replace h137 := El.tr h137 ht142
            replace hK := Tr.trans hK ht142
            replace hr77 := Tr.trans hr77 ht142
            replace hr103 := Tr.trans hr103 ht142
            replace hr127 := Tr.trans hr127 ht142
            replace hB := Nat.le_trans hB ht142.ex.size
            replace hA := ht142.new
            obtain ⟨x143, hx143, ho125⟩ := Option.bind_eq_some_iff.1 ho125
            refine V_appendH (Dw := Dw) (e := 118) (v := v88) (l := s86) (ti := Tryz.t118) (bytes := 24) (lim := 5864062014805) hH (i := 0) rfl h140 hx143 Tryz.underlying63 Tryz_info118 rfl rfl rfl rfl (by decide) (by decide) (by decide) hB hA rfl rfl rfl ?_
            intro v144 w145 A146 hH147 ht148
            replace h74 := Sl.tr h74 ht148
            replace h121 := El.tr h121 ht148
            replace h136 := El.tr h136 ht148
            replace h137 := El.tr h137 ht148
            replace h140 := Sl.tr h140 ht148
            replace hK := Tr.trans hK ht148
            replace hr77 := Tr.trans hr77 ht148
            replace hr103 := Tr.trans hr103 ht148
            replace hr127 := Tr.trans hr127 ht148
            replace hB := Nat.le_trans hB ht148.ex.size
            replace hA := ht148.new
            replace hH : Hp w.heap.size A146 w145 (obS (α := cal_Shift) 118 v144 x143 :: []) := hH147
            refine V_as rfl rfl ?_
            obtain rfl := Option.some.inj ho125
            refine V_end (fun a ha149 => ?_)
            exact ⟨(v144, A146), ha149.sub ⟨rfl, rfl, rfl, rfl, rfl, trivial⟩, ⟨hH, hr127⟩⟩
          · rw [if_neg (nt hc135)] at ho125
            obtain rfl := Option.some.inj ho125
            refine C_skip (fun a ha150 => ?_)
            exact ⟨(v88, A90), ha150.sub ⟨rfl, rfl, rfl, rfl, rfl, trivial⟩, ⟨hH, hr127⟩⟩
        rintro ⟨v128, A133⟩ w130 ⟨hH134, hk131⟩ a ha132
        replace h74 := Sl.tr h74 hk131
        replace hK := Tr.trans hK hk131
        replace hr77 := Tr.trans hr77 hk131
        replace hr103 := Tr.trans hr103 hk131
        replace hB := Nat.le_trans hB hk131.ex.size
        replace hA := hk131.new
        replace hH : Hp w.heap.size A133 w130 (obS (α := cal_Shift) 118 v128 s126 :: []) := hH134
        obtain rfl := Option.some.inj ho101
        exact ⟨(v128, A133), ha132.sub ⟨rfl, rfl, rfl, rfl, rfl, trivial⟩, ⟨hH, hr103⟩⟩
      rintro ⟨v104, A109⟩ w106 ⟨hH110, hk107⟩ a ha108
      replace h74 := Sl.tr h74 hk107
      replace hK := Tr.trans hK hk107
      replace hr77 := Tr.trans hr77 hk107
      replace hB := Nat.le_trans hB hk107.ex.size
      replace hA := hk107.new
      replace hH : Hp w.heap.size A109 w106 (obS (α := cal_Shift) 118 v104 s102 :: []) := hH110
      refine C_at (n := ⟨52, [], none⟩) (fun _ _ => rfl) ?_ ha108
      refine C_region ?_
      refine V_y (Y_addI rfl rfl) rfl rfl rfl ?_
      refine V_mv rfl rfl ?_
      obtain rfl := Option.some.inj h93
      refine V_end (fun a ha152 => ?_)
      exact ⟨s102, hlt96, h94, ⟨(v104, A109), ha152.sub ⟨rfl, rfl, rfl, rfl, (congrArg (fun z => some (Value.int .i64 z)) (w64_succ hlt96 hn99)), trivial⟩, ⟨hH, hr77⟩⟩⟩
    · refine C_exit (fun a ha153 => ?_)
      exact ⟨(s86, v88, A90), ha153.sub ⟨rfl, trivial⟩, ⟨(h97 (eq_of_dec hle95 hc100)).symm, hH, hr77⟩⟩
  rintro ⟨s76, v82, A84⟩ w79 ⟨rfl, hH85, hk80⟩ a ha81
  rw [Lp.andThen_fin] at hm
  replace hK := Tr.trans hK hk80
  replace hB := Nat.le_trans hB hk80.ex.size
  replace hA := hk80.new
  replace hH : Hp w.heap.size A84 w79 (obS (α := cal_Shift) 118 v82 s76 :: []) := hH85
  refine C_at (n := ⟨52, [], none⟩) (fun _ _ => rfl) ?_ ha81
  refine C_seq ?_
  refine C_region ?_
  refine V_mv rfl rfl ?_
  refine V_as rfl rfl ?_
  refine V_to (fun _ _ => rfl) ?_
  obtain rfl := Option.some.inj hm
  obtain ⟨A155, ht156, h157, hH158⟩ := Hp.freeze (Dw := Dw) (α := cal_Shift) (v := v82) (l := s76) hH (i := 0) rfl hA
  replace hK := Tr.trans hK ht156
  replace hB := Nat.le_trans hB ht156.ex.size
  replace hA := ht156.new
  replace hH : Hp w.heap.size A155 w79 ([]) := hH158
  refine C_ret ?_
  try simp only [↓inBlock_ret, ↓then_ret]
  exact retQ rfl (Res.one Tryz.results103 rfl) ⟨v82, rfl, (Sl.out (Dw := Dw) h157 hA0 hK), hK.kp⟩

set_option maxRecDepth 4000 in
set_option maxHeartbeats 4000000 in
theorem portref2_NewClock_c (w : World) {A : Nat → Prop} {B : Nat} (hB : B ≤ w.heap.size) (hA : ∀ b, w.heap.size ≤ b → A b) (c : cal_Calendar) (v0 : Value) (h0 : Sl A w v0 c.zone.changes) (v1 : Value) (h1 : Sl A w v1 c.week) (v2 : Value) (h2 : Sl A w v2 c.specials) {L : List Ob} (hH : Hp B A w L) {r : cal_Calendar} (hm : portref2_NewClock c = some r) : Ret Tryz.prog 44 #[.agg #[.int .i64 c.zone.offset, v0, v1, v2]] w fun v w' => ∃ b, ∃ A1 : Nat → Prop, v = .pointer (some ⟨b, 0, none⟩) ∧ Hp B A1 w' (obCk 109 portref2_ShiftsIn b r :: L) ∧ Tr Dw B A w A1 w' := by
  obtain rfl := Option.some.inj hm
  refine enter Tryz.func44 rfl Tryz.ntmps44 rfl ?_
  have hK : Tr Dw B A w A w := Tr.refl (Dw := Dw) hA
  refine C_seq ?_
  refine C_region ?_
  refine V_box rfl rfl ?_
  intro b1 w1 n1
  have e1 : El (α := cal_Calendar) A w1 b1 0 c := n1.el hA ⟨[.int .i64 c.zone.offset, v0], _, rfl, ⟨[.int .i64 c.zone.offset], _, rfl, rfl, ⟨_, rfl, h0⟩⟩, ⟨[v1], _, rfl, ⟨_, rfl, h1⟩, ⟨_, rfl, h2⟩⟩⟩
  have t1 := Kp.tr (Dw := Dw) n1.kp hA hB
  replace hH := Hp.kp (Dw := Dw) hH n1.kp
  replace hK := Tr.trans hK t1
  replace hB := Nat.le_trans hB t1.ex.size
  replace hA := t1.new
  refine V_as rfl rfl ?_
  refine V_to (fun _ _ => rfl) ?_
  refine C_seq ?_
  refine C_region ?_
  obtain ⟨_, _, cs, hr, hat⟩ := e1
  have hr0 := hr
  obtain ⟨u0, u1, u2, rfl, s0, s1, s2⟩ := Rep_cal_Calendar hr0
  refine V_y (Y_loadA hat Tryz.isAgg66 Tryz.sizeOf66 rfl) rfl rfl rfl ?_
  refine V_makeMapF (Dw := Dw) (portref2_ShiftsIn c) hH hB hA rfl ?_
  intro mb w2 A2 h2 t2
  replace hr := GoT.keep hr t2.ex
  replace hK := Tr.trans hK t2
  replace hB := Nat.le_trans hB t2.ex.size
  replace hA := t2.new
  refine V_y (Y_build Tryz.underlying109 Tryz.zeroValue109 (Tryz_places109 _ Tryz.underlying109) rfl (by with_unfolding_all rfl)) rfl rfl rfl ?_
  refine V_boxH (Dw := Dw) h2 rfl hB hA rfl ?_
  intro b3 w3 A3 h3 t3
  replace hr := GoT.keep hr t3.ex
  replace hK := Tr.trans hK t3
  refine V_as rfl rfl ?_
  refine V_to (fun _ _ => rfl) ?_
  have h4 : Hp B A3 w3 (ckL 109 portref2_ShiftsIn b3 c (mb, [.int .i64 c.zone.offset, u0, u1, u2]) ++ L) := h3.free (O' := obF (fun A w => GoT.rep A w [.int .i64 c.zone.offset, u0, u1, u2] c) (fun h he => GoT.keep h he)) ⟨rfl, hr⟩
  refine C_ret ?_
  try simp only [↓inBlock_ret, ↓then_ret]
  exact retQ rfl (Res.one Tryz.results44 rfl) ⟨b3, A3, rfl, Hp.pack _ h4, hK⟩

set_option maxRecDepth 4000 in
set_option maxHeartbeats 4000000 in
theorem portref2_newMeter_c (w : World) {A : Nat → Prop} {B : Nat} (hB : B ≤ w.heap.size) (hA : ∀ b, w.heap.size ≤ b → A b) (cals : (List cal_Calendar)) (v_cals : Value) (h_cals : Sl A w v_cals cals) {L : List Ob} (hH : Hp B A w (L)) {r : portref2_meter} (hm : portref2_newMeter cals = some r) : Ret Tryz.prog 23 #[v_cals] w fun v w' => ∃ b0, ∃ p0, ∃ A1 : Nat → Prop, v = .pointer (some ⟨b0, 0, none⟩) ∧ Hp B A1 w' (obC b0 [p0] 81 :: obPS (obCk 109 portref2_ShiftsIn) 82 p0 r.clocks :: L) ∧ Tr Dw B A w A1 w' := by
  unfold portref2_newMeter at hm
  refine enter Tryz.func23 rfl Tryz.ntmps23 rfl ?_
  have hK : Tr Dw B A w A w := Tr.refl (Dw := Dw) hA
  refine C_seq ?_
  refine C_region ?_
  refine V_as rfl rfl ?_
  refine V_to (fun _ _ => rfl) ?_
  refine C_seq ?_
  refine C_region ?_
  refine V_y (Y_build Tryz.underlying81 Tryz.zeroValue81 (Tryz_places81 _ Tryz.underlying81) rfl (by with_unfolding_all rfl)) rfl rfl rfl ?_
  refine V_boxH (Dw := Dw) (B := B) hH rfl hB hA rfl ?_
  intro b3 w4 A5 hH6 ht7
  replace h_cals := Sl.tr h_cals ht7
  replace hK := Tr.trans hK ht7
  replace hB := Nat.le_trans hB ht7.ex.size
  replace hA := ht7.new
  replace hH : Hp B A5 w4 (obC b3 [.slice none 0 0] 81 :: L) := hH6
  refine V_as rfl rfl ?_
  refine V_to (fun _ _ => rfl) ?_
  refine C_seq ?_
  refine C_seq ?_
  refine C_region ?_
  refine V_mv rfl rfl ?_
  refine V_y (Y_lenSl h_cals rfl Tryz.underlying23 rfl) rfl rfl rfl ?_
  refine V_mv rfl rfl ?_
  refine V_to (fun _ _ => rfl) ?_
  replace hH : Hp B A5 w4 (obPS (obCk 109 portref2_ShiftsIn) 82 (.slice none 0 0) ([] : (List cal_Calendar)) :: obC b3 [.slice none 0 0] 81 :: L) := Hp.psNil hH
  have hn32 := Sl.le h_cals
  obtain ⟨o8, ho8, hm⟩ := Option.bind_eq_some_iff.1 hm
  refine C_cutG (ι := (portref2_meter × Value × (Nat → Prop))) (fun ⟨s9, v15, A17⟩ => [(3, .pointer (some ⟨b3, 0, none⟩))]) (fun ⟨s9, v15, A17⟩ => fun w' => o8 = .fin s9 ∧ Hp B A17 w' (obPS (obCk 109 portref2_ShiftsIn) 82 v15 s9.clocks :: obC b3 [v15] 81 :: L) ∧ Tr Dw B A5 w4 A17 w') ?_ ?_
  · refine C_block ?_
    refine C_range ho8 (fun k11 s19 a w' => ∃ i : (Value × (Nat → Prop)), Has ⟨27, [], none⟩ a ([(3, .pointer (some ⟨b3, 0, none⟩)), (8, v_cals), (9, .int .i64 (cals.length : Int)), (10, .int .i64 (k11 : Int))]) ∧ Hp B i.2 w' (obPS (obCk 109 portref2_ShiftsIn) 82 i.1 s19.clocks :: obC b3 [i.1] 81 :: L) ∧ Tr Dw B A5 w4 i.2 w') (fun a ha => ⟨(.slice none 0 0, A5), ha.sub ⟨rfl, rfl, rfl, rfl, trivial⟩, ⟨hH, Tr.refl (Dw := Dw) hA⟩⟩) ?_
    rintro K k11 s19 a w20 ⟨⟨v21, A23⟩, ha100, hH24, hr10⟩ hle28 K31 h30
    refine C_of ?_ ha100
    replace h_cals := Sl.tr h_cals hr10
    replace hK := Tr.trans hK hr10
    replace hB := Nat.le_trans hB hr10.ex.size
    replace hA := hr10.new
    replace hH : Hp B A23 w20 (obPS (obCk 109 portref2_ShiftsIn) 82 v21 s19.clocks :: obC b3 [v21] 81 :: L) := hH24
    refine C_seq (C_region (V_y (Y_lss rfl rfl) rfl rfl rfl (V_to (fun _ _ => rfl) ?_)))
    refine C_seq ?_
    refine C_cond rfl (fun hc33 => ?_) (fun hc33 => ?_)
    · have hlt29 := lt_of_dec hc33
      obtain ⟨x25, h26, h27⟩ := K31 hlt29
      refine C_skip_to (fun _ _ => rfl) ?_
      refine C_seq ?_
      refine C_block ?_
      refine C_seq ?_
      refine C_region ?_
      obtain ⟨x34, hx34, h26⟩ := Option.bind_eq_some_iff.1 h26
      refine V_indexAddr h_cals hx34 Tryz.underlying23 Tryz.sizeOf66 rfl rfl rfl ?_
      intro b35 o36 h37
      obtain ⟨v38, v40, v42, h44, h39, h41, h43⟩ := El_cal_Calendar h37
      refine V_y (Y_loadA h44 Tryz.isAgg66 Tryz.sizeOf66 rfl) rfl rfl rfl ?_
      refine V_alloc Tryz.zeroValue66 rfl ?_
      intro b45 w46 h47
      have h52 : (v38).oneCell' = true := by obtain ⟨_, _, e, _⟩ := Sl.form h39; rw [e]; rfl
      have h55 : (v40).oneCell' = true := by obtain ⟨_, _, e, _⟩ := Sl.form h41; rw [e]; rfl
      have h58 : (v42).oneCell' = true := by obtain ⟨_, _, e, _⟩ := Sl.form h43; rw [e]; rfl
      refine V_storeNew h47 Tryz.sizeOf66 rfl rfl rfl rfl (by exact (List.forall_mem_cons.2 ⟨rfl, (List.forall_mem_cons.2 ⟨h52, (List.forall_mem_cons.2 ⟨h55, (List.forall_mem_cons.2 ⟨h58, (fun _ h => nomatch h)⟩)⟩)⟩)⟩)) ?_
      intro w48 h49
      have hk60 := h49.kp (Dw := Dw)
      have h59 : El (α := cal_Calendar) A23 w48 b45 0 x34 := h49.el hA ⟨[.int .i64 x34.zone.offset, v38], _, rfl, ⟨[.int .i64 x34.zone.offset], _, rfl, rfl, ⟨_, rfl, h39⟩⟩, ⟨[v40], _, rfl, ⟨_, rfl, h41⟩, ⟨_, rfl, h43⟩⟩⟩
      have ht61 := Kp.tr hk60 hA hB
      replace hH := Hp.kp hH hk60
      replace h_cals := Sl.tr h_cals ht61
      replace h37 := El.tr h37 ht61
      replace h39 := Sl.tr h39 ht61
      replace h41 := Sl.tr h41 ht61
      replace h43 := Sl.tr h43 ht61
      replace hK := Tr.trans hK ht61
      replace hr10 := Tr.trans hr10 ht61
      replace hB := Nat.le_trans hB ht61.ex.size
      replace hA := ht61.new
      refine V_to (fun _ _ => rfl) ?_
      refine C_region_ch (Dw := Dw) A23 12 [(1, 0), (1, 1), (1, 2), (1, 3), (0, 4), (1, 5), (2, 6), (2, 7), (4, 8), (1, 9), (1, 10), (4, 11)] Tryz_mixed (by kernel_rfl) (fun w62 hk63 => ?_)
      have ht64 := Kp.tr hk63 hA hB
      replace hH := Hp.kp hH hk63
      replace h_cals := Sl.tr h_cals ht64
      replace h59 := El.tr h59 ht64
      replace hK := Tr.trans hK ht64
      replace hr10 := Tr.trans hr10 ht64
      replace hB := Nat.le_trans hB ht64.ex.size
      replace hA := ht64.new
      refine CH_q2 (Dw := Dw) rfl ?_
      refine VQ_y (fun w' hw' => Y_move rfl) rfl rfl rfl ?_
      refine VQ_CH (Dw := Dw) ?_
      refine CH_q2 (Dw := Dw) rfl ?_
      refine VQ_y (fun w' hw' => Y_move rfl) rfl rfl rfl ?_
      refine VQ_CH (Dw := Dw) ?_
      refine CH_q2 (Dw := Dw) rfl ?_
      refine VQ_y (fun w' hw' => Y_nilCheck rfl) rfl rfl rfl ?_
      refine VQ_CH (Dw := Dw) ?_
      refine CH_q2 (Dw := Dw) rfl ?_
      refine VQ_y (fun w' hw' => Y_fieldAddrC (off2 := 0) Tryz.underlying81 rfl Tryz.sizeOf79 (by decide) rfl rfl) rfl rfl rfl ?_
      refine VQ_CH (Dw := Dw) ?_
      refine CH_q1 (Dw := Dw) rfl ?_
      refine VQ_y (fun w' hw' => Y_load ((World.cell?_of_block (hw'.block _ (World.block_lt_of_cell? _ _ (Hp.cell (j := 0) hH (i := 1) rfl rfl)))).trans (Hp.cell (j := 0) hH (i := 1) rfl rfl)) Tryz.isAgg79 rfl) rfl rfl rfl ?_
      refine VQ_CH (Dw := Dw) ?_
      refine CH_q2 (Dw := Dw) rfl ?_
      obtain ⟨v65, v67, v69, h71, h66, h68, h70⟩ := El_cal_Calendar h59
      refine VQ_y (fun w' hw' => Y_loadA (At.same h71 (hw'.2 _ h59.2.1 h59.1)) Tryz.isAgg66 Tryz.sizeOf66 rfl) rfl rfl rfl ?_
      refine VQ_CH (Dw := Dw) ?_
      refine CH_l1 (Dw := Dw) (k := 0) rfl ?_
      obtain ⟨x72, hx72, h26⟩ := Option.bind_eq_some_iff.1 h26
      refine V_call Tryz.call44 rfl rfl rfl rfl (portref2_NewClock_c (Dw := Dw) w62 (B := w62.heap.size) (Nat.le_refl _) hA x34 v65 h66 v67 h68 v69 h70 Hp.nil hx72) ?_
      rintro _ w74 ⟨b73, A75, rfl, hH76, ht77⟩
      have hk78 : Kp Dw w62 w74 := ht77.below
      have hH79 := Hp.join (Dw := Dw) hH hB ht77 hH76
      have ht80 := Tr.lower (Dw := Dw) ht77 hB
      replace h_cals := Sl.tr h_cals ht80
      replace h59 := El.tr h59 ht80
      replace h66 := Sl.tr h66 ht80
      replace h68 := Sl.tr h68 ht80
      replace h70 := Sl.tr h70 ht80
      replace hK := Tr.trans hK ht80
      replace hr10 := Tr.trans hr10 ht80
      replace hB := Nat.le_trans hB ht80.ex.size
      replace hA := ht80.new
      replace hH : Hp B A75 w74 (obCk 109 portref2_ShiftsIn b73 x72 :: obPS (obCk 109 portref2_ShiftsIn) 82 v21 s19.clocks :: obC b3 [v21] 81 :: L) := hH79
      refine V_CH (Dw := Dw) (hk78) ?_
      refine CH_l1 (Dw := Dw) (k := 0) rfl ?_
      refine V_buildSlice (Dw := Dw) (l := [(⟨b73⟩ : Ptr)]) (len := 1) Tryz.underlying79 Tryz.sizeOf82 Tryz.zeroValue82 rfl (by with_unfolding_all rfl) (by decide) (by decide) hA ⟨[.pointer (some ⟨b73, 0, none⟩)], _, rfl, rfl, rfl⟩ rfl rfl ?_
      intro v81 w82 hk84 h83
      have ht85 := Kp.tr hk84 hA hB
      replace hH := Hp.kp hH hk84
      replace h_cals := Sl.tr h_cals ht85
      replace h59 := El.tr h59 ht85
      replace h66 := Sl.tr h66 ht85
      replace h68 := Sl.tr h68 ht85
      replace h70 := Sl.tr h70 ht85
      replace hK := Tr.trans hK ht85
      replace hr10 := Tr.trans hr10 ht85
      replace hB := Nat.le_trans hB ht85.ex.size
      replace hA := ht85.new
      refine V_CH (Dw := Dw) (hk84) ?_
      refine CH_l1 (Dw := Dw) (k := 2) rfl ?_
      obtain ⟨x86, hx86, h26⟩ := Option.bind_eq_some_iff.1 h26
      refine V_appendPS (Dw := Dw) (f := obCk 109 portref2_ShiftsIn) (e := 82) (v := v21) (cs := s19.clocks) (c := x72) (ti := Tryz.t82) (bytes := 8) (lim := 17592186044416) hH (i := 0) rfl h83 hx86 Tryz.underlying79 Tryz_info82 rfl rfl rfl rfl (by decide) (by decide) hB hA rfl rfl rfl ?_
      intro v87 w88 A89 hH90 ht91
      replace h_cals := Sl.tr h_cals ht91
      replace h59 := El.tr h59 ht91
      replace h66 := Sl.tr h66 ht91
      replace h68 := Sl.tr h68 ht91
      replace h70 := Sl.tr h70 ht91
      replace h83 := Sl.tr h83 ht91
      replace hK := Tr.trans hK ht91
      replace hr10 := Tr.trans hr10 ht91
      replace hB := Nat.le_trans hB ht91.ex.size
      replace hA := ht91.new
      replace hH : Hp B A89 w88 (obPS (obCk 109 portref2_ShiftsIn) 82 v87 x86 :: obC b3 [v21] 81 :: L) := hH90
      refine V_CHw (Dw := Dw) ?_
      refine CH_q2 (Dw := Dw) rfl ?_
      refine VQ_y (fun w' hw' => Y_nilCheck rfl) rfl rfl rfl ?_
      refine VQ_CH (Dw := Dw) ?_
      refine CH_q2 (Dw := Dw) rfl ?_
      refine VQ_y (fun w' hw' => Y_fieldAddrC (off2 := 0) Tryz.underlying81 rfl Tryz.sizeOf79 (by decide) rfl rfl) rfl rfl rfl ?_
      refine VQ_CH (Dw := Dw) ?_
      refine CH_l1 (Dw := Dw) (k := 2) rfl ?_
      have h97 : (v87).oneCell' = true := Hp.psOne (f := obCk 109 portref2_ShiftsIn) (e := 82) (v := v87) (cs := x86) hH (i := 0) rfl
      refine V_storeC (Dw := Dw) (off := 0) (ds := [v87]) hH (i := 1) rfl Tryz.sizeOf79 (by rw [← Array.length_toList, Value.cells_one h97]; rfl) (Nat.le_of_ble_eq_true rfl) (by intro u hu; rw [Value.cells_one h97] at hu; simp at hu; subst hu; assumption) (by rw [Value.cells_one h97]; rfl) hB hA rfl rfl ?_
      intro w92 hH93 ht94
      replace h_cals := Sl.tr h_cals ht94
      replace h59 := El.tr h59 ht94
      replace h66 := Sl.tr h66 ht94
      replace h68 := Sl.tr h68 ht94
      replace h70 := Sl.tr h70 ht94
      replace h83 := Sl.tr h83 ht94
      replace hK := Tr.trans hK ht94
      replace hr10 := Tr.trans hr10 ht94
      replace hB := Nat.le_trans hB ht94.ex.size
      replace hA := ht94.new
      replace hH : Hp B A89 w92 (obPS (obCk 109 portref2_ShiftsIn) 82 v87 x86 :: obC b3 [v87] 81 :: L) := hH93
      refine V_CHw (Dw := Dw) ?_
      refine CH_tail (Dw := Dw) ?_
      show V _ _ _ _ [] _ _
      refine V_to (fun _ _ => rfl) ?_
      refine C_region ?_
      refine V_y (Y_addI rfl rfl) rfl rfl rfl ?_
      refine V_mv rfl rfl ?_
      obtain rfl := Option.some.inj h26
      refine V_end (fun a ha98 => ?_)
      exact ⟨(⟨x86⟩ : portref2_meter), hlt29, h27, ⟨(v87, A89), ha98.sub ⟨rfl, rfl, rfl, (congrArg (fun z => some (Value.int .i64 z)) (w64_succ hlt29 hn32)), trivial⟩, ⟨hH, hr10⟩⟩⟩
    · refine C_exit (fun a ha99 => ?_)
      exact ⟨(s19, v21, A23), ha99.sub ⟨rfl, trivial⟩, ⟨(h30 (eq_of_dec hle28 hc33)).symm, hH, hr10⟩⟩
  rintro ⟨s9, v15, A17⟩ w12 ⟨rfl, hH18, hk13⟩ a ha14
  rw [Lp.andThen_fin] at hm
  replace hK := Tr.trans hK hk13
  replace hB := Nat.le_trans hB hk13.ex.size
  replace hA := hk13.new
  replace hH : Hp B A17 w12 (obPS (obCk 109 portref2_ShiftsIn) 82 v15 s9.clocks :: obC b3 [v15] 81 :: L) := hH18
  refine C_at (n := ⟨27, [], none⟩) (fun _ _ => rfl) ?_ ha14
  refine C_seq ?_
  refine C_region ?_
  refine V_mv rfl rfl ?_
  refine V_as rfl rfl ?_
  refine V_to (fun _ _ => rfl) ?_
  obtain rfl := Option.some.inj hm
  replace hH : Hp B A17 w12 (obC b3 [v15] 81 :: obPS (obCk 109 portref2_ShiftsIn) 82 v15 s9.clocks :: L) := Hp.front hH (i := 1) rfl
  refine C_ret ?_
  try simp only [↓inBlock_ret, ↓then_ret]
  exact retQ rfl (Res.one Tryz.results23 rfl) ⟨b3, v15, A17, rfl, hH, hK⟩

set_option maxRecDepth 4000 in
set_option maxHeartbeats 4000000 in
theorem slices_IndexFunc_Llevel_Share_level_Share_c (w : World) {A : Nat → Prop} (hA : ∀ b, w.heap.size ≤ b → A b) (s : (List level_Share)) (v_s : Value) (h_s : Sl A w v_s s) (f : level_Share → Option Bool) (f_f : FuncId) (f_a f_c : Array Value) (f_call : ∀ (args : Array Value) (w : World), (callFunc f_f args).run Tryz.prog w = .ok (.enter f_f args) w) (f_spec : ∀ (w1 : World) (A1 : Nat → Prop), Tr Dw w.heap.size A w A1 w1 → (∀ b, w1.heap.size ≤ b → A1 b) → ∀ (y0 : level_Share) (r : Bool), f y0 = some r → Ret Tryz.prog f_f (f_a ++ #[.agg #[.int .i64 y0.level, .int .i64 y0.kind, .int .i64 y0.running, .int .i64 y0.kept, .int .i64 y0.broken, .int .i64 y0.gone]] ++ f_c) w1 fun v w' => v = .bool r ∧ Kp Dw w1 w') {r : Int} (hm : slices_IndexFunc_Llevel_Share_level_Share s f = some r) : Ret Tryz.prog 24 #[v_s, .func (.func f_f) f_a f_c] w fun v w' => v = .int .i64 r ∧ Kp Dw w w' := by
  unfold slices_IndexFunc_Llevel_Share_level_Share at hm
  refine enter Tryz.func24 rfl Tryz.ntmps24 rfl ?_
  have hA0 := hA
  have hB := Nat.le_refl w.heap.size
  have hK : Tr Dw w.heap.size A w A w := Tr.refl (Dw := Dw) hA
  have hH : Hp w.heap.size A w [] := Hp.nil
  refine C_seq ?_
  refine C_region ?_
  refine V_as rfl rfl ?_
  refine V_to (fun _ _ => rfl) ?_
  refine C_seq ?_
  refine C_seq ?_
  refine C_region ?_
  refine V_mv rfl rfl ?_
  refine V_y (Y_lenSl h_s rfl Tryz.underlying24 rfl) rfl rfl rfl ?_
  refine V_mv rfl rfl ?_
  refine V_to (fun _ _ => rfl) ?_
  have hn23 := Sl.le h_s
  obtain ⟨o3, ho3, hm⟩ := Option.bind_eq_some_iff.1 hm
  refine C_cutG (ι := (Unit × (Nat → Prop))) (fun ⟨s4, A10⟩ => []) (fun ⟨s4, A10⟩ => fun w' => o3 = .fin s4 ∧ Hp w.heap.size A10 w' ([]) ∧ Tr Dw w.heap.size A w A10 w') ?_ ?_
  · refine C_block ?_
    refine C_range ho3 (fun k6 _ a w' => ∃ i : (Nat → Prop), Has ⟨19, [], none⟩ a ([(0, v_s), (1, .func (.func f_f) f_a f_c), (7, .int .i64 (s.length : Int)), (8, .int .i64 (k6 : Int))]) ∧ Hp w.heap.size i w' ([]) ∧ Tr Dw w.heap.size A w i w') (fun a ha => ⟨A, ha.sub ⟨rfl, rfl, rfl, rfl, trivial⟩, ⟨hH, Tr.refl (Dw := Dw) hA⟩⟩) ?_
    rintro K k6 _ a w13 ⟨A14, ha37, hH15, hr5⟩ hle19 K22 h21
    refine C_of ?_ ha37
    replace h_s := Sl.tr h_s hr5
    replace hK := Tr.trans hK hr5
    replace hB := Nat.le_trans hB hr5.ex.size
    replace hA := hr5.new
    replace hH : Hp w.heap.size A14 w13 ([]) := hH15
    refine C_seq (C_region (V_y (Y_lss rfl rfl) rfl rfl rfl (V_to (fun _ _ => rfl) ?_)))
    refine C_seq ?_
    refine C_cond rfl (fun hc24 => ?_) (fun hc24 => ?_)
    · have hlt20 := lt_of_dec hc24
      obtain ⟨x16, h17, h18⟩ := K22 hlt20
      refine C_skip_to (fun _ _ => rfl) ?_
      refine C_seq ?_
      refine C_block ?_
      refine C_seq ?_
      refine C_region ?_
      refine V_mv rfl rfl ?_
      refine V_as rfl rfl ?_
      refine V_to (fun _ _ => rfl) ?_
      refine C_seq ?_
      refine C_region ?_
      refine V_mv rfl rfl ?_
      refine V_mv rfl rfl ?_
      refine V_mv rfl rfl ?_
      obtain ⟨x25, hx25, h17⟩ := Option.bind_eq_some_iff.1 h17
      refine V_indexAddr h_s hx25 Tryz.underlying24 Tryz.sizeOf32 rfl rfl rfl ?_
      intro b26 o27 h28
      obtain ⟨h29, _⟩ := El_level_Share h28
      refine V_y (Y_loadA h29 Tryz.isAgg32 Tryz.sizeOf32 rfl) rfl rfl rfl ?_
      obtain ⟨x30, hx30, h17⟩ := Option.bind_eq_some_iff.1 h17
      refine V_call f_call rfl rfl rfl rfl (f_spec w13 _ hK hA x25 _ hx30) ?_
      rintro _ w31 ⟨rfl, hk32⟩
      have ht33 := Kp.tr hk32 hA hB
      replace hH := Hp.kp hH hk32
      replace h_s := Sl.tr h_s ht33
      replace h28 := El.tr h28 ht33
      replace hK := Tr.trans hK ht33
      replace hr5 := Tr.trans hr5 ht33
      replace hB := Nat.le_trans hB ht33.ex.size
      replace hA := ht33.new
      refine V_to (fun _ _ => rfl) ?_
      refine C_cond rfl (fun hc34 => ?_) (fun hc34 => ?_)
      · rw [if_pos hc34] at h17
        refine C_seq ?_
        refine C_region ?_
        refine V_mv rfl rfl ?_
        refine V_as rfl rfl ?_
        refine V_to (fun _ _ => rfl) ?_
        obtain rfl := Option.some.inj h17
        obtain rfl := (h18 : Lp.rt _ = _)
        rw [Lp.andThen_rt] at hm
        obtain rfl := Option.some.inj hm
        refine C_ret ?_
        try simp only [↓inBlock_ret, ↓then_ret]
        exact retQ rfl (Res.one Tryz.results24 rfl) ⟨rfl, hK.kp⟩
      · rw [if_neg (nt hc34)] at h17
        refine C_skip_to (fun _ _ => rfl) ?_
        refine C_region ?_
        refine V_y (Y_addI rfl rfl) rfl rfl rfl ?_
        refine V_mv rfl rfl ?_
        obtain rfl := Option.some.inj h17
        refine V_end (fun a ha35 => ?_)
        exact ⟨(), hlt20, h18, ⟨A14, ha35.sub ⟨rfl, rfl, rfl, (congrArg (fun z => some (Value.int .i64 z)) (w64_succ hlt20 hn23)), trivial⟩, ⟨hH, hr5⟩⟩⟩
    · refine C_exit (fun a ha36 => ?_)
      exact ⟨((), A14), ha36.sub trivial, ⟨(h21 (eq_of_dec hle19 hc24)).symm, hH, hr5⟩⟩
  rintro ⟨s4, A10⟩ w7 ⟨rfl, hH11, hk8⟩ a ha9
  rw [Lp.andThen_fin] at hm
  replace hK := Tr.trans hK hk8
  replace hB := Nat.le_trans hB hk8.ex.size
  replace hA := hk8.new
  replace hH : Hp w.heap.size A10 w7 ([]) := hH11
  refine C_at (n := ⟨19, [], none⟩) (fun _ _ => rfl) ?_ ha9
  refine C_seq ?_
  refine C_region ?_
  refine V_as rfl rfl ?_
  refine V_to (fun _ _ => rfl) ?_
  obtain rfl := Option.some.inj hm
  refine C_ret ?_
  try simp only [↓inBlock_ret, ↓then_ret]
  exact retQ rfl (Res.one Tryz.results24 rfl) ⟨rfl, hK.kp⟩

set_option maxRecDepth 4000 in
set_option maxHeartbeats 4000000 in
theorem portref2_SharesOf_1_c (w : World) {A : Nat → Prop} (hA : ∀ b, w.heap.size ≤ b → A b) (s : level_Share) (p1 : level_Clock) (b_p1 : Nat) (h_p1 : El A w b_p1 0 p1) {r : Bool} (hm : portref2_SharesOf_1 s p1 = some r) : Ret Tryz.prog 25 #[.agg #[.int .i64 s.level, .int .i64 s.kind, .int .i64 s.running, .int .i64 s.kept, .int .i64 s.broken, .int .i64 s.gone], .pointer (some ⟨b_p1, 0, none⟩)] w fun v w' => v = .bool r ∧ Kp Dw w w' := by
  unfold portref2_SharesOf_1 at hm
  refine enter Tryz.func25 rfl Tryz.ntmps25 rfl ?_
  have hA0 := hA
  have hB := Nat.le_refl w.heap.size
  have hK : Tr Dw w.heap.size A w A w := Tr.refl (Dw := Dw) hA
  have hH : Hp w.heap.size A w [] := Hp.nil
  refine C_seq ?_
  refine C_region ?_
  refine V_box rfl rfl ?_
  intro b1 w2 h3
  have hk5 := h3.kp (Dw := Dw)
  have h4 : El (α := level_Share) A w2 b1 0 s := h3.el hA ⟨[.int .i64 s.level], _, rfl, rfl, ⟨[.int .i64 s.kind], _, rfl, rfl, ⟨[.int .i64 s.running], _, rfl, rfl, ⟨[.int .i64 s.kept], _, rfl, rfl, ⟨[.int .i64 s.broken], _, rfl, rfl, rfl⟩⟩⟩⟩⟩
  have ht6 := Kp.tr hk5 hA hB
  replace hH := Hp.kp hH hk5
  replace h_p1 := El.tr h_p1 ht6
  replace hK := Tr.trans hK ht6
  replace hB := Nat.le_trans hB ht6.ex.size
  replace hA := ht6.new
  refine V_as rfl rfl ?_
  refine V_to (fun _ _ => rfl) ?_
  refine C_seq ?_
  refine C_region ?_
  have h7 := El_level_Share_0 h4
  refine V_y (Y_fieldAddr Tryz.underlying32 rfl Tryz.sizeOf3 (by decide) rfl) rfl rfl rfl ?_
  refine V_y (Y_load (El.int h7) Tryz.isAgg3 rfl) rfl rfl rfl ?_
  have h8 := El_level_Clock_1 h_p1
  refine V_y (Y_fieldAddr Tryz.underlying39 rfl Tryz.sizeOf3 (by decide) rfl) rfl rfl rfl ?_
  refine V_y (Y_load (El.int h8) Tryz.isAgg3 rfl) rfl rfl rfl ?_
  refine V_y (Y_eql rfl rfl) rfl rfl rfl ?_
  refine V_mv rfl rfl ?_
  refine V_cut 6 (fun _ : Unit => [(15, .bool ((s.level == p1.level) && (s.kind == p1.kind)))]) (fun _ w' => w2 = w') ?_ ?_
  · simp only [List.take, List.drop]
    rcases Bool.eq_false_or_eq_true (s.level == p1.level) with hc9 | hc9
    · refine V_ge rfl rfl rfl hc9 ?_
      have h11 := El_level_Share_1 h4
      refine V_y (Y_fieldAddr Tryz.underlying32 rfl Tryz.sizeOf3 (by decide) rfl) rfl rfl rfl ?_
      refine V_ge rfl rfl rfl hc9 ?_
      refine V_y (Y_load (El.int h11) Tryz.isAgg3 rfl) rfl rfl rfl ?_
      refine V_ge rfl rfl rfl hc9 ?_
      have h12 := El_level_Clock_0 h_p1
      refine V_y (Y_fieldAddr Tryz.underlying39 rfl Tryz.sizeOf3 (by decide) rfl) rfl rfl rfl ?_
      refine V_ge rfl rfl rfl hc9 ?_
      refine V_y (Y_load (El.int h12) Tryz.isAgg3 rfl) rfl rfl rfl ?_
      refine V_ge rfl rfl rfl hc9 ?_
      refine V_y (Y_eql rfl rfl) rfl rfl rfl ?_
      refine V_y (Y_pick_te rfl hc9 rfl) rfl rfl rfl ?_
      exact V_end fun a ha => ⟨(), ha.sub ⟨(by rw [hc9]; rfl), trivial⟩, rfl⟩
    · refine V_gn rfl rfl rfl hc9 rfl rfl rfl ?_
      refine V_gn rfl rfl rfl hc9 rfl rfl rfl ?_
      refine V_gn rfl rfl rfl hc9 rfl rfl rfl ?_
      refine V_gn rfl rfl rfl hc9 rfl rfl rfl ?_
      refine V_gn rfl rfl rfl hc9 rfl rfl rfl ?_
      refine V_y (Y_pick_fe rfl hc9 rfl) rfl rfl rfl ?_
      exact V_end fun a ha => ⟨(), ha.sub ⟨(by rw [hc9]; rfl), trivial⟩, rfl⟩
  simp only [List.take, List.drop]
  rintro _ _ rfl
  refine V_as rfl rfl ?_
  refine V_to (fun _ _ => rfl) ?_
  obtain rfl := Option.some.inj hm
  refine C_ret ?_
  try simp only [↓inBlock_ret, ↓then_ret]
  exact retQ rfl (Res.one Tryz.results25 rfl) ⟨rfl, hK.kp⟩

set_option maxRecDepth 4000 in
set_option maxHeartbeats 4000000 in
theorem portref2_OffsetIn_c (w : World) {A : Nat → Prop} (hA : ∀ b, w.heap.size ≤ b → A b) (z : cal_Zone) (v_z : Value) (h_z : Sl A w v_z z.changes) (m : Int) {r : Int} (hm : portref2_OffsetIn z m = some r) : Ret Tryz.prog 102 #[.agg #[.int .i64 z.offset, v_z], .int .i64 m] w fun v w' => v = .int .i64 r ∧ Kp Dw w w' := by
  unfold portref2_OffsetIn at hm
  refine enter Tryz.func102 rfl Tryz.ntmps102 rfl ?_
  have hA0 := hA
  have hB := Nat.le_refl w.heap.size
  have hK : Tr Dw w.heap.size A w A w := Tr.refl (Dw := Dw) hA
  have hH : Hp w.heap.size A w [] := Hp.nil
  refine C_seq ?_
  refine C_region ?_
  refine V_box rfl rfl ?_
  intro b3 w4 h5
  have hk7 := h5.kp (Dw := Dw)
  have h6 : El (α := cal_Zone) A w4 b3 0 z := h5.el hA ⟨[.int .i64 z.offset], _, rfl, rfl, ⟨_, rfl, h_z⟩⟩
  have ht8 := Kp.tr hk7 hA hB
  replace hH := Hp.kp hH hk7
  replace h_z := Sl.tr h_z ht8
  replace hK := Tr.trans hK ht8
  replace hB := Nat.le_trans hB ht8.ex.size
  replace hA := ht8.new
  refine V_as rfl rfl ?_
  refine V_to (fun _ _ => rfl) ?_
  refine C_seq ?_
  refine C_region ?_
  have h9 := El_cal_Zone_0 h6
  refine V_y (Y_fieldAddr Tryz.underlying62 rfl Tryz.sizeOf3 (by decide) rfl) rfl rfl rfl ?_
  refine V_y (Y_load (El.int h9) Tryz.isAgg3 rfl) rfl rfl rfl ?_
  refine V_as rfl rfl ?_
  refine V_to (fun _ _ => rfl) ?_
  refine C_seq ?_
  refine C_seq ?_
  refine C_region ?_
  have h10 := El_cal_Zone_1 h6
  refine V_y (Y_fieldAddr Tryz.underlying62 rfl Tryz.sizeOf60 (by decide) rfl) rfl rfl rfl ?_
  obtain ⟨v11, h12, h13⟩ := El.list h10
  refine V_y (Y_load h12 Tryz.isAgg60 rfl) rfl rfl rfl ?_
  refine V_y (Y_lenSl h13 rfl Tryz.underlying60 rfl) rfl rfl rfl ?_
  refine V_mv rfl rfl ?_
  refine V_to (fun _ _ => rfl) ?_
  have hn34 := Sl.le h13
  obtain ⟨o14, ho14, hm⟩ := Option.bind_eq_some_iff.1 hm
  refine C_cutG (ι := (Int × (Nat → Prop))) (fun ⟨s15, A21⟩ => [(5, .int .i64 s15)]) (fun ⟨s15, A21⟩ => fun w' => o14 = .fin s15 ∧ Hp w.heap.size A21 w' ([]) ∧ Tr Dw w.heap.size A w4 A21 w') ?_ ?_
  · refine C_block ?_
    refine C_range ho14 (fun k17 s23 a w' => ∃ i : (Nat → Prop), Has ⟨25, [], none⟩ a ([(1, .int .i64 m), (5, .int .i64 s23), (11, v11), (12, .int .i64 (z.changes.length : Int)), (13, .int .i64 (k17 : Int))]) ∧ Hp w.heap.size i w' ([]) ∧ Tr Dw w.heap.size A w4 i w') (fun a ha => ⟨A, ha.sub ⟨rfl, rfl, rfl, rfl, rfl, trivial⟩, ⟨hH, Tr.refl (Dw := Dw) hA⟩⟩) ?_
    rintro K k17 s23 a w24 ⟨A25, ha71, hH26, hr16⟩ hle30 K33 h32
    refine C_of ?_ ha71
    replace h13 := Sl.tr h13 hr16
    replace hK := Tr.trans hK hr16
    replace hB := Nat.le_trans hB hr16.ex.size
    replace hA := hr16.new
    replace hH : Hp w.heap.size A25 w24 ([]) := hH26
    refine C_seq (C_region (V_y (Y_lss rfl rfl) rfl rfl rfl (V_to (fun _ _ => rfl) ?_)))
    refine C_seq ?_
    refine C_cond rfl (fun hc35 => ?_) (fun hc35 => ?_)
    · have hlt31 := lt_of_dec hc35
      obtain ⟨x27, h28, h29⟩ := K33 hlt31
      refine C_skip_to (fun _ _ => rfl) ?_
      refine C_seq ?_
      obtain ⟨s37, ho36, h28⟩ := Option.bind_eq_some_iff.1 h28
      refine C_cutG (ι := (Nat → Prop)) (fun (A42 : (Nat → Prop)) => [(1, .int .i64 m), (5, .int .i64 s37), (11, v11), (12, .int .i64 (z.changes.length : Int)), (13, .int .i64 (k17 : Int))]) (fun (A42 : (Nat → Prop)) => fun w' => Hp w.heap.size A42 w' ([]) ∧ Tr Dw w.heap.size A25 w24 A42 w') ?_ ?_
      · have hr38 : Tr Dw w.heap.size A25 w24 A25 w24 := Tr.refl (Dw := Dw) hA
        refine C_block ?_
        refine C_seq ?_
        refine C_region ?_
        obtain ⟨x44, hx44, ho36⟩ := Option.bind_eq_some_iff.1 ho36
        refine V_indexAddr h13 hx44 Tryz.underlying60 Tryz.sizeOf116 rfl rfl rfl ?_
        intro b45 o46 h47
        obtain ⟨h48, _⟩ := El_cal_Change h47
        refine V_y (Y_loadA h48 Tryz.isAgg116 Tryz.sizeOf116 rfl) rfl rfl rfl ?_
        refine V_alloc Tryz.zeroValue116 rfl ?_
        intro b49 w50 h51
        refine V_storeNew h51 Tryz.sizeOf116 rfl rfl rfl rfl (by exact (List.forall_mem_cons.2 ⟨rfl, (List.forall_mem_cons.2 ⟨rfl, (fun _ h => nomatch h)⟩)⟩)) ?_
        intro w52 h53
        have hk55 := h53.kp (Dw := Dw)
        have h54 : El (α := cal_Change) A25 w52 b49 0 x44 := h53.el hA ⟨[.int .i64 x44.at_], _, rfl, rfl, rfl⟩
        have ht56 := Kp.tr hk55 hA hB
        replace hH := Hp.kp hH hk55
        replace h13 := Sl.tr h13 ht56
        replace h47 := El.tr h47 ht56
        replace hK := Tr.trans hK ht56
        replace hr16 := Tr.trans hr16 ht56
        replace hr38 := Tr.trans hr38 ht56
        replace hB := Nat.le_trans hB ht56.ex.size
        replace hA := ht56.new
        refine V_to (fun _ _ => rfl) ?_
        refine C_seq ?_
        refine C_region ?_
        have h57 := El_cal_Change_0 h54
        refine V_y (Y_fieldAddr Tryz.underlying116 rfl Tryz.sizeOf3 (by decide) rfl) rfl rfl rfl ?_
        refine V_y (Y_load (El.int h57) Tryz.isAgg3 rfl) rfl rfl rfl ?_
        refine V_mv rfl rfl ?_
        refine V_y (Y_leq rfl rfl) rfl rfl rfl ?_
        refine V_to (fun _ _ => rfl) ?_
        obtain ⟨s59, ho58, ho36⟩ := Option.bind_eq_some_iff.1 ho36
        refine C_cutG (ι := Unit) (fun (_ : Unit) => [(1, .int .i64 m), (5, .int .i64 s59), (11, v11), (12, .int .i64 (z.changes.length : Int)), (13, .int .i64 (k17 : Int))]) (fun (_ : Unit) => fun w' => w52 = w') ?_ ?_
        · refine C_cond rfl (fun hc64 => ?_) (fun hc64 => ?_)
          · rw [if_pos hc64] at ho58
            refine C_region ?_
            have h65 := El_cal_Change_1 h54
            refine V_y (Y_fieldAddr Tryz.underlying116 rfl Tryz.sizeOf3 (by decide) rfl) rfl rfl rfl ?_
            refine V_y (Y_load (El.int h65) Tryz.isAgg3 rfl) rfl rfl rfl ?_
            refine V_as rfl rfl ?_
            obtain rfl := Option.some.inj ho58
            refine V_end (fun a ha66 => ?_)
            exact ⟨(), ha66.sub ⟨rfl, rfl, rfl, rfl, rfl, trivial⟩, rfl⟩
          · rw [if_neg (nt hc64)] at ho58
            obtain rfl := Option.some.inj ho58
            refine C_skip (fun a ha67 => ?_)
            exact ⟨(), ha67.sub ⟨rfl, rfl, rfl, rfl, rfl, trivial⟩, rfl⟩
        rintro _ _ rfl a ha63
        obtain rfl := Option.some.inj ho36
        exact ⟨A25, ha63.sub ⟨rfl, rfl, rfl, rfl, rfl, trivial⟩, ⟨hH, hr38⟩⟩
      rintro A42 w39 ⟨hH43, hk40⟩ a ha41
      replace h13 := Sl.tr h13 hk40
      replace hK := Tr.trans hK hk40
      replace hr16 := Tr.trans hr16 hk40
      replace hB := Nat.le_trans hB hk40.ex.size
      replace hA := hk40.new
      replace hH : Hp w.heap.size A42 w39 ([]) := hH43
      refine C_at (n := ⟨25, [], none⟩) (fun _ _ => rfl) ?_ ha41
      refine C_region ?_
      refine V_y (Y_addI rfl rfl) rfl rfl rfl ?_
      refine V_mv rfl rfl ?_
      obtain rfl := Option.some.inj h28
      refine V_end (fun a ha69 => ?_)
      exact ⟨s37, hlt31, h29, ⟨A42, ha69.sub ⟨rfl, rfl, rfl, rfl, (congrArg (fun z => some (Value.int .i64 z)) (w64_succ hlt31 hn34)), trivial⟩, ⟨hH, hr16⟩⟩⟩
    · refine C_exit (fun a ha70 => ?_)
      exact ⟨(s23, A25), ha70.sub ⟨rfl, trivial⟩, ⟨(h32 (eq_of_dec hle30 hc35)).symm, hH, hr16⟩⟩
  rintro ⟨s15, A21⟩ w18 ⟨rfl, hH22, hk19⟩ a ha20
  rw [Lp.andThen_fin] at hm
  replace hK := Tr.trans hK hk19
  replace hB := Nat.le_trans hB hk19.ex.size
  replace hA := hk19.new
  replace hH : Hp w.heap.size A21 w18 ([]) := hH22
  refine C_at (n := ⟨25, [], none⟩) (fun _ _ => rfl) ?_ ha20
  refine C_seq ?_
  refine C_region ?_
  refine V_mv rfl rfl ?_
  refine V_as rfl rfl ?_
  refine V_to (fun _ _ => rfl) ?_
  obtain rfl := Option.some.inj hm
  refine C_ret ?_
  try simp only [↓inBlock_ret, ↓then_ret]
  exact retQ rfl (Res.one Tryz.results102 rfl) ⟨rfl, hK.kp⟩

set_option maxRecDepth 4000 in
set_option maxHeartbeats 4000000 in
theorem portref2_LocalIn_c (w : World) {A : Nat → Prop} (hA : ∀ b, w.heap.size ≤ b → A b) (z : cal_Zone) (v_z : Value) (h_z : Sl A w v_z z.changes) (m : Int) {r : (Int × Int)} (hm : portref2_LocalIn z m = some r) : Ret Tryz.prog 91 #[.agg #[.int .i64 z.offset, v_z], .int .i64 m] w fun v w' => v = .tuple #[.int .i64 r.1, .int .i64 r.2] ∧ Kp Dw w w' := by
  unfold portref2_LocalIn at hm
  refine enter Tryz.func91 rfl Tryz.ntmps91 rfl ?_
  have hA0 := hA
  have hB := Nat.le_refl w.heap.size
  have hK : Tr Dw w.heap.size A w A w := Tr.refl (Dw := Dw) hA
  have hH : Hp w.heap.size A w [] := Hp.nil
  refine C_seq ?_
  refine C_region ?_
  refine V_box rfl rfl ?_
  intro b3 w4 h5
  have hk7 := h5.kp (Dw := Dw)
  have h6 : El (α := cal_Zone) A w4 b3 0 z := h5.el hA ⟨[.int .i64 z.offset], _, rfl, rfl, ⟨_, rfl, h_z⟩⟩
  have ht8 := Kp.tr hk7 hA hB
  replace hH := Hp.kp hH hk7
  replace h_z := Sl.tr h_z ht8
  replace hK := Tr.trans hK ht8
  replace hB := Nat.le_trans hB ht8.ex.size
  replace hA := ht8.new
  refine V_as rfl rfl ?_
  refine V_as rfl rfl ?_
  refine V_to (fun _ _ => rfl) ?_
  refine C_seq ?_
  refine C_region ?_
  refine V_mv rfl rfl ?_
  obtain ⟨v9, h11, h10⟩ := El_cal_Zone h6
  refine V_y (Y_loadA h11 Tryz.isAgg62 Tryz.sizeOf62 rfl) rfl rfl rfl ?_
  refine V_mv rfl rfl ?_
  obtain ⟨x12, hx12, hm⟩ := Option.bind_eq_some_iff.1 hm
  refine V_call Tryz.call102 rfl rfl rfl rfl (portref2_OffsetIn_c (Dw := Dw) w4 hA z v9 h10 m hx12) ?_
  rintro _ w13 ⟨rfl, hk14⟩
  have ht15 := Kp.tr hk14 hA hB
  replace hH := Hp.kp hH hk14
  replace h6 := El.tr h6 ht15
  replace h10 := Sl.tr h10 ht15
  replace hK := Tr.trans hK ht15
  replace hB := Nat.le_trans hB ht15.ex.size
  replace hA := ht15.new
  refine V_y (Y_addI rfl rfl) rfl rfl rfl ?_
  obtain ⟨x16, hx16, hm⟩ := Option.bind_eq_some_iff.1 hm
  refine V_call Tryz.call101 rfl rfl rfl rfl (portref2_floorDiv_c (Dw := Dw) w13 hA (w64 (m + x12)) 1440 hx16) ?_
  rintro _ w17 ⟨rfl, hk18⟩
  have ht19 := Kp.tr hk18 hA hB
  replace hH := Hp.kp hH hk18
  replace h6 := El.tr h6 ht19
  replace h10 := Sl.tr h10 ht19
  replace hK := Tr.trans hK ht19
  replace hB := Nat.le_trans hB ht19.ex.size
  replace hA := ht19.new
  refine V_y (Y_extract rfl rfl) rfl rfl rfl ?_
  refine V_y (Y_extract rfl rfl) rfl rfl rfl ?_
  refine V_as rfl rfl ?_
  refine V_as rfl rfl ?_
  refine V_to (fun _ _ => rfl) ?_
  obtain rfl := Option.some.inj hm
  refine C_ret ?_
  try simp only [↓inBlock_ret, ↓then_ret]
  exact retQ rfl (Res.two Tryz.results91 rfl rfl) ⟨rfl, hK.kp⟩

set_option maxRecDepth 4000 in
set_option maxHeartbeats 4000000 in
theorem portref2_Clock_shifts_c (w : World) {A : Nat → Prop} {B : Nat} (hB : B ≤ w.heap.size) (hA : ∀ b, w.heap.size ≤ b → A b) (k : cal_Calendar) (b_k : Nat) (day : Int) {L : List Ob} (hH : Hp B A w (obCk 109 portref2_ShiftsIn b_k k :: L)) {r : (List cal_Shift)} (hm : portref2_Clock_shifts k day = some r) : Ret Tryz.prog 92 #[.pointer (some ⟨b_k, 0, none⟩), .int .i64 day] w fun v w' => ∃ s0, ∃ A1 : Nat → Prop, v = s0 ∧ Sl A1 w' s0 r ∧ Hp B A1 w' (obCk 109 portref2_ShiftsIn b_k k :: L) ∧ Tr Dw B A w A1 w' := by
  unfold portref2_Clock_shifts at hm
  refine enter Tryz.func92 rfl Tryz.ntmps92 rfl ?_
  have hK : Tr Dw B A w A w := Tr.refl (Dw := Dw) hA
  obtain ⟨⟨mb, cs⟩, hH⟩ := Hp.open hH
  have hr : GoT.rep A w cs k := by
    obtain ⟨_, ⟨_, hr⟩, _⟩ := hH.at (i := 0) rfl
    exact hr
  have hr0 := hr
  obtain ⟨u0, u1, u2, rfl, s0, s1, s2⟩ := Rep_cal_Calendar hr0
  replace hH : Hp B A w (obC b_k [.int .i64 k.zone.offset, u0, u1, u2, .map (some mb)] 109 :: obMF (portref2_ShiftsIn k) mb :: L) := hH.drops (L := [_])
  refine C_seq ?_
  refine C_region ?_
  refine V_as rfl rfl ?_
  refine V_to (fun _ _ => rfl) ?_
  refine C_seq ?_
  refine C_region ?_
  refine V_mv rfl rfl ?_
  refine V_y (Y_nilCheck rfl) rfl rfl rfl ?_
  refine V_y (Y_fieldAddrC (off2 := 4) Tryz.underlying109 rfl Tryz.sizeOf107 (by decide) rfl rfl) rfl rfl rfl ?_
  refine V_y (Y_load (Hp.cell (j := 4) hH (i := 0) rfl rfl) Tryz.isAgg107 rfl) rfl rfl rfl ?_
  refine V_mv rfl rfl ?_
  refine V_lookupF hH (i := 1) rfl Tryz.underlying107 Tryz.underlying3 Tryz.zeroValue63 rfl rfl rfl ?_ ?_
  · intro v l hl hs
    rw [hm] at hl
    obtain rfl := Option.some.inj hl
    refine V_mv rfl rfl ?_
    refine V_y (Y_extract rfl rfl) rfl rfl rfl ?_
    refine V_y (Y_extract rfl rfl) rfl rfl rfl ?_
    refine V_as rfl rfl ?_
    refine V_as rfl rfl ?_
    refine V_to (fun _ _ => rfl) ?_
    refine C_seq ?_
    refine C_seq ?_
    refine C_region ?_
    refine V_mv rfl rfl ?_
    refine V_y (Y_not rfl) rfl rfl rfl ?_
    refine V_to (fun _ _ => rfl) ?_
    refine C_cond rfl (fun hc => by cases hc) (fun hc => ?_)
    refine C_skip_to (fun _ _ => rfl) ?_
    have h4 : Hp B A w (ckL 109 portref2_ShiftsIn b_k k (mb, [.int .i64 k.zone.offset, u0, u1, u2]) ++ L) := hH.free (O' := obF (fun A w => GoT.rep A w [.int .i64 k.zone.offset, u0, u1, u2] k) (fun h he => GoT.keep h he)) ⟨rfl, hr⟩
    refine C_seq ?_
    refine C_region ?_
    refine V_mv rfl rfl ?_
    refine V_as rfl rfl ?_
    refine V_to (fun _ _ => rfl) ?_
    refine C_ret ?_
    try simp only [↓inBlock_ret, ↓then_ret]
    exact retQ rfl (Res.one Tryz.results92 rfl) ⟨_, A, rfl, hs, Hp.pack _ h4, hK⟩
  · refine V_mv rfl rfl ?_
    refine V_y (Y_extract rfl rfl) rfl rfl rfl ?_
    refine V_y (Y_extract rfl rfl) rfl rfl rfl ?_
    refine V_as rfl rfl ?_
    refine V_as rfl rfl ?_
    refine V_to (fun _ _ => rfl) ?_
    refine C_seq ?_
    refine C_seq ?_
    refine C_region ?_
    refine V_mv rfl rfl ?_
    refine V_y (Y_not rfl) rfl rfl rfl ?_
    refine V_to (fun _ _ => rfl) ?_
    refine C_cond rfl (fun hc => ?_) (fun hc => by cases hc)
    refine C_seq ?_
    refine C_region ?_
    refine V_mv rfl rfl ?_
    refine V_y (Y_nilCheck rfl) rfl rfl rfl ?_
    refine V_y (Y_fieldAddrC (off2 := 0) Tryz.underlying109 rfl Tryz.sizeOf66 (by decide) rfl rfl) rfl rfl rfl ?_
    have hat : At w b_k 0 [.int .i64 k.zone.offset, u0, u1, u2] := Hp.part (n := 4) (i := 0) hH rfl rfl
    refine V_y (Y_loadA hat Tryz.isAgg66 Tryz.sizeOf66 rfl) rfl rfl rfl ?_
    refine V_mv rfl rfl ?_
    refine V_call Tryz.call103 rfl rfl rfl rfl (portref2_ShiftsIn_c (Dw := Dw) w hA k u0 s0 u1 s1 u2 s2 day hm) ?_
    rintro s1 w1 ⟨_, rfl, hs, hk⟩
    have t1 := Kp.tr (Dw := Dw) hk hA hB
    replace hH := Hp.kp (Dw := Dw) hH hk
    replace hr := GoT.keep hr t1.ex
    replace hK := Tr.trans hK t1
    replace hB := Nat.le_trans hB t1.ex.size
    replace hA := t1.new
    refine V_as rfl rfl ?_
    refine V_to (fun _ _ => rfl) ?_
    refine C_region ?_
    refine V_mv rfl rfl ?_
    refine V_y (Y_nilCheck rfl) rfl rfl rfl ?_
    refine V_y (Y_fieldAddrC (off2 := 4) Tryz.underlying109 rfl Tryz.sizeOf107 (by decide) rfl rfl) rfl rfl rfl ?_
    refine V_y (Y_load (Hp.cell (j := 4) hH (i := 0) rfl rfl) Tryz.isAgg107 rfl) rfl rfl rfl ?_
    refine V_mv rfl rfl ?_
    refine V_mv rfl rfl ?_
    refine V_mapUpdateF (Dw := Dw) hH (i := 1) rfl Tryz.underlying107 Tryz.underlying3 hm hs rfl rfl rfl hB hA ?_
    intro w2 h2 t2
    replace hH : Hp B A w2 (obC b_k [.int .i64 k.zone.offset, u0, u1, u2, .map (some mb)] 109 :: obMF (portref2_ShiftsIn k) mb :: L) := h2
    replace hs := Sl.tr hs t2
    replace hr := GoT.keep hr t2.ex
    replace hK := Tr.trans hK t2
    refine V_to (fun _ _ => rfl) ?_
    have h4 : Hp B A w2 (ckL 109 portref2_ShiftsIn b_k k (mb, [.int .i64 k.zone.offset, u0, u1, u2]) ++ L) := hH.free (O' := obF (fun A w => GoT.rep A w [.int .i64 k.zone.offset, u0, u1, u2] k) (fun h he => GoT.keep h he)) ⟨rfl, hr⟩
    refine C_seq ?_
    refine C_region ?_
    refine V_mv rfl rfl ?_
    refine V_as rfl rfl ?_
    refine V_to (fun _ _ => rfl) ?_
    refine C_ret ?_
    try simp only [↓inBlock_ret, ↓then_ret]
    exact retQ rfl (Res.one Tryz.results92 rfl) ⟨_, A, rfl, hs, Hp.pack _ h4, hK⟩

set_option maxRecDepth 4000 in
set_option maxHeartbeats 4000000 in
theorem portref2_Clock_Open_c (w : World) {A : Nat → Prop} {B : Nat} (hB : B ≤ w.heap.size) (hA : ∀ b, w.heap.size ≤ b → A b) (k_ : cal_Calendar) (b_k_ : Nat) (m : Int) {L : List Ob} (hH : Hp B A w (obCk 109 portref2_ShiftsIn b_k_ k_ :: L)) {r : Bool} (hm : portref2_Clock_Open k_ m = some r) : Ret Tryz.prog 76 #[.pointer (some ⟨b_k_, 0, none⟩), .int .i64 m] w fun v w' => ∃ A1 : Nat → Prop, v = .bool r ∧ Hp B A1 w' (obCk 109 portref2_ShiftsIn b_k_ k_ :: L) ∧ Tr Dw B A w A1 w' := by
  unfold portref2_Clock_Open at hm
  refine enter Tryz.func76 rfl Tryz.ntmps76 rfl ?_
  have hK : Tr Dw B A w A w := Tr.refl (Dw := Dw) hA
  refine C_seq ?_
  refine C_region ?_
  refine V_as rfl rfl ?_
  refine V_to (fun _ _ => rfl) ?_
  refine C_seq ?_
  refine C_region ?_
  refine V_mv rfl rfl ?_
  refine V_y (Y_nilCheck rfl) rfl rfl rfl ?_
  have h1 := Hp.ck (tb := 109) (F := portref2_ShiftsIn) (b := b_k_) (c := k_) hH (i := 0) rfl
  refine V_y (Y_fieldAddrC (off2 := 0) Tryz.underlying109 rfl Tryz.sizeOf66 (by decide) rfl rfl) rfl rfl rfl ?_
  have h2 := El_cal_Calendar_0 h1
  refine V_y (Y_fieldAddr Tryz.underlying66 rfl Tryz.sizeOf62 (by decide) rfl) rfl rfl rfl ?_
  obtain ⟨v3, h5, h4⟩ := El_cal_Zone h2
  refine V_y (Y_loadA h5 Tryz.isAgg62 Tryz.sizeOf62 rfl) rfl rfl rfl ?_
  refine V_mv rfl rfl ?_
  obtain ⟨x6, hx6, hm⟩ := Option.bind_eq_some_iff.1 hm
  refine V_call Tryz.call91 rfl rfl rfl rfl (portref2_LocalIn_c (Dw := Dw) w (A := fun _ => True) (fun _ _ => trivial) k_.zone v3 (Sl.any h4) m hx6) ?_
  rintro _ w7 ⟨rfl, hk8⟩
  have ht9 := Kp.tr hk8 hA hB
  replace hH := Hp.kp hH hk8
  replace h1 := El.kp (Dw := Dw) h1 hk8
  replace h2 := El.kp (Dw := Dw) h2 hk8
  replace h4 := Sl.kp (Dw := Dw) h4 hk8
  replace hK := Tr.trans hK ht9
  replace hB := Nat.le_trans hB ht9.ex.size
  replace hA := ht9.new
  refine V_mv rfl rfl ?_
  refine V_y (Y_extract rfl rfl) rfl rfl rfl ?_
  refine V_y (Y_extract rfl rfl) rfl rfl rfl ?_
  refine V_as rfl rfl ?_
  refine V_as rfl rfl ?_
  refine V_to (fun _ _ => rfl) ?_
  refine C_seq ?_
  refine C_seq ?_
  refine C_region ?_
  refine V_mv rfl rfl ?_
  refine V_mv rfl rfl ?_
  obtain ⟨x10, hx10, hm⟩ := Option.bind_eq_some_iff.1 hm
  refine V_call Tryz.call92 rfl rfl rfl rfl (portref2_Clock_shifts_c (Dw := Dw) w7 hB hA k_ b_k_ x6.1 hH hx10) ?_
  rintro v11 w13 ⟨_, A14, rfl, h12, hH15, ht16⟩
  replace hK := Tr.trans hK ht16
  replace hB := Nat.le_trans hB ht16.ex.size
  replace hA := ht16.new
  replace hH : Hp B A14 w13 (obCk 109 portref2_ShiftsIn b_k_ k_ :: L) := hH15
  refine V_y (Y_lenSl h12 rfl Tryz.underlying63 rfl) rfl rfl rfl ?_
  refine V_mv rfl rfl ?_
  refine V_to (fun _ _ => rfl) ?_
  have hn37 := Sl.le h12
  obtain ⟨o17, ho17, hm⟩ := Option.bind_eq_some_iff.1 hm
  refine C_cutG (ι := (Unit × (Nat → Prop))) (fun ⟨s18, A24⟩ => [(0, .pointer (some ⟨b_k_, 0, none⟩)), (5, .int .i64 x6.1), (6, .int .i64 x6.2)]) (fun ⟨s18, A24⟩ => fun w' => o17 = .fin s18 ∧ Hp B A24 w' (obCk 109 portref2_ShiftsIn b_k_ k_ :: L) ∧ Tr Dw B A14 w13 A24 w') ?_ ?_
  · refine C_block ?_
    refine C_range ho17 (fun k20 _ a w' => ∃ i : (Nat → Prop), Has ⟨62, [], none⟩ a ([(0, .pointer (some ⟨b_k_, 0, none⟩)), (5, .int .i64 x6.1), (6, .int .i64 x6.2), (23, v11), (24, .int .i64 (x10.length : Int)), (25, .int .i64 (k20 : Int))]) ∧ Hp B i w' (obCk 109 portref2_ShiftsIn b_k_ k_ :: L) ∧ Tr Dw B A14 w13 i w') (fun a ha => ⟨A14, ha.sub ⟨rfl, rfl, rfl, rfl, rfl, rfl, trivial⟩, ⟨hH, Tr.refl (Dw := Dw) hA⟩⟩) ?_
    rintro K k20 _ a w27 ⟨A28, ha59, hH29, hr19⟩ hle33 K36 h35
    refine C_of ?_ ha59
    replace h12 := Sl.tr h12 hr19
    replace hK := Tr.trans hK hr19
    replace hB := Nat.le_trans hB hr19.ex.size
    replace hA := hr19.new
    replace hH : Hp B A28 w27 (obCk 109 portref2_ShiftsIn b_k_ k_ :: L) := hH29
    refine C_seq (C_region (V_y (Y_lss rfl rfl) rfl rfl rfl (V_to (fun _ _ => rfl) ?_)))
    refine C_seq ?_
    refine C_cond rfl (fun hc38 => ?_) (fun hc38 => ?_)
    · have hlt34 := lt_of_dec hc38
      obtain ⟨x30, h31, h32⟩ := K36 hlt34
      refine C_skip_to (fun _ _ => rfl) ?_
      refine C_seq ?_
      refine C_block ?_
      refine C_seq ?_
      refine C_region ?_
      obtain ⟨x39, hx39, h31⟩ := Option.bind_eq_some_iff.1 h31
      refine V_indexAddr h12 hx39 Tryz.underlying63 Tryz.sizeOf118 rfl rfl rfl ?_
      intro b40 o41 h42
      obtain ⟨h43, _⟩ := El_cal_Shift h42
      refine V_y (Y_loadA h43 Tryz.isAgg118 Tryz.sizeOf118 rfl) rfl rfl rfl ?_
      refine V_alloc Tryz.zeroValue118 rfl ?_
      intro b44 w45 h46
      refine V_storeNew h46 Tryz.sizeOf118 rfl rfl rfl rfl (by exact (List.forall_mem_cons.2 ⟨rfl, (List.forall_mem_cons.2 ⟨rfl, (List.forall_mem_cons.2 ⟨rfl, (fun _ h => nomatch h)⟩)⟩)⟩)) ?_
      intro w47 h48
      have hk50 := h48.kp (Dw := Dw)
      have h49 : El (α := cal_Shift) A28 w47 b44 0 x39 := h48.el hA ⟨[.int .i64 x39.day], _, rfl, rfl, ⟨[.int .i64 x39.from_], _, rfl, rfl, rfl⟩⟩
      have ht51 := Kp.tr hk50 hA hB
      replace hH := Hp.kp hH hk50
      replace h12 := Sl.tr h12 ht51
      replace h42 := El.tr h42 ht51
      replace hK := Tr.trans hK ht51
      replace hr19 := Tr.trans hr19 ht51
      replace hB := Nat.le_trans hB ht51.ex.size
      replace hA := ht51.new
      refine V_to (fun _ _ => rfl) ?_
      refine C_seq ?_
      refine C_region ?_
      have h52 := El_cal_Shift_1 h49
      refine V_y (Y_fieldAddr Tryz.underlying118 rfl Tryz.sizeOf3 (by decide) rfl) rfl rfl rfl ?_
      refine V_y (Y_load (El.int h52) Tryz.isAgg3 rfl) rfl rfl rfl ?_
      refine V_mv rfl rfl ?_
      refine V_y (Y_leq rfl rfl) rfl rfl rfl ?_
      refine V_mv rfl rfl ?_
      refine V_cut 5 (fun _ : Unit => [(0, .pointer (some ⟨b_k_, 0, none⟩)), (5, .int .i64 x6.1), (6, .int .i64 x6.2), (23, v11), (24, .int .i64 (x10.length : Int)), (25, .int .i64 (k20 : Int)), (38, .bool ((decide (x39.from_ ≤ x6.2)) && (decide (x6.2 < x39.to_))))]) (fun _ w' => w47 = w') ?_ ?_
      · simp only [List.take, List.drop]
        rcases Bool.eq_false_or_eq_true (decide (x39.from_ ≤ x6.2)) with hc53 | hc53
        · refine V_ge rfl rfl rfl hc53 ?_
          refine V_mv rfl rfl ?_
          refine V_ge rfl rfl rfl hc53 ?_
          have h55 := El_cal_Shift_2 h49
          refine V_y (Y_fieldAddr Tryz.underlying118 rfl Tryz.sizeOf3 (by decide) rfl) rfl rfl rfl ?_
          refine V_ge rfl rfl rfl hc53 ?_
          refine V_y (Y_load (El.int h55) Tryz.isAgg3 rfl) rfl rfl rfl ?_
          refine V_ge rfl rfl rfl hc53 ?_
          refine V_y (Y_lss rfl rfl) rfl rfl rfl ?_
          refine V_y (Y_pick_te rfl hc53 rfl) rfl rfl rfl ?_
          exact V_end fun a ha => ⟨(), ha.sub ⟨rfl, rfl, rfl, rfl, rfl, rfl, (by rw [hc53]; rfl), trivial⟩, rfl⟩
        · refine V_gn rfl rfl rfl hc53 rfl rfl rfl ?_
          refine V_gn rfl rfl rfl hc53 rfl rfl rfl ?_
          refine V_gn rfl rfl rfl hc53 rfl rfl rfl ?_
          refine V_gn rfl rfl rfl hc53 rfl rfl rfl ?_
          refine V_y (Y_pick_fe rfl hc53 rfl) rfl rfl rfl ?_
          exact V_end fun a ha => ⟨(), ha.sub ⟨rfl, rfl, rfl, rfl, rfl, rfl, (by rw [hc53]; rfl), trivial⟩, rfl⟩
      simp only [List.take, List.drop]
      rintro _ _ rfl
      refine V_to (fun _ _ => rfl) ?_
      refine C_cond rfl (fun hc56 => ?_) (fun hc56 => ?_)
      · rw [if_pos hc56] at h31
        refine C_seq ?_
        refine C_region ?_
        refine V_as rfl rfl ?_
        refine V_to (fun _ _ => rfl) ?_
        obtain rfl := Option.some.inj h31
        obtain rfl := (h32 : Lp.rt _ = _)
        rw [Lp.andThen_rt] at hm
        obtain rfl := Option.some.inj hm
        refine C_ret ?_
        try simp only [↓inBlock_ret, ↓then_ret]
        exact retQ rfl (Res.one Tryz.results76 rfl) ⟨A28, rfl, hH, hK⟩
      · rw [if_neg (nt hc56)] at h31
        refine C_skip_to (fun _ _ => rfl) ?_
        refine C_region ?_
        refine V_y (Y_addI rfl rfl) rfl rfl rfl ?_
        refine V_mv rfl rfl ?_
        obtain rfl := Option.some.inj h31
        refine V_end (fun a ha57 => ?_)
        exact ⟨(), hlt34, h32, ⟨A28, ha57.sub ⟨rfl, rfl, rfl, rfl, rfl, (congrArg (fun z => some (Value.int .i64 z)) (w64_succ hlt34 hn37)), trivial⟩, ⟨hH, hr19⟩⟩⟩
    · refine C_exit (fun a ha58 => ?_)
      exact ⟨((), A28), ha58.sub ⟨rfl, rfl, rfl, trivial⟩, ⟨(h35 (eq_of_dec hle33 hc38)).symm, hH, hr19⟩⟩
  rintro ⟨s18, A24⟩ w21 ⟨rfl, hH25, hk22⟩ a ha23
  rw [Lp.andThen_fin] at hm
  replace hK := Tr.trans hK hk22
  replace hB := Nat.le_trans hB hk22.ex.size
  replace hA := hk22.new
  replace hH : Hp B A24 w21 (obCk 109 portref2_ShiftsIn b_k_ k_ :: L) := hH25
  refine C_at (n := ⟨62, [], none⟩) (fun _ _ => rfl) ?_ ha23
  refine C_seq ?_
  refine C_seq ?_
  refine C_region ?_
  refine V_mv rfl rfl ?_
  refine V_mv rfl rfl ?_
  refine V_y (Y_subI rfl rfl) rfl rfl rfl ?_
  obtain ⟨x60, hx60, hm⟩ := Option.bind_eq_some_iff.1 hm
  refine V_call Tryz.call92 rfl rfl rfl rfl (portref2_Clock_shifts_c (Dw := Dw) w21 hB hA k_ b_k_ (w64 (x6.1 - 1)) hH hx60) ?_
  rintro v61 w63 ⟨_, A64, rfl, h62, hH65, ht66⟩
  replace hK := Tr.trans hK ht66
  replace hB := Nat.le_trans hB ht66.ex.size
  replace hA := ht66.new
  replace hH : Hp B A64 w63 (obCk 109 portref2_ShiftsIn b_k_ k_ :: L) := hH65
  refine V_y (Y_lenSl h62 rfl Tryz.underlying63 rfl) rfl rfl rfl ?_
  refine V_mv rfl rfl ?_
  refine V_to (fun _ _ => rfl) ?_
  have hn87 := Sl.le h62
  obtain ⟨o67, ho67, hm⟩ := Option.bind_eq_some_iff.1 hm
  refine C_cutG (ι := (Unit × (Nat → Prop))) (fun ⟨s68, A74⟩ => []) (fun ⟨s68, A74⟩ => fun w' => o67 = .fin s68 ∧ Hp B A74 w' (obCk 109 portref2_ShiftsIn b_k_ k_ :: L) ∧ Tr Dw B A64 w63 A74 w') ?_ ?_
  · refine C_block ?_
    refine C_range ho67 (fun k70 _ a w' => ∃ i : (Nat → Prop), Has ⟨62, [], none⟩ a ([(6, .int .i64 x6.2), (43, v61), (44, .int .i64 (x60.length : Int)), (45, .int .i64 (k70 : Int))]) ∧ Hp B i w' (obCk 109 portref2_ShiftsIn b_k_ k_ :: L) ∧ Tr Dw B A64 w63 i w') (fun a ha => ⟨A64, ha.sub ⟨rfl, rfl, rfl, rfl, trivial⟩, ⟨hH, Tr.refl (Dw := Dw) hA⟩⟩) ?_
    rintro K k70 _ a w77 ⟨A78, ha109, hH79, hr69⟩ hle83 K86 h85
    refine C_of ?_ ha109
    replace h62 := Sl.tr h62 hr69
    replace hK := Tr.trans hK hr69
    replace hB := Nat.le_trans hB hr69.ex.size
    replace hA := hr69.new
    replace hH : Hp B A78 w77 (obCk 109 portref2_ShiftsIn b_k_ k_ :: L) := hH79
    refine C_seq (C_region (V_y (Y_lss rfl rfl) rfl rfl rfl (V_to (fun _ _ => rfl) ?_)))
    refine C_seq ?_
    refine C_cond rfl (fun hc88 => ?_) (fun hc88 => ?_)
    · have hlt84 := lt_of_dec hc88
      obtain ⟨x80, h81, h82⟩ := K86 hlt84
      refine C_skip_to (fun _ _ => rfl) ?_
      refine C_seq ?_
      refine C_block ?_
      refine C_seq ?_
      refine C_region ?_
      obtain ⟨x89, hx89, h81⟩ := Option.bind_eq_some_iff.1 h81
      refine V_indexAddr h62 hx89 Tryz.underlying63 Tryz.sizeOf118 rfl rfl rfl ?_
      intro b90 o91 h92
      obtain ⟨h93, _⟩ := El_cal_Shift h92
      refine V_y (Y_loadA h93 Tryz.isAgg118 Tryz.sizeOf118 rfl) rfl rfl rfl ?_
      refine V_alloc Tryz.zeroValue118 rfl ?_
      intro b94 w95 h96
      refine V_storeNew h96 Tryz.sizeOf118 rfl rfl rfl rfl (by exact (List.forall_mem_cons.2 ⟨rfl, (List.forall_mem_cons.2 ⟨rfl, (List.forall_mem_cons.2 ⟨rfl, (fun _ h => nomatch h)⟩)⟩)⟩)) ?_
      intro w97 h98
      have hk100 := h98.kp (Dw := Dw)
      have h99 : El (α := cal_Shift) A78 w97 b94 0 x89 := h98.el hA ⟨[.int .i64 x89.day], _, rfl, rfl, ⟨[.int .i64 x89.from_], _, rfl, rfl, rfl⟩⟩
      have ht101 := Kp.tr hk100 hA hB
      replace hH := Hp.kp hH hk100
      replace h62 := Sl.tr h62 ht101
      replace h92 := El.tr h92 ht101
      replace hK := Tr.trans hK ht101
      replace hr69 := Tr.trans hr69 ht101
      replace hB := Nat.le_trans hB ht101.ex.size
      replace hA := ht101.new
      refine V_to (fun _ _ => rfl) ?_
      refine C_seq ?_
      refine C_region ?_
      have h102 := El_cal_Shift_1 h99
      refine V_y (Y_fieldAddr Tryz.underlying118 rfl Tryz.sizeOf3 (by decide) rfl) rfl rfl rfl ?_
      refine V_y (Y_load (El.int h102) Tryz.isAgg3 rfl) rfl rfl rfl ?_
      refine V_mv rfl rfl ?_
      refine V_y (Y_addI rfl rfl) rfl rfl rfl ?_
      refine V_y (Y_leq rfl rfl) rfl rfl rfl ?_
      refine V_mv rfl rfl ?_
      refine V_cut 6 (fun _ : Unit => [(6, .int .i64 x6.2), (43, v61), (44, .int .i64 (x60.length : Int)), (45, .int .i64 (k70 : Int)), (60, .bool ((decide (x89.from_ ≤ (w64 (x6.2 + 1440)))) && (decide ((w64 (x6.2 + 1440)) < x89.to_))))]) (fun _ w' => w97 = w') ?_ ?_
      · simp only [List.take, List.drop]
        rcases Bool.eq_false_or_eq_true (decide (x89.from_ ≤ (w64 (x6.2 + 1440)))) with hc103 | hc103
        · refine V_ge rfl rfl rfl hc103 ?_
          refine V_mv rfl rfl ?_
          refine V_ge rfl rfl rfl hc103 ?_
          refine V_y (Y_addI rfl rfl) rfl rfl rfl ?_
          refine V_ge rfl rfl rfl hc103 ?_
          have h105 := El_cal_Shift_2 h99
          refine V_y (Y_fieldAddr Tryz.underlying118 rfl Tryz.sizeOf3 (by decide) rfl) rfl rfl rfl ?_
          refine V_ge rfl rfl rfl hc103 ?_
          refine V_y (Y_load (El.int h105) Tryz.isAgg3 rfl) rfl rfl rfl ?_
          refine V_ge rfl rfl rfl hc103 ?_
          refine V_y (Y_lss rfl rfl) rfl rfl rfl ?_
          refine V_y (Y_pick_te rfl hc103 rfl) rfl rfl rfl ?_
          exact V_end fun a ha => ⟨(), ha.sub ⟨rfl, rfl, rfl, rfl, (by rw [hc103]; rfl), trivial⟩, rfl⟩
        · refine V_gn rfl rfl rfl hc103 rfl rfl rfl ?_
          refine V_gn rfl rfl rfl hc103 rfl rfl rfl ?_
          refine V_gn rfl rfl rfl hc103 rfl rfl rfl ?_
          refine V_gn rfl rfl rfl hc103 rfl rfl rfl ?_
          refine V_gn rfl rfl rfl hc103 rfl rfl rfl ?_
          refine V_y (Y_pick_fe rfl hc103 rfl) rfl rfl rfl ?_
          exact V_end fun a ha => ⟨(), ha.sub ⟨rfl, rfl, rfl, rfl, (by rw [hc103]; rfl), trivial⟩, rfl⟩
      simp only [List.take, List.drop]
      rintro _ _ rfl
      refine V_to (fun _ _ => rfl) ?_
      refine C_cond rfl (fun hc106 => ?_) (fun hc106 => ?_)
      · rw [if_pos hc106] at h81
        refine C_seq ?_
        refine C_region ?_
        refine V_as rfl rfl ?_
        refine V_to (fun _ _ => rfl) ?_
        obtain rfl := Option.some.inj h81
        obtain rfl := (h82 : Lp.rt _ = _)
        rw [Lp.andThen_rt] at hm
        obtain rfl := Option.some.inj hm
        refine C_ret ?_
        try simp only [↓inBlock_ret, ↓then_ret]
        exact retQ rfl (Res.one Tryz.results76 rfl) ⟨A78, rfl, hH, hK⟩
      · rw [if_neg (nt hc106)] at h81
        refine C_skip_to (fun _ _ => rfl) ?_
        refine C_region ?_
        refine V_y (Y_addI rfl rfl) rfl rfl rfl ?_
        refine V_mv rfl rfl ?_
        obtain rfl := Option.some.inj h81
        refine V_end (fun a ha107 => ?_)
        exact ⟨(), hlt84, h82, ⟨A78, ha107.sub ⟨rfl, rfl, rfl, (congrArg (fun z => some (Value.int .i64 z)) (w64_succ hlt84 hn87)), trivial⟩, ⟨hH, hr69⟩⟩⟩
    · refine C_exit (fun a ha108 => ?_)
      exact ⟨((), A78), ha108.sub trivial, ⟨(h85 (eq_of_dec hle83 hc88)).symm, hH, hr69⟩⟩
  rintro ⟨s68, A74⟩ w71 ⟨rfl, hH75, hk72⟩ a ha73
  rw [Lp.andThen_fin] at hm
  replace hK := Tr.trans hK hk72
  replace hB := Nat.le_trans hB hk72.ex.size
  replace hA := hk72.new
  replace hH : Hp B A74 w71 (obCk 109 portref2_ShiftsIn b_k_ k_ :: L) := hH75
  refine C_at (n := ⟨62, [], none⟩) (fun _ _ => rfl) ?_ ha73
  refine C_seq ?_
  refine C_region ?_
  refine V_as rfl rfl ?_
  refine V_to (fun _ _ => rfl) ?_
  obtain rfl := Option.some.inj hm
  refine C_ret ?_
  try simp only [↓inBlock_ret, ↓then_ret]
  exact retQ rfl (Res.one Tryz.results76 rfl) ⟨A74, rfl, hH, hK⟩

set_option maxRecDepth 4000 in
set_option maxHeartbeats 4000000 in
theorem portref2_Clock_Worked_c (w : World) {A : Nat → Prop} {B : Nat} (hB : B ≤ w.heap.size) (hA : ∀ b, w.heap.size ≤ b → A b) (k_ : cal_Calendar) (b_k_ : Nat) (from_ : Int) (to_ : Int) {L : List Ob} (hH : Hp B A w (obCk 109 portref2_ShiftsIn b_k_ k_ :: L)) {r : Int} (hm : portref2_Clock_Worked k_ from_ to_ = some r) : Ret Tryz.prog 47 #[.pointer (some ⟨b_k_, 0, none⟩), .int .i64 from_, .int .i64 to_] w fun v w' => ∃ A1 : Nat → Prop, v = .int .i64 r ∧ Hp B A1 w' (obCk 109 portref2_ShiftsIn b_k_ k_ :: L) ∧ Tr Dw B A w A1 w' := by
  unfold portref2_Clock_Worked at hm
  refine enter Tryz.func47 rfl Tryz.ntmps47 rfl ?_
  have hK : Tr Dw B A w A w := Tr.refl (Dw := Dw) hA
  refine C_seq ?_
  refine C_region ?_
  refine V_as rfl rfl ?_
  refine V_to (fun _ _ => rfl) ?_
  refine C_seq ?_
  refine C_region ?_
  refine V_as rfl rfl ?_
  refine V_to (fun _ _ => rfl) ?_
  refine C_seq ?_
  refine C_seq ?_
  refine C_region ?_
  refine V_mv rfl rfl ?_
  refine V_as rfl rfl ?_
  refine V_to (fun _ _ => rfl) ?_
  obtain ⟨o1, ho1, hm⟩ := Option.bind_eq_some_iff.1 hm
  refine C_cutG (ι := ((Int × Int) × (Nat → Prop))) (fun ⟨s2, A8⟩ => [(7, .int .i64 s2.1)]) (fun ⟨s2, A8⟩ => fun w' => o1 = .fin s2 ∧ Hp B A8 w' (obCk 109 portref2_ShiftsIn b_k_ k_ :: L) ∧ Tr Dw B A w A8 w') ?_ ?_
  · refine C_block ?_
    refine C_while ho1 (fun s10 a w' => ∃ i : (Nat → Prop), Has ⟨21, [], none⟩ a ([(0, .pointer (some ⟨b_k_, 0, none⟩)), (2, .int .i64 to_), (7, .int .i64 s10.1), (8, .int .i64 s10.2)]) ∧ Hp B i w' (obCk 109 portref2_ShiftsIn b_k_ k_ :: L) ∧ Tr Dw B A w i w') (fun a ha => ⟨A, ha.sub ⟨rfl, rfl, rfl, rfl, trivial⟩, ⟨hH, Tr.refl (Dw := Dw) hA⟩⟩) ?_
    rintro K s10 a w11 ⟨A12, ha47, hH13, hr3⟩ K20
    refine C_of ?_ ha47
    replace hK := Tr.trans hK hr3
    replace hB := Nat.le_trans hB hr3.ex.size
    replace hA := hr3.new
    replace hH : Hp B A12 w11 (obCk 109 portref2_ShiftsIn b_k_ k_ :: L) := hH13
    obtain ⟨x14, h15, h16⟩ := K20
    refine C_seq ?_
    refine C_seq ?_
    refine C_region ?_
    refine V_mv rfl rfl ?_
    refine V_mv rfl rfl ?_
    refine V_y (Y_lss rfl rfl) rfl rfl rfl ?_
    refine V_to (fun _ _ => rfl) ?_
    refine C_cond rfl (fun hc21 => ?_) (fun hc21 => ?_)
    · rw [if_pos hc21] at h15
      refine C_skip_to (fun _ _ => rfl) ?_
      refine C_seq ?_
      obtain ⟨s23, ho22, h15⟩ := Option.bind_eq_some_iff.1 h15
      refine C_cutG (ι := (Nat → Prop)) (fun (A28 : (Nat → Prop)) => [(0, .pointer (some ⟨b_k_, 0, none⟩)), (2, .int .i64 to_), (7, .int .i64 s23), (8, .int .i64 s10.2)]) (fun (A28 : (Nat → Prop)) => fun w' => Hp B A28 w' (obCk 109 portref2_ShiftsIn b_k_ k_ :: L) ∧ Tr Dw B A12 w11 A28 w') ?_ ?_
      · have hr24 : Tr Dw B A12 w11 A12 w11 := Tr.refl (Dw := Dw) hA
        refine C_block ?_
        refine C_seq ?_
        refine C_region ?_
        refine V_mv rfl rfl ?_
        refine V_mv rfl rfl ?_
        obtain ⟨x30, hx30, ho22⟩ := Option.bind_eq_some_iff.1 ho22
        refine V_call Tryz.call76 rfl rfl rfl rfl (portref2_Clock_Open_c (Dw := Dw) w11 hB hA k_ b_k_ s10.2 hH hx30) ?_
        rintro _ w31 ⟨A32, rfl, hH33, ht34⟩
        replace hK := Tr.trans hK ht34
        replace hr3 := Tr.trans hr3 ht34
        replace hr24 := Tr.trans hr24 ht34
        replace hB := Nat.le_trans hB ht34.ex.size
        replace hA := ht34.new
        replace hH : Hp B A32 w31 (obCk 109 portref2_ShiftsIn b_k_ k_ :: L) := hH33
        refine V_to (fun _ _ => rfl) ?_
        obtain ⟨s36, ho35, ho22⟩ := Option.bind_eq_some_iff.1 ho22
        refine C_cutG (ι := Unit) (fun (_ : Unit) => [(0, .pointer (some ⟨b_k_, 0, none⟩)), (2, .int .i64 to_), (7, .int .i64 s36), (8, .int .i64 s10.2)]) (fun (_ : Unit) => fun w' => w31 = w') ?_ ?_
        · refine C_cond rfl (fun hc41 => ?_) (fun hc41 => ?_)
          · rw [if_pos hc41] at ho35
            refine C_region ?_
            refine V_mv rfl rfl ?_
            refine V_y (Y_addI rfl rfl) rfl rfl rfl ?_
            refine V_as rfl rfl ?_
            obtain rfl := Option.some.inj ho35
            refine V_end (fun a ha42 => ?_)
            exact ⟨(), ha42.sub ⟨rfl, rfl, rfl, rfl, trivial⟩, rfl⟩
          · rw [if_neg (nt hc41)] at ho35
            obtain rfl := Option.some.inj ho35
            refine C_skip (fun a ha43 => ?_)
            exact ⟨(), ha43.sub ⟨rfl, rfl, rfl, rfl, trivial⟩, rfl⟩
        rintro _ _ rfl a ha40
        obtain rfl := Option.some.inj ho22
        exact ⟨A32, ha40.sub ⟨rfl, rfl, rfl, rfl, trivial⟩, ⟨hH, hr24⟩⟩
      rintro A28 w25 ⟨hH29, hk26⟩ a ha27
      replace hK := Tr.trans hK hk26
      replace hr3 := Tr.trans hr3 hk26
      replace hB := Nat.le_trans hB hk26.ex.size
      replace hA := hk26.new
      replace hH : Hp B A28 w25 (obCk 109 portref2_ShiftsIn b_k_ k_ :: L) := hH29
      refine C_at (n := ⟨21, [], none⟩) (fun _ _ => rfl) ?_ ha27
      refine C_region ?_
      refine V_mv rfl rfl ?_
      refine V_y (Y_addI rfl rfl) rfl rfl rfl ?_
      refine V_as rfl rfl ?_
      obtain rfl := Option.some.inj h15
      refine V_end (fun a ha45 => ?_)
      exact ⟨(s23, w64 (s10.2 + 1)), h16, ⟨A28, ha45.sub ⟨rfl, rfl, rfl, rfl, trivial⟩, ⟨hH, hr3⟩⟩⟩
    · rw [if_neg (nt hc21)] at h15
      obtain rfl := Option.some.inj h15
      refine C_exit (fun a ha46 => ?_)
      exact ⟨((s10.1, s10.2), A12), ha46.sub ⟨rfl, trivial⟩, ⟨h16.symm, hH, hr3⟩⟩
  rintro ⟨s2, A8⟩ w5 ⟨rfl, hH9, hk6⟩ a ha7
  rw [Lp.andThen_fin] at hm
  replace hK := Tr.trans hK hk6
  replace hB := Nat.le_trans hB hk6.ex.size
  replace hA := hk6.new
  replace hH : Hp B A8 w5 (obCk 109 portref2_ShiftsIn b_k_ k_ :: L) := hH9
  refine C_at (n := ⟨21, [], none⟩) (fun _ _ => rfl) ?_ ha7
  refine C_seq ?_
  refine C_region ?_
  refine V_mv rfl rfl ?_
  refine V_as rfl rfl ?_
  refine V_to (fun _ _ => rfl) ?_
  obtain rfl := Option.some.inj hm
  refine C_ret ?_
  try simp only [↓inBlock_ret, ↓then_ret]
  exact retQ rfl (Res.one Tryz.results47 rfl) ⟨A8, rfl, hH, hK⟩

set_option maxRecDepth 4000 in
set_option maxHeartbeats 4000000 in
theorem portref2_meter_elapsed_c (w : World) {A : Nat → Prop} {B : Nat} (hB : B ≤ w.heap.size) (hA : ∀ b, w.heap.size ≤ b → A b) (x : portref2_meter) (b_x : Nat) (v_x : Value) (c : level_Clock) (v_c : Value) (h_c : Sl A w v_c c.pieces) (m : Int) {L : List Ob} (hH : Hp B A w (obC b_x [v_x] 81 :: obPS (obCk 109 portref2_ShiftsIn) 82 v_x x.clocks :: L)) {r : Int} (hm : portref2_meter_elapsed x c m = some r) : Ret Tryz.prog 29 #[.pointer (some ⟨b_x, 0, none⟩), .agg #[.int .i64 c.kind, .int .i64 c.level, .int .i64 c.minutes, .int .i64 c.start, .int .i64 c.stop, .int .i64 c.end_, v_c], .int .i64 m] w fun v w' => ∃ A1 : Nat → Prop, v = .int .i64 r ∧ Hp B A1 w' (obC b_x [v_x] 81 :: obPS (obCk 109 portref2_ShiftsIn) 82 v_x x.clocks :: L) ∧ Tr Dw B A w A1 w' := by
  unfold portref2_meter_elapsed at hm
  refine enter Tryz.func29 rfl Tryz.ntmps29 rfl ?_
  have hK : Tr Dw B A w A w := Tr.refl (Dw := Dw) hA
  refine C_seq ?_
  refine C_region ?_
  refine V_box rfl rfl ?_
  intro b5 w6 h7
  have hk9 := h7.kp (Dw := Dw)
  have h8 : El (α := level_Clock) A w6 b5 0 c := h7.el hA ⟨[.int .i64 c.kind], _, rfl, rfl, ⟨[.int .i64 c.level], _, rfl, rfl, ⟨[.int .i64 c.minutes], _, rfl, rfl, ⟨[.int .i64 c.start], _, rfl, rfl, ⟨[.int .i64 c.stop], _, rfl, rfl, ⟨[.int .i64 c.end_], _, rfl, rfl, ⟨_, rfl, h_c⟩⟩⟩⟩⟩⟩⟩
  have ht10 := Kp.tr hk9 hA hB
  replace hH := Hp.kp hH hk9
  replace h_c := Sl.tr h_c ht10
  replace hK := Tr.trans hK ht10
  replace hB := Nat.le_trans hB ht10.ex.size
  replace hA := ht10.new
  refine V_as rfl rfl ?_
  refine V_to (fun _ _ => rfl) ?_
  refine C_seq ?_
  refine C_region ?_
  refine V_as rfl rfl ?_
  refine V_to (fun _ _ => rfl) ?_
  refine C_seq ?_
  refine C_seq ?_
  refine C_region ?_
  have h11 := El_level_Clock_6 h8
  refine V_y (Y_fieldAddr Tryz.underlying39 rfl Tryz.sizeOf37 (by decide) rfl) rfl rfl rfl ?_
  obtain ⟨v12, h13, h14⟩ := El.list h11
  refine V_y (Y_load h13 Tryz.isAgg37 rfl) rfl rfl rfl ?_
  refine V_y (Y_lenSl h14 rfl Tryz.underlying37 rfl) rfl rfl rfl ?_
  refine V_mv rfl rfl ?_
  refine V_to (fun _ _ => rfl) ?_
  have hn35 := Sl.le h14
  obtain ⟨o15, ho15, hm⟩ := Option.bind_eq_some_iff.1 hm
  refine C_cutG (ι := (Int × (Nat → Prop))) (fun ⟨s16, A22⟩ => [(7, .int .i64 s16)]) (fun ⟨s16, A22⟩ => fun w' => o15 = .fin s16 ∧ Hp B A22 w' (obC b_x [v_x] 81 :: obPS (obCk 109 portref2_ShiftsIn) 82 v_x x.clocks :: L) ∧ Tr Dw B A w6 A22 w') ?_ ?_
  · refine C_block ?_
    refine C_range ho15 (fun k18 s24 a w' => ∃ i : (Nat → Prop), Has ⟨42, [], none⟩ a ([(0, .pointer (some ⟨b_x, 0, none⟩)), (2, .int .i64 m), (7, .int .i64 s24), (12, v12), (13, .int .i64 (c.pieces.length : Int)), (14, .int .i64 (k18 : Int))]) ∧ Hp B i w' (obC b_x [v_x] 81 :: obPS (obCk 109 portref2_ShiftsIn) 82 v_x x.clocks :: L) ∧ Tr Dw B A w6 i w') (fun a ha => ⟨A, ha.sub ⟨rfl, rfl, rfl, rfl, rfl, rfl, trivial⟩, ⟨hH, Tr.refl (Dw := Dw) hA⟩⟩) ?_
    rintro K k18 s24 a w25 ⟨A26, ha79, hH27, hr17⟩ hle31 K34 h33
    refine C_of ?_ ha79
    replace h14 := Sl.tr h14 hr17
    replace hK := Tr.trans hK hr17
    replace hB := Nat.le_trans hB hr17.ex.size
    replace hA := hr17.new
    replace hH : Hp B A26 w25 (obC b_x [v_x] 81 :: obPS (obCk 109 portref2_ShiftsIn) 82 v_x x.clocks :: L) := hH27
    refine C_seq (C_region (V_y (Y_lss rfl rfl) rfl rfl rfl (V_to (fun _ _ => rfl) ?_)))
    refine C_seq ?_
    refine C_cond rfl (fun hc36 => ?_) (fun hc36 => ?_)
    · have hlt32 := lt_of_dec hc36
      obtain ⟨x28, h29, h30⟩ := K34 hlt32
      refine C_skip_to (fun _ _ => rfl) ?_
      refine C_seq ?_
      refine C_block ?_
      refine C_seq ?_
      refine C_region ?_
      obtain ⟨x37, hx37, h29⟩ := Option.bind_eq_some_iff.1 h29
      refine V_indexAddr h14 hx37 Tryz.underlying37 Tryz.sizeOf70 rfl rfl rfl ?_
      intro b38 o39 h40
      obtain ⟨h41, _⟩ := El_level_Piece h40
      refine V_y (Y_loadA h41 Tryz.isAgg70 Tryz.sizeOf70 rfl) rfl rfl rfl ?_
      refine V_alloc Tryz.zeroValue70 rfl ?_
      intro b42 w43 h44
      refine V_storeNew h44 Tryz.sizeOf70 rfl rfl rfl rfl (by exact (List.forall_mem_cons.2 ⟨rfl, (List.forall_mem_cons.2 ⟨rfl, (List.forall_mem_cons.2 ⟨rfl, (fun _ h => nomatch h)⟩)⟩)⟩)) ?_
      intro w45 h46
      have hk48 := h46.kp (Dw := Dw)
      have h47 : El (α := level_Piece) A26 w45 b42 0 x37 := h46.el hA ⟨[.int .i64 x37.from_], _, rfl, rfl, ⟨[.int .i64 x37.to_], _, rfl, rfl, rfl⟩⟩
      have ht49 := Kp.tr hk48 hA hB
      replace hH := Hp.kp hH hk48
      replace h14 := Sl.tr h14 ht49
      replace h40 := El.tr h40 ht49
      replace hK := Tr.trans hK ht49
      replace hr17 := Tr.trans hr17 ht49
      replace hB := Nat.le_trans hB ht49.ex.size
      replace hA := ht49.new
      refine V_to (fun _ _ => rfl) ?_
      refine C_seq ?_
      refine C_region ?_
      refine V_mv rfl rfl ?_
      refine V_as rfl rfl ?_
      refine V_to (fun _ _ => rfl) ?_
      refine C_seq ?_
      refine C_seq ?_
      refine C_region ?_
      have h50 := El_level_Piece_1 h47
      refine V_y (Y_fieldAddr Tryz.underlying70 rfl Tryz.sizeOf3 (by decide) rfl) rfl rfl rfl ?_
      refine V_y (Y_load (El.int h50) Tryz.isAgg3 rfl) rfl rfl rfl ?_
      refine V_y (Y_geq rfl rfl) rfl rfl rfl ?_
      refine V_to (fun _ _ => rfl) ?_
      obtain ⟨s52, ho51, h29⟩ := Option.bind_eq_some_iff.1 h29
      refine C_cutG (ι := Unit) (fun (_ : Unit) => [(0, .pointer (some ⟨b_x, 0, none⟩)), (2, .int .i64 m), (7, .int .i64 s24), (9, .pointer (some ⟨b42, 0, none⟩)), (10, .int .i64 s52), (12, v12), (13, .int .i64 (c.pieces.length : Int)), (14, .int .i64 (k18 : Int))]) (fun (_ : Unit) => fun w' => w45 = w') ?_ ?_
      · refine C_cond rfl (fun hc57 => ?_) (fun hc57 => ?_)
        · rw [if_pos hc57] at ho51
          refine C_region ?_
          refine V_mv rfl rfl ?_
          have h58 := El_level_Piece_1 h47
          refine V_y (Y_fieldAddr Tryz.underlying70 rfl Tryz.sizeOf3 (by decide) rfl) rfl rfl rfl ?_
          refine V_y (Y_load (El.int h58) Tryz.isAgg3 rfl) rfl rfl rfl ?_
          refine V_y (Y_min2 rfl rfl) rfl rfl rfl ?_
          refine V_as rfl rfl ?_
          obtain rfl := Option.some.inj ho51
          refine V_end (fun a ha59 => ?_)
          exact ⟨(), ha59.sub ⟨rfl, rfl, rfl, rfl, rfl, rfl, rfl, rfl, trivial⟩, rfl⟩
        · rw [if_neg (nt hc57)] at ho51
          obtain rfl := Option.some.inj ho51
          refine C_skip (fun a ha60 => ?_)
          exact ⟨(), ha60.sub ⟨rfl, rfl, rfl, rfl, rfl, rfl, rfl, rfl, trivial⟩, rfl⟩
      rintro _ _ rfl a ha56
      refine C_at (n := ⟨42, [], none⟩) (fun _ _ => rfl) ?_ ha56
      refine C_region_ch (Dw := Dw) A26 15 [(1, 0), (1, 1), (1, 2), (1, 3), (0, 4), (1, 5), (1, 6), (0, 7), (0, 8), (1, 9), (1, 10), (1, 11), (3, 12), (1, 13), (1, 14)] Tryz_mixed (by kernel_rfl) (fun w61 hk62 => ?_)
      have ht63 := Kp.tr hk62 hA hB
      replace hH := Hp.kp hH hk62
      replace h14 := Sl.tr h14 ht63
      replace h47 := El.tr h47 ht63
      replace hK := Tr.trans hK ht63
      replace hr17 := Tr.trans hr17 ht63
      replace hB := Nat.le_trans hB ht63.ex.size
      replace hA := ht63.new
      refine CH_q2 (Dw := Dw) rfl ?_
      refine VQ_y (fun w' hw' => Y_move rfl) rfl rfl rfl ?_
      refine VQ_CH (Dw := Dw) ?_
      refine CH_q2 (Dw := Dw) rfl ?_
      refine VQ_y (fun w' hw' => Y_move rfl) rfl rfl rfl ?_
      refine VQ_CH (Dw := Dw) ?_
      refine CH_q2 (Dw := Dw) rfl ?_
      refine VQ_y (fun w' hw' => Y_nilCheck rfl) rfl rfl rfl ?_
      refine VQ_CH (Dw := Dw) ?_
      refine CH_q2 (Dw := Dw) rfl ?_
      refine VQ_y (fun w' hw' => Y_fieldAddrC (off2 := 0) Tryz.underlying81 rfl Tryz.sizeOf79 (by decide) rfl rfl) rfl rfl rfl ?_
      refine VQ_CH (Dw := Dw) ?_
      refine CH_q1 (Dw := Dw) rfl ?_
      refine VQ_y (fun w' hw' => Y_load ((World.cell?_of_block (hw'.block _ (World.block_lt_of_cell? _ _ (Hp.cell (j := 0) hH (i := 0) rfl rfl)))).trans (Hp.cell (j := 0) hH (i := 0) rfl rfl)) Tryz.isAgg79 rfl) rfl rfl rfl ?_
      refine VQ_CH (Dw := Dw) ?_
      refine CH_q2 (Dw := Dw) rfl ?_
      have h64 := El_level_Piece_2 h47
      refine VQ_y (fun w' hw' => Y_fieldAddr Tryz.underlying70 rfl Tryz.sizeOf3 (by decide) rfl) rfl rfl rfl ?_
      refine VQ_CH (Dw := Dw) ?_
      refine CH_q2 (Dw := Dw) rfl ?_
      refine VQ_y (fun w' hw' => Y_load (El.int (El.keep h64 (XA.ex hw'))) Tryz.isAgg3 rfl) rfl rfl rfl ?_
      refine VQ_CH (Dw := Dw) ?_
      refine CH_q1 (Dw := Dw) rfl ?_
      obtain ⟨x65, hx65, h29⟩ := Option.bind_eq_some_iff.1 h29
      refine VQ_indexAddrPS (f := obCk 109 portref2_ShiftsIn) (e := 82) (v := v_x) (cs := x.clocks) hH (i := 1) rfl hx65 Tryz.underlying79 Tryz.sizeOf82 rfl rfl rfl ?_
      intro b66 o67 b69 hk70 h68 hH
      replace hH : Hp B A26 w61 (obCk 109 portref2_ShiftsIn b69 x65 :: obC b_x [v_x] 81 :: obPX (obCk 109 portref2_ShiftsIn) 82 v_x x.clocks (Int.toNat x37.calendar) b69 :: L) := hH
      refine VQ_CH (Dw := Dw) ?_
      refine CH_q1 (Dw := Dw) rfl ?_
      refine VQ_y (fun w' hw' => Y_load ((World.cell?_of_block (hw'.block _ (World.block_lt_of_cell? _ _ (h68)))).trans (h68)) Tryz.isAgg82 rfl) rfl rfl rfl ?_
      refine VQ_CH (Dw := Dw) ?_
      refine CH_q2 (Dw := Dw) rfl ?_
      have h71 := El_level_Piece_0 h47
      refine VQ_y (fun w' hw' => Y_fieldAddr Tryz.underlying70 rfl Tryz.sizeOf3 (by decide) rfl) rfl rfl rfl ?_
      refine VQ_CH (Dw := Dw) ?_
      refine CH_q2 (Dw := Dw) rfl ?_
      refine VQ_y (fun w' hw' => Y_load (El.int (El.keep h71 (XA.ex hw'))) Tryz.isAgg3 rfl) rfl rfl rfl ?_
      refine VQ_CH (Dw := Dw) ?_
      refine CH_q2 (Dw := Dw) rfl ?_
      refine VQ_y (fun w' hw' => Y_move rfl) rfl rfl rfl ?_
      refine VQ_CH (Dw := Dw) ?_
      refine CH_l1 (Dw := Dw) (k := 1) rfl ?_
      obtain ⟨x72, hx72, h29⟩ := Option.bind_eq_some_iff.1 h29
      refine V_call Tryz.call47 rfl rfl rfl rfl (portref2_Clock_Worked_c (Dw := Dw) w61 hB hA x65 b69 x37.from_ s52 hH hx72) ?_
      rintro _ w73 ⟨A74, rfl, hH75, ht76⟩
      replace h14 := Sl.tr h14 ht76
      replace h47 := El.tr h47 ht76
      replace h64 := El.tr h64 ht76
      replace h71 := El.tr h71 ht76
      replace hK := Tr.trans hK ht76
      replace hr17 := Tr.trans hr17 ht76
      replace hB := Nat.le_trans hB ht76.ex.size
      replace hA := ht76.new
      replace hH : Hp B A74 w73 (obCk 109 portref2_ShiftsIn b69 x65 :: obC b_x [v_x] 81 :: obPX (obCk 109 portref2_ShiftsIn) 82 v_x x.clocks (Int.toNat x37.calendar) b69 :: L) := hH75
      replace hH : Hp B A74 w73 (obC b_x [v_x] 81 :: obPS (obCk 109 portref2_ShiftsIn) 82 v_x x.clocks :: L) := Hp.psBack hH (i := 1) rfl hk70
      refine V_CHx (Dw := Dw) (XA.tr (Dw := Dw) ht76) ?_
      refine CH_q2 (Dw := Dw) rfl ?_
      refine VQ_y (fun w' hw' => Y_addI rfl rfl) rfl rfl rfl ?_
      refine VQ_CH (Dw := Dw) ?_
      refine CH_q2 (Dw := Dw) rfl ?_
      refine VQ_y (fun w' hw' => Y_assign rfl) rfl rfl rfl ?_
      refine VQ_CH (Dw := Dw) ?_
      refine CH_tail (Dw := Dw) ?_
      show V _ _ _ _ [] _ _
      refine V_to (fun _ _ => rfl) ?_
      refine C_region ?_
      refine V_y (Y_addI rfl rfl) rfl rfl rfl ?_
      refine V_mv rfl rfl ?_
      obtain rfl := Option.some.inj h29
      refine V_end (fun a ha77 => ?_)
      exact ⟨w64 (s24 + x72), hlt32, h30, ⟨A74, ha77.sub ⟨rfl, rfl, rfl, rfl, rfl, (congrArg (fun z => some (Value.int .i64 z)) (w64_succ hlt32 hn35)), trivial⟩, ⟨hH, hr17⟩⟩⟩
    · refine C_exit (fun a ha78 => ?_)
      exact ⟨(s24, A26), ha78.sub ⟨rfl, trivial⟩, ⟨(h33 (eq_of_dec hle31 hc36)).symm, hH, hr17⟩⟩
  rintro ⟨s16, A22⟩ w19 ⟨rfl, hH23, hk20⟩ a ha21
  rw [Lp.andThen_fin] at hm
  replace hK := Tr.trans hK hk20
  replace hB := Nat.le_trans hB hk20.ex.size
  replace hA := hk20.new
  replace hH : Hp B A22 w19 (obC b_x [v_x] 81 :: obPS (obCk 109 portref2_ShiftsIn) 82 v_x x.clocks :: L) := hH23
  refine C_at (n := ⟨42, [], none⟩) (fun _ _ => rfl) ?_ ha21
  refine C_seq ?_
  refine C_region ?_
  refine V_mv rfl rfl ?_
  refine V_as rfl rfl ?_
  refine V_to (fun _ _ => rfl) ?_
  obtain rfl := Option.some.inj hm
  refine C_ret ?_
  try simp only [↓inBlock_ret, ↓then_ret]
  exact retQ rfl (Res.one Tryz.results29 rfl) ⟨A22, rfl, hH, hK⟩

set_option maxRecDepth 4000 in
set_option maxHeartbeats 4000000 in
theorem portref2_meter_state_1_c (w : World) {A : Nat → Prop} (hA : ∀ b, w.heap.size ≤ b → A b) (p : level_Piece) (p1 : Int) (b_p1 : Nat) (h_p1 : El A w b_p1 0 p1) {r : Bool} (hm : portref2_meter_state_1 p p1 = some r) : Ret Tryz.prog 45 #[.agg #[.int .i64 p.from_, .int .i64 p.to_, .int .i64 p.calendar], .pointer (some ⟨b_p1, 0, none⟩)] w fun v w' => v = .bool r ∧ Kp Dw w w' := by
  unfold portref2_meter_state_1 at hm
  refine enter Tryz.func45 rfl Tryz.ntmps45 rfl ?_
  have hA0 := hA
  have hB := Nat.le_refl w.heap.size
  have hK : Tr Dw w.heap.size A w A w := Tr.refl (Dw := Dw) hA
  have hH : Hp w.heap.size A w [] := Hp.nil
  refine C_seq ?_
  refine C_region ?_
  refine V_box rfl rfl ?_
  intro b1 w2 h3
  have hk5 := h3.kp (Dw := Dw)
  have h4 : El (α := level_Piece) A w2 b1 0 p := h3.el hA ⟨[.int .i64 p.from_], _, rfl, rfl, ⟨[.int .i64 p.to_], _, rfl, rfl, rfl⟩⟩
  have ht6 := Kp.tr hk5 hA hB
  replace hH := Hp.kp hH hk5
  replace h_p1 := El.tr h_p1 ht6
  replace hK := Tr.trans hK ht6
  replace hB := Nat.le_trans hB ht6.ex.size
  replace hA := ht6.new
  refine V_as rfl rfl ?_
  refine V_to (fun _ _ => rfl) ?_
  refine C_seq ?_
  refine C_region ?_
  have h7 := El_level_Piece_0 h4
  refine V_y (Y_fieldAddr Tryz.underlying70 rfl Tryz.sizeOf3 (by decide) rfl) rfl rfl rfl ?_
  refine V_y (Y_load (El.int h7) Tryz.isAgg3 rfl) rfl rfl rfl ?_
  refine V_y (Y_load (El.int h_p1) Tryz.isAgg3 rfl) rfl rfl rfl ?_
  refine V_y (Y_leq rfl rfl) rfl rfl rfl ?_
  refine V_mv rfl rfl ?_
  refine V_cut 10 (fun _ : Unit => [(18, .bool ((decide (p.from_ ≤ p1)) && ((decide (p.to_ < 0)) || (decide (p1 < p.to_)))))]) (fun _ w' => w2 = w') ?_ ?_
  · simp only [List.take, List.drop]
    rcases Bool.eq_false_or_eq_true (decide (p.from_ ≤ p1)) with hc8 | hc8
    · refine V_ge rfl rfl rfl hc8 ?_
      have h10 := El_level_Piece_1 h4
      refine V_y (Y_fieldAddr Tryz.underlying70 rfl Tryz.sizeOf3 (by decide) rfl) rfl rfl rfl ?_
      refine V_ge rfl rfl rfl hc8 ?_
      refine V_y (Y_load (El.int h10) Tryz.isAgg3 rfl) rfl rfl rfl ?_
      refine V_ge rfl rfl rfl hc8 ?_
      refine V_y (Y_lss rfl rfl) rfl rfl rfl ?_
      refine V_ge rfl rfl rfl hc8 ?_
      refine V_mv rfl rfl ?_
      refine V_cut 5 (fun _ : Unit => [(8, .bool (decide (p.from_ ≤ p1))), (17, .bool ((decide (p.to_ < 0)) || (decide (p1 < p.to_))))]) (fun _ w' => w2 = w') ?_ ?_
      · simp only [List.take, List.drop]
        rcases Bool.eq_false_or_eq_true (decide (p.to_ < 0)) with hc11 | hc11
        · refine V_gn rfl rfl rfl hc11 rfl rfl rfl ?_
          refine V_gn rfl rfl rfl hc11 rfl rfl rfl ?_
          refine V_gn rfl rfl rfl hc11 rfl rfl rfl ?_
          refine V_gn rfl rfl rfl hc11 rfl rfl rfl ?_
          refine V_ge rfl rfl rfl hc8 ?_
          refine V_y (Y_pick_te rfl hc11 rfl) rfl rfl rfl ?_
          exact V_end fun a ha => ⟨(), ha.sub ⟨rfl, (by rw [hc11]; rfl), trivial⟩, rfl⟩
        · refine V_ge rfl rfl rfl hc11 ?_
          refine V_y (Y_load (El.int h_p1) Tryz.isAgg3 rfl) rfl rfl rfl ?_
          refine V_ge rfl rfl rfl hc11 ?_
          have h13 := El_level_Piece_1 h4
          refine V_y (Y_fieldAddr Tryz.underlying70 rfl Tryz.sizeOf3 (by decide) rfl) rfl rfl rfl ?_
          refine V_ge rfl rfl rfl hc11 ?_
          refine V_y (Y_load (El.int h13) Tryz.isAgg3 rfl) rfl rfl rfl ?_
          refine V_ge rfl rfl rfl hc11 ?_
          refine V_y (Y_lss rfl rfl) rfl rfl rfl ?_
          refine V_ge rfl rfl rfl hc8 ?_
          refine V_y (Y_pick_fe rfl hc11 rfl) rfl rfl rfl ?_
          exact V_end fun a ha => ⟨(), ha.sub ⟨rfl, (by rw [hc11]; rfl), trivial⟩, rfl⟩
      simp only [List.take, List.drop]
      rintro _ _ rfl
      refine V_y (Y_pick_te rfl hc8 rfl) rfl rfl rfl ?_
      exact V_end fun a ha => ⟨(), ha.sub ⟨(by rw [hc8]; rfl), trivial⟩, rfl⟩
    · refine V_gn rfl rfl rfl hc8 rfl rfl rfl ?_
      refine V_gn rfl rfl rfl hc8 rfl rfl rfl ?_
      refine V_gn rfl rfl rfl hc8 rfl rfl rfl ?_
      refine V_gn rfl rfl rfl hc8 rfl rfl rfl ?_
      refine V_gu rfl rfl rfl rfl rfl ?_
      refine V_gu rfl rfl rfl rfl rfl ?_
      refine V_gu rfl rfl rfl rfl rfl ?_
      refine V_gu rfl rfl rfl rfl rfl ?_
      refine V_gn rfl rfl rfl hc8 rfl rfl rfl ?_
      refine V_y (Y_pick_fe rfl hc8 rfl) rfl rfl rfl ?_
      exact V_end fun a ha => ⟨(), ha.sub ⟨(by rw [hc8]; rfl), trivial⟩, rfl⟩
  simp only [List.take, List.drop]
  rintro _ _ rfl
  refine V_as rfl rfl ?_
  refine V_to (fun _ _ => rfl) ?_
  obtain rfl := Option.some.inj hm
  refine C_ret ?_
  try simp only [↓inBlock_ret, ↓then_ret]
  exact retQ rfl (Res.one Tryz.results45 rfl) ⟨rfl, hK.kp⟩

set_option maxRecDepth 4000 in
set_option maxHeartbeats 4000000 in
theorem portref2_meter_state_c (w : World) {A : Nat → Prop} {B : Nat} (hB : B ≤ w.heap.size) (hA : ∀ b, w.heap.size ≤ b → A b) (x : portref2_meter) (b_x : Nat) (v_x : Value) (c : level_Clock) (v_c : Value) (h_c : Sl A w v_c c.pieces) (m : Int) {L : List Ob} (hH : Hp B A w (obC b_x [v_x] 81 :: obPS (obCk 109 portref2_ShiftsIn) 82 v_x x.clocks :: L)) {r : Int} (hm : portref2_meter_state x c m = some r) : Ret Tryz.prog 26 #[.pointer (some ⟨b_x, 0, none⟩), .agg #[.int .i64 c.kind, .int .i64 c.level, .int .i64 c.minutes, .int .i64 c.start, .int .i64 c.stop, .int .i64 c.end_, v_c], .int .i64 m] w fun v w' => ∃ A1 : Nat → Prop, v = .int .i64 r ∧ Hp B A1 w' (obC b_x [v_x] 81 :: obPS (obCk 109 portref2_ShiftsIn) 82 v_x x.clocks :: L) ∧ Tr Dw B A w A1 w' := by
  unfold portref2_meter_state at hm
  refine enter Tryz.func26 rfl Tryz.ntmps26 rfl ?_
  have hK : Tr Dw B A w A w := Tr.refl (Dw := Dw) hA
  refine C_seq ?_
  refine C_region ?_
  refine V_box rfl rfl ?_
  intro b5 w6 h7
  have hk9 := h7.kp (Dw := Dw)
  have h8 : El (α := level_Clock) A w6 b5 0 c := h7.el hA ⟨[.int .i64 c.kind], _, rfl, rfl, ⟨[.int .i64 c.level], _, rfl, rfl, ⟨[.int .i64 c.minutes], _, rfl, rfl, ⟨[.int .i64 c.start], _, rfl, rfl, ⟨[.int .i64 c.stop], _, rfl, rfl, ⟨[.int .i64 c.end_], _, rfl, rfl, ⟨_, rfl, h_c⟩⟩⟩⟩⟩⟩⟩
  have ht10 := Kp.tr hk9 hA hB
  replace hH := Hp.kp hH hk9
  replace h_c := Sl.tr h_c ht10
  replace hK := Tr.trans hK ht10
  replace hB := Nat.le_trans hB ht10.ex.size
  replace hA := ht10.new
  refine V_box rfl rfl ?_
  intro b11 w12 h13
  have hk15 := h13.kp (Dw := Dw)
  have h14 : El (α := Int) A w12 b11 0 m := h13.el hA rfl
  have ht16 := Kp.tr hk15 hA hB
  replace hH := Hp.kp hH hk15
  replace h_c := Sl.tr h_c ht16
  replace h8 := El.tr h8 ht16
  replace hK := Tr.trans hK ht16
  replace hB := Nat.le_trans hB ht16.ex.size
  replace hA := ht16.new
  refine V_as rfl rfl ?_
  refine V_to (fun _ _ => rfl) ?_
  refine C_seq ?_
  refine C_seq ?_
  refine C_region ?_
  have h17 := El_level_Clock_4 h8
  refine V_y (Y_fieldAddr Tryz.underlying39 rfl Tryz.sizeOf3 (by decide) rfl) rfl rfl rfl ?_
  refine V_y (Y_load (El.int h17) Tryz.isAgg3 rfl) rfl rfl rfl ?_
  refine V_y (Y_geq rfl rfl) rfl rfl rfl ?_
  refine V_mv rfl rfl ?_
  refine V_cut 5 (fun _ : Unit => [(0, .pointer (some ⟨b_x, 0, none⟩)), (4, .pointer (some ⟨b5, 0, none⟩)), (5, .pointer (some ⟨b11, 0, none⟩)), (15, .bool ((decide ((0 : Int) ≤ c.stop)) && (decide (c.stop ≤ m))))]) (fun _ w' => w12 = w') ?_ ?_
  · simp only [List.take, List.drop]
    rcases Bool.eq_false_or_eq_true (decide ((0 : Int) ≤ c.stop)) with hc18 | hc18
    · refine V_ge rfl rfl rfl hc18 ?_
      refine V_y (Y_load (El.int h14) Tryz.isAgg3 rfl) rfl rfl rfl ?_
      refine V_ge rfl rfl rfl hc18 ?_
      have h20 := El_level_Clock_4 h8
      refine V_y (Y_fieldAddr Tryz.underlying39 rfl Tryz.sizeOf3 (by decide) rfl) rfl rfl rfl ?_
      refine V_ge rfl rfl rfl hc18 ?_
      refine V_y (Y_load (El.int h20) Tryz.isAgg3 rfl) rfl rfl rfl ?_
      refine V_ge rfl rfl rfl hc18 ?_
      refine V_y (Y_geq rfl rfl) rfl rfl rfl ?_
      refine V_y (Y_pick_te rfl hc18 rfl) rfl rfl rfl ?_
      exact V_end fun a ha => ⟨(), ha.sub ⟨rfl, rfl, rfl, (by rw [hc18]; rfl), trivial⟩, rfl⟩
    · refine V_gn rfl rfl rfl hc18 rfl rfl rfl ?_
      refine V_gn rfl rfl rfl hc18 rfl rfl rfl ?_
      refine V_gn rfl rfl rfl hc18 rfl rfl rfl ?_
      refine V_gn rfl rfl rfl hc18 rfl rfl rfl ?_
      refine V_y (Y_pick_fe rfl hc18 rfl) rfl rfl rfl ?_
      exact V_end fun a ha => ⟨(), ha.sub ⟨rfl, rfl, rfl, (by rw [hc18]; rfl), trivial⟩, rfl⟩
  simp only [List.take, List.drop]
  rintro _ _ rfl
  refine V_to (fun _ _ => rfl) ?_
  refine C_cond rfl (fun hc21 => ?_) (fun hc21 => ?_)
  · rw [if_pos hc21] at hm
    refine C_seq ?_
    refine C_seq ?_
    refine C_region ?_
    have h22 := El_level_Clock_5 h8
    refine V_y (Y_fieldAddr Tryz.underlying39 rfl Tryz.sizeOf3 (by decide) rfl) rfl rfl rfl ?_
    refine V_y (Y_load (El.int h22) Tryz.isAgg3 rfl) rfl rfl rfl ?_
    refine V_y (Y_eql rfl rfl) rfl rfl rfl ?_
    refine V_to (fun _ _ => rfl) ?_
    refine C_cond rfl (fun hc23 => ?_) (fun hc23 => ?_)
    · rw [if_pos hc23] at hm
      refine C_seq ?_
      refine C_region ?_
      refine V_as rfl rfl ?_
      refine V_to (fun _ _ => rfl) ?_
      obtain rfl := Option.some.inj hm
      refine C_ret ?_
      try simp only [↓inBlock_ret, ↓then_ret]
      exact retQ rfl (Res.one Tryz.results26 rfl) ⟨A, rfl, hH, hK⟩
    · rw [if_neg (nt hc23)] at hm
      refine C_skip_to (fun _ _ => rfl) ?_
      refine C_seq ?_
      refine C_seq ?_
      refine C_region_ch (Dw := Dw) A 8 [(1, 0), (1, 1), (1, 2), (1, 3), (1, 5), (1, 6), (3, 4), (1, 7)] Tryz_mixed (by kernel_rfl) (fun w24 hk25 => ?_)
      have ht26 := Kp.tr hk25 hA hB
      replace hH := Hp.kp hH hk25
      replace h8 := El.tr h8 ht26
      replace hK := Tr.trans hK ht26
      replace hB := Nat.le_trans hB ht26.ex.size
      replace hA := ht26.new
      refine CH_q2 (Dw := Dw) rfl ?_
      refine VQ_y (fun w' hw' => Y_move rfl) rfl rfl rfl ?_
      refine VQ_CH (Dw := Dw) ?_
      refine CH_q2 (Dw := Dw) rfl ?_
      obtain ⟨v27, h29, h28⟩ := El_level_Clock h8
      refine VQ_y (fun w' hw' => Y_loadA (At.same h29 (hw'.2 _ h8.2.1 h8.1)) Tryz.isAgg39 Tryz.sizeOf39 rfl) rfl rfl rfl ?_
      refine VQ_CH (Dw := Dw) ?_
      refine CH_q2 (Dw := Dw) rfl ?_
      have h30 := El_level_Clock_4 h8
      refine VQ_y (fun w' hw' => Y_fieldAddr Tryz.underlying39 rfl Tryz.sizeOf3 (by decide) rfl) rfl rfl rfl ?_
      refine VQ_CH (Dw := Dw) ?_
      refine CH_q2 (Dw := Dw) rfl ?_
      refine VQ_y (fun w' hw' => Y_load (El.int (El.keep h30 (XA.ex hw'))) Tryz.isAgg3 rfl) rfl rfl rfl ?_
      refine VQ_CH (Dw := Dw) ?_
      refine CH_q2 (Dw := Dw) rfl ?_
      have h31 := El_level_Clock_2 h8
      refine VQ_y (fun w' hw' => Y_fieldAddr Tryz.underlying39 rfl Tryz.sizeOf3 (by decide) rfl) rfl rfl rfl ?_
      refine VQ_CH (Dw := Dw) ?_
      refine CH_q2 (Dw := Dw) rfl ?_
      refine VQ_y (fun w' hw' => Y_load (El.int (El.keep h31 (XA.ex hw'))) Tryz.isAgg3 rfl) rfl rfl rfl ?_
      refine VQ_CH (Dw := Dw) ?_
      refine CH_l1 (Dw := Dw) (k := 1) rfl ?_
      replace hH : Hp B A w24 (obPS (obCk 109 portref2_ShiftsIn) 82 v_x x.clocks :: obC b_x [v_x] 81 :: L) := Hp.front hH (i := 1) rfl
      replace hH : Hp B A w24 (obC b_x [v_x] 81 :: obPS (obCk 109 portref2_ShiftsIn) 82 v_x x.clocks :: L) := Hp.front hH (i := 1) rfl
      obtain ⟨x32, hx32, hm⟩ := Option.bind_eq_some_iff.1 hm
      refine V_call Tryz.call29 rfl rfl rfl rfl (portref2_meter_elapsed_c (Dw := Dw) w24 hB hA x b_x v_x c v27 h28 c.stop hH hx32) ?_
      rintro _ w33 ⟨A34, rfl, hH35, ht36⟩
      replace h8 := El.tr h8 ht36
      replace h28 := Sl.tr h28 ht36
      replace h30 := El.tr h30 ht36
      replace h31 := El.tr h31 ht36
      replace hK := Tr.trans hK ht36
      replace hB := Nat.le_trans hB ht36.ex.size
      replace hA := ht36.new
      replace hH : Hp B A34 w33 (obC b_x [v_x] 81 :: obPS (obCk 109 portref2_ShiftsIn) 82 v_x x.clocks :: L) := hH35
      refine V_CHx (Dw := Dw) (XA.tr (Dw := Dw) ht36) ?_
      refine CH_q2 (Dw := Dw) rfl ?_
      refine VQ_y (fun w' hw' => Y_leq rfl rfl) rfl rfl rfl ?_
      refine VQ_CH (Dw := Dw) ?_
      refine CH_tail (Dw := Dw) ?_
      show V _ _ _ _ [] _ _
      refine V_to (fun _ _ => rfl) ?_
      refine C_cond rfl (fun hc37 => ?_) (fun hc37 => ?_)
      · rw [if_pos hc37] at hm
        refine C_seq ?_
        refine C_region ?_
        refine V_as rfl rfl ?_
        refine V_to (fun _ _ => rfl) ?_
        obtain rfl := Option.some.inj hm
        refine C_ret ?_
        try simp only [↓inBlock_ret, ↓then_ret]
        exact retQ rfl (Res.one Tryz.results26 rfl) ⟨A34, rfl, hH, hK⟩
      · rw [if_neg (nt hc37)] at hm
        refine C_skip_to (fun _ _ => rfl) ?_
        refine C_seq ?_
        refine C_region ?_
        refine V_as rfl rfl ?_
        refine V_to (fun _ _ => rfl) ?_
        obtain rfl := Option.some.inj hm
        refine C_ret ?_
        try simp only [↓inBlock_ret, ↓then_ret]
        exact retQ rfl (Res.one Tryz.results26 rfl) ⟨A34, rfl, hH, hK⟩
  · rw [if_neg (nt hc21)] at hm
    refine C_skip_to (fun _ _ => rfl) ?_
    refine C_seq ?_
    refine C_seq ?_
    refine C_region_ch (Dw := Dw) A 7 [(1, 0), (1, 1), (1, 2), (1, 4), (1, 5), (3, 3), (1, 6)] Tryz_mixed (by kernel_rfl) (fun w38 hk39 => ?_)
    have ht40 := Kp.tr hk39 hA hB
    replace hH := Hp.kp hH hk39
    replace h8 := El.tr h8 ht40
    replace h14 := El.tr h14 ht40
    replace hK := Tr.trans hK ht40
    replace hB := Nat.le_trans hB ht40.ex.size
    replace hA := ht40.new
    refine CH_q2 (Dw := Dw) rfl ?_
    refine VQ_y (fun w' hw' => Y_move rfl) rfl rfl rfl ?_
    refine VQ_CH (Dw := Dw) ?_
    refine CH_q2 (Dw := Dw) rfl ?_
    obtain ⟨v41, h43, h42⟩ := El_level_Clock h8
    refine VQ_y (fun w' hw' => Y_loadA (At.same h43 (hw'.2 _ h8.2.1 h8.1)) Tryz.isAgg39 Tryz.sizeOf39 rfl) rfl rfl rfl ?_
    refine VQ_CH (Dw := Dw) ?_
    refine CH_q2 (Dw := Dw) rfl ?_
    refine VQ_y (fun w' hw' => Y_load (El.int (El.keep h14 (XA.ex hw'))) Tryz.isAgg3 rfl) rfl rfl rfl ?_
    refine VQ_CH (Dw := Dw) ?_
    refine CH_q2 (Dw := Dw) rfl ?_
    have h44 := El_level_Clock_2 h8
    refine VQ_y (fun w' hw' => Y_fieldAddr Tryz.underlying39 rfl Tryz.sizeOf3 (by decide) rfl) rfl rfl rfl ?_
    refine VQ_CH (Dw := Dw) ?_
    refine CH_q2 (Dw := Dw) rfl ?_
    refine VQ_y (fun w' hw' => Y_load (El.int (El.keep h44 (XA.ex hw'))) Tryz.isAgg3 rfl) rfl rfl rfl ?_
    refine VQ_CH (Dw := Dw) ?_
    refine CH_l1 (Dw := Dw) (k := 1) rfl ?_
    replace hH : Hp B A w38 (obPS (obCk 109 portref2_ShiftsIn) 82 v_x x.clocks :: obC b_x [v_x] 81 :: L) := Hp.front hH (i := 1) rfl
    replace hH : Hp B A w38 (obC b_x [v_x] 81 :: obPS (obCk 109 portref2_ShiftsIn) 82 v_x x.clocks :: L) := Hp.front hH (i := 1) rfl
    obtain ⟨x45, hx45, hm⟩ := Option.bind_eq_some_iff.1 hm
    refine V_call Tryz.call29 rfl rfl rfl rfl (portref2_meter_elapsed_c (Dw := Dw) w38 hB hA x b_x v_x c v41 h42 m hH hx45) ?_
    rintro _ w46 ⟨A47, rfl, hH48, ht49⟩
    replace h8 := El.tr h8 ht49
    replace h14 := El.tr h14 ht49
    replace h42 := Sl.tr h42 ht49
    replace h44 := El.tr h44 ht49
    replace hK := Tr.trans hK ht49
    replace hB := Nat.le_trans hB ht49.ex.size
    replace hA := ht49.new
    replace hH : Hp B A47 w46 (obC b_x [v_x] 81 :: obPS (obCk 109 portref2_ShiftsIn) 82 v_x x.clocks :: L) := hH48
    refine V_CHx (Dw := Dw) (XA.tr (Dw := Dw) ht49) ?_
    refine CH_q2 (Dw := Dw) rfl ?_
    refine VQ_y (fun w' hw' => Y_gtr rfl rfl) rfl rfl rfl ?_
    refine VQ_CH (Dw := Dw) ?_
    refine CH_tail (Dw := Dw) ?_
    show V _ _ _ _ [] _ _
    refine V_to (fun _ _ => rfl) ?_
    refine C_cond rfl (fun hc50 => ?_) (fun hc50 => ?_)
    · rw [if_pos hc50] at hm
      refine C_seq ?_
      refine C_region ?_
      refine V_as rfl rfl ?_
      refine V_to (fun _ _ => rfl) ?_
      obtain rfl := Option.some.inj hm
      refine C_ret ?_
      try simp only [↓inBlock_ret, ↓then_ret]
      exact retQ rfl (Res.one Tryz.results26 rfl) ⟨A47, rfl, hH, hK⟩
    · rw [if_neg (nt hc50)] at hm
      refine C_skip_to (fun _ _ => rfl) ?_
      refine C_seq ?_
      refine C_seq ?_
      refine C_region ?_
      have h51 := El_level_Clock_6 h8
      refine V_y (Y_fieldAddr Tryz.underlying39 rfl Tryz.sizeOf37 (by decide) rfl) rfl rfl rfl ?_
      obtain ⟨v52, h53, h54⟩ := El.list h51
      refine V_y (Y_load h53 Tryz.isAgg37 rfl) rfl rfl rfl ?_
      refine V_y (Y_makeFunc rfl rfl) rfl rfl rfl ?_
      obtain ⟨x56, hx56, hm⟩ := Option.bind_eq_some_iff.1 hm
      refine V_call Tryz.call32 rfl rfl rfl rfl (slices_ContainsFunc_Llevel_Piece_level_Piece_c (Dw := Dw) w46 hA c.pieces v52 h54 (fun y64 => portref2_meter_state_1 y64 m) 45 #[] #[.pointer (some ⟨b11, 0, none⟩)] Tryz.call45 (fun w60 A61 ht62 h63 y57 r58 h59 => (portref2_meter_state_1_c (Dw := Dw) w60 h63 y57 m b11 (El.tr h14 ht62) h59).mono (fun _ _ h => ⟨h.1, h.2⟩)) hx56) ?_
      rintro _ w65 ⟨rfl, hk66⟩
      have ht67 := Kp.tr hk66 hA hB
      replace hH := Hp.kp hH hk66
      replace h8 := El.tr h8 ht67
      replace h14 := El.tr h14 ht67
      replace h51 := El.tr h51 ht67
      replace h54 := Sl.tr h54 ht67
      replace hK := Tr.trans hK ht67
      replace hB := Nat.le_trans hB ht67.ex.size
      replace hA := ht67.new
      refine V_to (fun _ _ => rfl) ?_
      refine C_cond rfl (fun hc68 => ?_) (fun hc68 => ?_)
      · rw [if_pos hc68] at hm
        refine C_seq ?_
        refine C_region ?_
        refine V_as rfl rfl ?_
        refine V_to (fun _ _ => rfl) ?_
        obtain rfl := Option.some.inj hm
        refine C_ret ?_
        try simp only [↓inBlock_ret, ↓then_ret]
        exact retQ rfl (Res.one Tryz.results26 rfl) ⟨A47, rfl, hH, hK⟩
      · rw [if_neg (nt hc68)] at hm
        refine C_skip_to (fun _ _ => rfl) ?_
        refine C_seq ?_
        refine C_region ?_
        refine V_as rfl rfl ?_
        refine V_to (fun _ _ => rfl) ?_
        obtain rfl := Option.some.inj hm
        refine C_ret ?_
        try simp only [↓inBlock_ret, ↓then_ret]
        exact retQ rfl (Res.one Tryz.results26 rfl) ⟨A47, rfl, hH, hK⟩

set_option maxRecDepth 4000 in
set_option maxHeartbeats 4000000 in
theorem portref2_SharesOf_2_c (w : World) {A : Nat → Prop} (hA : ∀ b, w.heap.size ≤ b → A b) (a_ : level_Share) (b : level_Share) {r : Int} (hm : portref2_SharesOf_2 a_ b = some r) : Ret Tryz.prog 28 #[.agg #[.int .i64 a_.level, .int .i64 a_.kind, .int .i64 a_.running, .int .i64 a_.kept, .int .i64 a_.broken, .int .i64 a_.gone], .agg #[.int .i64 b.level, .int .i64 b.kind, .int .i64 b.running, .int .i64 b.kept, .int .i64 b.broken, .int .i64 b.gone]] w fun v w' => v = .int .i64 r ∧ Kp Dw w w' := by
  unfold portref2_SharesOf_2 at hm
  refine enter Tryz.func28 rfl Tryz.ntmps28 rfl ?_
  have hA0 := hA
  have hB := Nat.le_refl w.heap.size
  have hK : Tr Dw w.heap.size A w A w := Tr.refl (Dw := Dw) hA
  have hH : Hp w.heap.size A w [] := Hp.nil
  refine C_seq ?_
  refine C_region ?_
  refine V_box rfl rfl ?_
  intro b1 w2 h3
  have hk5 := h3.kp (Dw := Dw)
  have h4 : El (α := level_Share) A w2 b1 0 a_ := h3.el hA ⟨[.int .i64 a_.level], _, rfl, rfl, ⟨[.int .i64 a_.kind], _, rfl, rfl, ⟨[.int .i64 a_.running], _, rfl, rfl, ⟨[.int .i64 a_.kept], _, rfl, rfl, ⟨[.int .i64 a_.broken], _, rfl, rfl, rfl⟩⟩⟩⟩⟩
  have ht6 := Kp.tr hk5 hA hB
  replace hH := Hp.kp hH hk5
  replace hK := Tr.trans hK ht6
  replace hB := Nat.le_trans hB ht6.ex.size
  replace hA := ht6.new
  refine V_box rfl rfl ?_
  intro b7 w9 h10
  have hk12 := h10.kp (Dw := Dw)
  have h11 : El (α := level_Share) A w9 b7 0 b := h10.el hA ⟨[.int .i64 b.level], _, rfl, rfl, ⟨[.int .i64 b.kind], _, rfl, rfl, ⟨[.int .i64 b.running], _, rfl, rfl, ⟨[.int .i64 b.kept], _, rfl, rfl, ⟨[.int .i64 b.broken], _, rfl, rfl, rfl⟩⟩⟩⟩⟩
  have ht13 := Kp.tr hk12 hA hB
  replace hH := Hp.kp hH hk12
  replace h4 := El.tr h4 ht13
  replace hK := Tr.trans hK ht13
  replace hB := Nat.le_trans hB ht13.ex.size
  replace hA := ht13.new
  refine V_as rfl rfl ?_
  refine V_to (fun _ _ => rfl) ?_
  refine C_seq ?_
  refine C_region_qt (Dw := Dw) 10 Tryz_mixed (by kernel_rfl) ?_
  simp only [List.take, List.drop]
  have h14 := El_level_Share_0 h4
  refine VQ_y (fun w' hw' => Y_fieldAddr Tryz.underlying32 rfl Tryz.sizeOf3 (by decide) rfl) rfl rfl rfl ?_
  refine VQ_y (fun w' hw' => Y_load (El.int (El.kp (Dw := Dw) h14 hw')) Tryz.isAgg3 rfl) rfl rfl rfl ?_
  have h15 := El_level_Share_0 h11
  refine VQ_y (fun w' hw' => Y_fieldAddr Tryz.underlying32 rfl Tryz.sizeOf3 (by decide) rfl) rfl rfl rfl ?_
  refine VQ_y (fun w' hw' => Y_load (El.int (El.kp (Dw := Dw) h15 hw')) Tryz.isAgg3 rfl) rfl rfl rfl ?_
  refine VQ_call (.int .i64 (cmp_Compare_int a_.level b.level)) Tryz.call15 rfl rfl rfl rfl (fun w' hw' => (cmp_Compare_int_c w' a_.level b.level).mono (fun _ _ h => ⟨h.1, h.2 ▸ hw'⟩)) ?_
  have h16 := El_level_Share_1 h4
  refine VQ_y (fun w' hw' => Y_fieldAddr Tryz.underlying32 rfl Tryz.sizeOf3 (by decide) rfl) rfl rfl rfl ?_
  refine VQ_y (fun w' hw' => Y_load (El.int (El.kp (Dw := Dw) h16 hw')) Tryz.isAgg3 rfl) rfl rfl rfl ?_
  have h17 := El_level_Share_1 h11
  refine VQ_y (fun w' hw' => Y_fieldAddr Tryz.underlying32 rfl Tryz.sizeOf3 (by decide) rfl) rfl rfl rfl ?_
  refine VQ_y (fun w' hw' => Y_load (El.int (El.kp (Dw := Dw) h17 hw')) Tryz.isAgg3 rfl) rfl rfl rfl ?_
  refine VQ_call (.int .i64 (cmp_Compare_int a_.kind b.kind)) Tryz.call15 rfl rfl rfl rfl (fun w' hw' => (cmp_Compare_int_c w' a_.kind b.kind).mono (fun _ _ h => ⟨h.1, h.2 ▸ hw'⟩)) ?_
  refine VQ_tail (fun w18 hk19 => ?_)
  try simp only [List.take, List.drop]
  have ht20 := Kp.tr hk19 hA hB
  replace hH := Hp.kp hH hk19
  replace h4 := El.tr h4 ht20
  replace h11 := El.tr h11 ht20
  replace h14 := El.tr h14 ht20
  replace h15 := El.tr h15 ht20
  replace h16 := El.tr h16 ht20
  replace h17 := El.tr h17 ht20
  replace hK := Tr.trans hK ht20
  replace hB := Nat.le_trans hB ht20.ex.size
  replace hA := ht20.new
  refine V_buildSlice (Dw := Dw) (cells := #[.int .i64 (cmp_Compare_int a_.level b.level), .int .i64 (cmp_Compare_int a_.kind b.kind)]) (l := ([(cmp_Compare_int a_.level b.level), (cmp_Compare_int a_.kind b.kind)] : List Int)) (len := 2) Tryz.underlying48 Tryz.sizeOf3 Tryz.zeroValue3 rfl (by generalize ((cmp_Compare_int a_.level b.level) : Int) = z25; generalize ((cmp_Compare_int a_.kind b.kind) : Int) = z26; kernel_rfl) (show (2 * 1 : Nat) ≠ 0 by decide) (show (2 * 1 : Nat) ≤ 2 ^ 24 by decide) hA ⟨[.int .i64 (cmp_Compare_int a_.level b.level)], _, rfl, rfl, ⟨[.int .i64 (cmp_Compare_int a_.kind b.kind)], _, rfl, rfl, rfl⟩⟩ rfl rfl ?_
  intro v21 w22 hk24 h23
  have ht27 := Kp.tr hk24 hA hB
  replace hH := Hp.kp hH hk24
  replace h4 := El.tr h4 ht27
  replace h11 := El.tr h11 ht27
  replace h14 := El.tr h14 ht27
  replace h15 := El.tr h15 ht27
  replace h16 := El.tr h16 ht27
  replace h17 := El.tr h17 ht27
  replace hK := Tr.trans hK ht27
  replace hB := Nat.le_trans hB ht27.ex.size
  replace hA := ht27.new
  obtain ⟨x28, hx28, hm⟩ := Option.bind_eq_some_iff.1 hm
  refine V_call Tryz.call14 rfl rfl rfl rfl (cmp_Or_int_c w22 ([(cmp_Compare_int a_.level b.level), (cmp_Compare_int a_.kind b.kind)] : List Int) v21 h23 hx28) ?_
  rintro _ _ ⟨rfl, rfl⟩
  refine V_as rfl rfl ?_
  refine V_to (fun _ _ => rfl) ?_
  obtain rfl := Option.some.inj hm
  refine C_ret ?_
  try simp only [↓inBlock_ret, ↓then_ret]
  exact retQ rfl (Res.one Tryz.results28 rfl) ⟨rfl, hK.kp⟩

def Tryz_sf27_ren : Go.Shelf.Ren := ⟨fun | 6 => 27 | 14 => 46 | 15 => 40 | 20 => 68 | 21 => 69 | 22 => 70 | 23 => 71 | 24 => 72 | 25 => 73 | 26 => 74 | 27 => 75 | 28 => 65 | 29 => 66 | 46 => 88 | 47 => 82 | 48 => 83 | 49 => 89 | 50 => 90 | 57 => 100 | n => n, fun | 0 => 0 | 1 => 1 | 2 => 2 | 3 => 3 | 4 => 4 | 5 => 5 | 6 => 6 | 7 => 7 | 8 => 8 | 9 => 9 | 10 => 10 | 11 => 11 | 12 => 12 | 13 => 13 | 14 => 14 | 15 => 15 | 16 => 16 | 17 => 17 | 18 => 18 | 19 => 19 | 20 => 20 | 21 => 21 | 22 => 24 | 23 => 56 | 24 => 32 | 25 => 57 | 26 => 120 | 27 => 48 | 29 => 43 | 30 => 49 | 37 => 84 | 38 => 77 | 39 => 72 | 40 => 54 | 42 => 50 | 44 => 110 | 45 => 96 | 46 => 97 | 47 => 111 | 48 => 112 | 49 => 113 | 50 => 40 | 51 => 114 | 52 => 103 | 53 => 104 | 54 => 105 | 55 => 106 | 66 => 122 | 67 => 123 | 68 => 124 | 69 => 128 | 70 => 126 | 71 => 129 | 76 => 137 | 77 => 130 | 78 => 139 | 81 => 147 | 82 => 148 | 83 => 149 | 84 => 150 | 85 => 151 | 86 => 152 | 87 => 153 | 88 => 154 | 89 => 155 | 90 => 156 | 91 => 157 | 92 => 158 | 93 => 159 | 94 => 160 | 95 => 161 | 96 => 164 | n => n, fun n => n⟩
theorem Tryz_sf27_lay : Go.Proofs.SlLaysF0.n6 Tryz.prog Tryz_sf27_ren := {
  mixed := by kernel_rfl,
  f6 := ⟨ "slices.SortFunc[[]porterslodge/level.Share,porterslodge/level.Share]", by kernel_rfl, Tryz.func27.trans (congrArg some (by kernel_rfl))⟩,
  f14 := ⟨ "slices.pdqsortCmpFunc[porterslodge/level.Share]", by kernel_rfl, Tryz.func46.trans (congrArg some (by kernel_rfl))⟩,
  f15 := Tryz.func40.trans (congrArg some (by kernel_rfl)),
  f20 := ⟨ "slices.insertionSortCmpFunc[porterslodge/level.Share]", by kernel_rfl, Tryz.func68.trans (congrArg some (by kernel_rfl))⟩,
  f21 := ⟨ "slices.heapSortCmpFunc[porterslodge/level.Share]", by kernel_rfl, Tryz.func69.trans (congrArg some (by kernel_rfl))⟩,
  f22 := ⟨ "slices.breakPatternsCmpFunc[porterslodge/level.Share]", by kernel_rfl, Tryz.func70.trans (congrArg some (by kernel_rfl))⟩,
  f23 := ⟨ "slices.choosePivotCmpFunc[porterslodge/level.Share]", by kernel_rfl, Tryz.func71.trans (congrArg some (by kernel_rfl))⟩,
  f24 := ⟨ "slices.reverseRangeCmpFunc[porterslodge/level.Share]", by kernel_rfl, Tryz.func72.trans (congrArg some (by kernel_rfl))⟩,
  f25 := ⟨ "slices.partialInsertionSortCmpFunc[porterslodge/level.Share]", by kernel_rfl, Tryz.func73.trans (congrArg some (by kernel_rfl))⟩,
  f26 := ⟨ "slices.partitionEqualCmpFunc[porterslodge/level.Share]", by kernel_rfl, Tryz.func74.trans (congrArg some (by kernel_rfl))⟩,
  f27 := ⟨ "slices.partitionCmpFunc[porterslodge/level.Share]", by kernel_rfl, Tryz.func75.trans (congrArg some (by kernel_rfl))⟩,
  f28 := Tryz.func65.trans (congrArg some (by kernel_rfl)),
  f29 := Tryz.func66.trans (congrArg some (by kernel_rfl)),
  f46 := ⟨ "slices.siftDownCmpFunc[porterslodge/level.Share]", by kernel_rfl, Tryz.func88.trans (congrArg some (by kernel_rfl))⟩,
  f47 := Tryz.func82.trans (congrArg some (by kernel_rfl)),
  f48 := Tryz.func83.trans (congrArg some (by kernel_rfl)),
  f49 := ⟨ "slices.medianAdjacentCmpFunc[porterslodge/level.Share]", by kernel_rfl, Tryz.func89.trans (congrArg some (by kernel_rfl))⟩,
  f50 := ⟨ "slices.medianCmpFunc[porterslodge/level.Share]", by kernel_rfl, Tryz.func90.trans (congrArg some (by kernel_rfl))⟩,
  f57 := ⟨ "slices.order2CmpFunc[porterslodge/level.Share]", by kernel_rfl, Tryz.func100.trans (congrArg some (by kernel_rfl))⟩,
  t0 := Tryz.underlying0,
  a0 := Tryz.isAgg0,
  z0 := Tryz.sizeOf0,
  v0 := Tryz.zeroValue0,
  t3 := Tryz.underlying3,
  a3 := Tryz.isAgg3,
  z3 := Tryz.sizeOf3,
  v3 := Tryz.zeroValue3,
  t4 := Tryz.underlying4,
  a4 := Tryz.isAgg4,
  z4 := Tryz.sizeOf4,
  v4 := Tryz.zeroValue4,
  t5 := Tryz.underlying5,
  a5 := Tryz.isAgg5,
  z5 := Tryz.sizeOf5,
  v5 := Tryz.zeroValue5,
  t9 := Tryz.underlying9,
  a9 := Tryz.isAgg9,
  z9 := Tryz.sizeOf9,
  v9 := Tryz.zeroValue9,
  t22 := Tryz.underlying24,
  a22 := Tryz.isAgg24,
  z22 := Tryz.sizeOf24,
  v22 := Tryz.zeroValue24,
  t25 := Tryz.underlying57,
  a25 := Tryz.isAgg57,
  z25 := Tryz.sizeOf57,
  v25 := Tryz.zeroValue57,
  t39 := Tryz.underlying72,
  a39 := Tryz.isAgg72,
  z39 := Tryz.sizeOf72,
  v39 := Tryz.zeroValue72,
  t45 := Tryz.underlying96,
  a45 := Tryz.isAgg96,
  z45 := Tryz.sizeOf96,
  v45 := Tryz.zeroValue96,
  t46 := Tryz.underlying97,
  a46 := Tryz.isAgg97,
  z46 := Tryz.sizeOf97,
  v46 := Tryz.zeroValue97,
  t50 := Tryz.underlying40,
  a50 := Tryz.isAgg40,
  z50 := Tryz.sizeOf40,
  v50 := Tryz.zeroValue40,
  t53 := Tryz.underlying104,
  a53 := Tryz.isAgg104,
  z53 := Tryz.sizeOf104,
  v53 := Tryz.zeroValue104,
  t55 := Tryz.underlying106,
  a55 := Tryz.isAgg106,
  z55 := Tryz.sizeOf106,
  v55 := Tryz.zeroValue106,
  t66 := Tryz.underlying122,
  a66 := Tryz.isAgg122,
  z66 := Tryz.sizeOf122,
  v66 := Tryz.zeroValue122,
  t70 := Tryz.underlying126,
  a70 := Tryz.isAgg126,
  z70 := Tryz.sizeOf126,
  v70 := Tryz.zeroValue126,
  t76 := Tryz.underlying137,
  a76 := Tryz.isAgg137,
  z76 := Tryz.sizeOf137,
  v76 := Tryz.zeroValue137,
  t77 := Tryz.underlying130,
  a77 := Tryz.isAgg130,
  z77 := Tryz.sizeOf130,
  v77 := Tryz.zeroValue130 }
theorem Tryz_sf27 {cmp : level_Share → level_Share → Option Int} {l r : List level_Share} {g : FuncId} {cb : Array Value} {B : Nat} {A : Nat → Prop} {w : World} {L : List Ob} {i : Nat} {v : Value} (eg : ∀ (args : Array Value) (w : World), (callFunc g args).run Tryz.prog w = .ok (.enter g args) w) (hcl : ∀ (w1 : World), Tr True B A w A w1 → (∀ b, w1.heap.size ≤ b → A b) → ∀ (x y : level_Share) (cx cy : List Value) (c : Int), GoT.rep A w1 cx x → GoT.rep A w1 cy y → cmp x y = some c → Ret Tryz.prog g (#[.agg cx.toArray, .agg cy.toArray] ++ cb) w1 fun v w' => v = .int .i64 c ∧ Kp True w1 w') (hH : Hp B A w L) (hi : L[i]? = some (obS (α := level_Share) 32 v l)) (hB : B ≤ w.heap.size) (hA : ∀ b, w.heap.size ≤ b → A b) (hr : sortFuncL cmp l = some r) : Ret Tryz.prog 27 #[v, .func (.func g) #[] cb] w fun u w' => u = .tuple #[] ∧ Hp B A w' (L.set i (obS (α := level_Share) 32 v r)) ∧ Tr Dw B A w A w' :=
  Hp.sortFuncK (Dw := Dw) (fun p c w => Go.Proofs.AnyF.slices_SortFunc_none Tryz_sf27_lay p c _ w) (fun enc hk hone cf hO blk off cap d w hc hh hb hs => Go.Proofs.AnyQ.slices_SortFunc Tryz_sf27_lay _ Tryz.isAgg32 Tryz.sizeOf32 enc hk hone cf hO g cb blk off cap d w eg hc hh hb hs) hcl hH hi hB hA hr

end Go.Proofs.YtnjlojicebcikaaGreat.W
