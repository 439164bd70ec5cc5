/-
  Written by program (gen.py) from the IR of the dump: each function computes its model.
-/
import Derived.Test.YtnjlojicebcikaaGreatClockSharesW4
namespace Go.Proofs.YtnjlojicebcikaaGreat.W
open Go Go.RowKit Go.Pu Go.Gw Go.Proofs Go.Proofs.YtnjlojicebcikaaGreat.M
set_option linter.unusedVariables false
set_option linter.unusedSimpArgs false
variable {Dw : Prop}

set_option maxRecDepth 4000 in
set_option maxHeartbeats 4000000 in
theorem portref2_SharesOf_c (w : World) {A : Nat → Prop} (hA : ∀ b, w.heap.size ≤ b → A b) (l : (List level_Clock)) (v_l : Value) (h_l : Sl A w v_l l) (cals : (List cal_Calendar)) (v_cals : Value) (h_cals : Sl A w v_cals cals) (m : Int) {r : ((List level_Share) × Int)} (hm : portref2_SharesOf l cals m = some r) : Ret Tryz.prog 6 #[v_l, v_cals, .int .i64 m] w fun v w' => ∃ s0, v = .tuple #[s0, .int .i64 r.2] ∧ Ownd 32 w w' s0 r.1 ∧ Kp Dw w w' := by
  unfold portref2_SharesOf at hm
  refine enter Tryz.func6 rfl Tryz.ntmps6 rfl ?_
  have hA0 := hA
  have hB := Nat.le_refl w.heap.size
  have hK : Tr Dw w.heap.size A w A w := Tr.refl (Dw := Dw) hA
  have hH : Hp w.heap.size A w [] := Hp.nil
  refine C_seq ?_
  refine C_region ?_
  refine V_as rfl rfl ?_
  refine V_as rfl rfl ?_
  refine V_to (fun _ _ => rfl) ?_
  refine C_seq ?_
  refine C_seq ?_
  refine C_region ?_
  refine V_mv rfl rfl ?_
  refine V_mv rfl rfl ?_
  obtain ⟨x5, hx5, hm⟩ := Option.bind_eq_some_iff.1 hm
  refine V_call Tryz.call21 rfl rfl rfl rfl (portref2_clocksFault_c (Dw := Dw) w hA l v_l h_l cals v_cals h_cals hx5) ?_
  rintro _ w6 ⟨rfl, hk7⟩
  have ht8 := Kp.tr hk7 hA hB
  replace hH := Hp.kp hH hk7
  replace h_l := Sl.tr h_l ht8
  replace h_cals := Sl.tr h_cals ht8
  replace hK := Tr.trans hK ht8
  replace hB := Nat.le_trans hB ht8.ex.size
  replace hA := ht8.new
  refine V_as rfl rfl ?_
  refine V_to (fun _ _ => rfl) ?_
  refine C_seq ?_
  refine C_region ?_
  refine V_mv rfl rfl ?_
  refine V_y (Y_neq rfl rfl) rfl rfl rfl ?_
  refine V_to (fun _ _ => rfl) ?_
  refine C_cond rfl (fun hc9 => ?_) (fun hc9 => ?_)
  · rw [if_pos hc9] at hm
    refine C_seq ?_
    refine C_region ?_
    refine V_mv rfl rfl ?_
    refine V_as rfl rfl ?_
    refine V_as rfl rfl ?_
    refine V_to (fun _ _ => rfl) ?_
    obtain rfl := Option.some.inj hm
    replace hH : Hp w.heap.size A w6 (obS (α := level_Share) 32 (.slice none 0 0) ([] : (List level_Share)) :: []) := Hp.addNil (α := level_Share) (e := 32) hH
    refine C_ret ?_
    try simp only [↓inBlock_ret, ↓then_ret]
    exact retQ rfl (Res.two Tryz.results6 rfl rfl) ⟨.slice none 0 0, rfl, (Hp.ownd hH (i := 0) rfl), hK.kp⟩
  · rw [if_neg (nt hc9)] at hm
    refine C_skip_to (fun _ _ => rfl) ?_
    refine C_seq ?_
    refine C_seq ?_
    refine C_region ?_
    refine V_mv rfl rfl ?_
    refine V_call Tryz.call22 rfl rfl rfl rfl (portref2_IsMoment_c w6 m) ?_
    rintro _ _ ⟨rfl, rfl⟩
    refine V_y (Y_not rfl) rfl rfl rfl ?_
    refine V_to (fun _ _ => rfl) ?_
    refine C_cond rfl (fun hc10 => ?_) (fun hc10 => ?_)
    · rw [if_pos hc10] at hm
      refine C_seq ?_
      refine C_region ?_
      refine V_as rfl rfl ?_
      refine V_as rfl rfl ?_
      refine V_to (fun _ _ => rfl) ?_
      obtain rfl := Option.some.inj hm
      replace hH : Hp w.heap.size A w6 (obS (α := level_Share) 32 (.slice none 0 0) ([] : (List level_Share)) :: []) := Hp.addNil (α := level_Share) (e := 32) hH
      refine C_ret ?_
      try simp only [↓inBlock_ret, ↓then_ret]
      exact retQ rfl (Res.two Tryz.results6 rfl rfl) ⟨.slice none 0 0, rfl, (Hp.ownd hH (i := 0) rfl), hK.kp⟩
    · rw [if_neg (nt hc10)] at hm
      refine C_skip_to (fun _ _ => rfl) ?_
      refine C_seq ?_
      refine C_region ?_
      refine V_mv rfl rfl ?_
      obtain ⟨x11, hx11, hm⟩ := Option.bind_eq_some_iff.1 hm
      refine V_call Tryz.call23 rfl rfl rfl rfl (portref2_newMeter_c (Dw := Dw) w6 hB hA cals v_cals h_cals hH hx11) ?_
      rintro _ w15 ⟨b12, v13, A16, rfl, hH17, ht18⟩
      replace h_l := Sl.tr h_l ht18
      replace h_cals := Sl.tr h_cals ht18
      replace hK := Tr.trans hK ht18
      replace hB := Nat.le_trans hB ht18.ex.size
      replace hA := ht18.new
      replace hH : Hp w.heap.size A16 w15 (obC b12 [v13] 81 :: obPS (obCk 109 portref2_ShiftsIn) 82 v13 x11.clocks :: []) := hH17
      refine V_as rfl rfl ?_
      refine V_to (fun _ _ => rfl) ?_
      refine C_seq ?_
      refine C_region ?_
      refine V_as rfl rfl ?_
      refine V_to (fun _ _ => rfl) ?_
      refine C_seq ?_
      refine C_seq ?_
      refine C_region ?_
      refine V_mv rfl rfl ?_
      refine V_y (Y_lenSl h_l rfl Tryz.underlying22 rfl) rfl rfl rfl ?_
      refine V_mv rfl rfl ?_
      refine V_to (fun _ _ => rfl) ?_
      replace hH : Hp w.heap.size A16 w15 (obS (α := level_Share) 32 (.slice none 0 0) ([] : (List level_Share)) :: obC b12 [v13] 81 :: obPS (obCk 109 portref2_ShiftsIn) 82 v13 x11.clocks :: []) := Hp.addNil (α := level_Share) (e := 32) hH
      have hn43 := Sl.le h_l
      obtain ⟨o19, ho19, hm⟩ := Option.bind_eq_some_iff.1 hm
      refine C_cutG (ι := ((List level_Share) × Value × (Nat → Prop))) (fun ⟨s20, v26, A28⟩ => [(10, v26)]) (fun ⟨s20, v26, A28⟩ => fun w' => o19 = .fin s20 ∧ Hp w.heap.size A28 w' (obS (α := level_Share) 32 v26 s20 :: obC b12 [v13] 81 :: obPS (obCk 109 portref2_ShiftsIn) 82 v13 x11.clocks :: []) ∧ Tr Dw w.heap.size A16 w15 A28 w') ?_ ?_
      · refine C_block ?_
        refine C_range ho19 (fun k22 s30 a w' => ∃ i : (Value × (Nat → Prop)), Has ⟨96, [], none⟩ a ([(2, .int .i64 m), (9, .pointer (some ⟨b12, 0, none⟩)), (10, i.1), (25, v_l), (26, .int .i64 (l.length : Int)), (27, .int .i64 (k22 : Int))]) ∧ Hp w.heap.size i.2 w' (obS (α := level_Share) 32 i.1 s30 :: obC b12 [v13] 81 :: obPS (obCk 109 portref2_ShiftsIn) 82 v13 x11.clocks :: []) ∧ Tr Dw w.heap.size A16 w15 i.2 w') (fun a ha => ⟨(.slice none 0 0, A16), ha.sub ⟨rfl, rfl, rfl, rfl, rfl, rfl, trivial⟩, ⟨hH, Tr.refl (Dw := Dw) hA⟩⟩) ?_
        rintro K k22 s30 a w31 ⟨⟨v32, A34⟩, ha236, hH35, hr21⟩ hle39 K42 h41
        refine C_of ?_ ha236
        replace h_l := Sl.tr h_l hr21
        replace hK := Tr.trans hK hr21
        replace hB := Nat.le_trans hB hr21.ex.size
        replace hA := hr21.new
        replace hH : Hp w.heap.size A34 w31 (obS (α := level_Share) 32 v32 s30 :: obC b12 [v13] 81 :: obPS (obCk 109 portref2_ShiftsIn) 82 v13 x11.clocks :: []) := hH35
        refine C_seq (C_region (V_y (Y_lss rfl rfl) rfl rfl rfl (V_to (fun _ _ => rfl) ?_)))
        refine C_seq ?_
        refine C_cond rfl (fun hc44 => ?_) (fun hc44 => ?_)
        · have hlt40 := lt_of_dec hc44
          obtain ⟨x36, h37, h38⟩ := K42 hlt40
          refine C_skip_to (fun _ _ => rfl) ?_
          refine C_seq ?_
          obtain ⟨s46, ho45, h37⟩ := Option.bind_eq_some_iff.1 h37
          refine C_cutG (ι := (Value × (Nat → Prop))) (fun ⟨v48, A53⟩ => [(2, .int .i64 m), (9, .pointer (some ⟨b12, 0, none⟩)), (10, v48), (25, v_l), (26, .int .i64 (l.length : Int)), (27, .int .i64 (k22 : Int))]) (fun ⟨v48, A53⟩ => fun w' => Hp w.heap.size A53 w' (obS (α := level_Share) 32 v48 s46 :: obC b12 [v13] 81 :: obPS (obCk 109 portref2_ShiftsIn) 82 v13 x11.clocks :: []) ∧ Tr Dw w.heap.size A34 w31 A53 w') ?_ ?_
          · have hr47 : Tr Dw w.heap.size A34 w31 A34 w31 := Tr.refl (Dw := Dw) hA
            refine C_block ?_
            refine C_seq ?_
            refine C_region ?_
            obtain ⟨x55, hx55, ho45⟩ := Option.bind_eq_some_iff.1 ho45
            refine V_indexAddr h_l hx55 Tryz.underlying22 Tryz.sizeOf39 rfl rfl rfl ?_
            intro b56 o57 h58
            obtain ⟨v59, h61, h60⟩ := El_level_Clock h58
            refine V_y (Y_loadA h61 Tryz.isAgg39 Tryz.sizeOf39 rfl) rfl rfl rfl ?_
            refine V_alloc Tryz.zeroValue39 rfl ?_
            intro b62 w63 h64
            have h69 : (v59).oneCell' = true := by obtain ⟨_, _, e, _⟩ := Sl.form h60; rw [e]; rfl
            refine V_storeNew h64 Tryz.sizeOf39 rfl rfl rfl rfl (by exact (List.forall_mem_cons.2 ⟨rfl, (List.forall_mem_cons.2 ⟨rfl, (List.forall_mem_cons.2 ⟨rfl, (List.forall_mem_cons.2 ⟨rfl, (List.forall_mem_cons.2 ⟨rfl, (List.forall_mem_cons.2 ⟨rfl, (List.forall_mem_cons.2 ⟨h69, (fun _ h => nomatch h)⟩)⟩)⟩)⟩)⟩)⟩)⟩)) ?_
            intro w65 h66
            have hk71 := h66.kp (Dw := Dw)
            have h70 : El (α := level_Clock) A34 w65 b62 0 x55 := h66.el hA ⟨[.int .i64 x55.kind], _, rfl, rfl, ⟨[.int .i64 x55.level], _, rfl, rfl, ⟨[.int .i64 x55.minutes], _, rfl, rfl, ⟨[.int .i64 x55.start], _, rfl, rfl, ⟨[.int .i64 x55.stop], _, rfl, rfl, ⟨[.int .i64 x55.end_], _, rfl, rfl, ⟨_, rfl, h60⟩⟩⟩⟩⟩⟩⟩
            have ht72 := Kp.tr hk71 hA hB
            replace hH := Hp.kp hH hk71
            replace h_l := Sl.tr h_l ht72
            replace h58 := El.tr h58 ht72
            replace h60 := Sl.tr h60 ht72
            replace hK := Tr.trans hK ht72
            replace hr21 := Tr.trans hr21 ht72
            replace hr47 := Tr.trans hr47 ht72
            replace hB := Nat.le_trans hB ht72.ex.size
            replace hA := ht72.new
            refine V_to (fun _ _ => rfl) ?_
            refine C_seq ?_
            refine C_seq ?_
            refine C_region ?_
            have h73 := El_level_Clock_3 h70
            refine V_y (Y_fieldAddr Tryz.underlying39 rfl Tryz.sizeOf3 (by decide) rfl) rfl rfl rfl ?_
            refine V_y (Y_load (El.int h73) Tryz.isAgg3 rfl) rfl rfl rfl ?_
            refine V_mv rfl rfl ?_
            refine V_y (Y_gtr rfl rfl) rfl rfl rfl ?_
            refine V_to (fun _ _ => rfl) ?_
            refine C_cond rfl (fun hc74 => ?_) (fun hc74 => ?_)
            · rw [if_pos hc74] at ho45
              obtain rfl := Option.some.inj ho45
              refine C_exit (fun a ha75 => ?_)
              exact ⟨(v32, A34), ha75.sub ⟨rfl, rfl, rfl, rfl, rfl, rfl, trivial⟩, ⟨hH, hr47⟩⟩
            · rw [if_neg (nt hc74)] at ho45
              refine C_skip_to (fun _ _ => rfl) ?_
              refine C_seq ?_
              refine C_region ?_
              refine V_mv rfl rfl ?_
              refine V_y (Y_makeFunc rfl rfl) rfl rfl rfl ?_
              obtain ⟨x77, hx77, ho45⟩ := Option.bind_eq_some_iff.1 ho45
              refine V_call Tryz.call24 rfl rfl rfl rfl (slices_IndexFunc_Llevel_Share_level_Share_c (Dw := Dw) w65 (A := fun _ => True) (fun _ _ => trivial) s30 v32 (Hp.any (α := level_Share) (e := 32) (v := v32) (l := s30) hH (i := 0) rfl) (fun y85 => portref2_SharesOf_1 y85 x55) 25 #[] #[.pointer (some ⟨b62, 0, none⟩)] Tryz.call25 (fun w81 A82 ht83 h84 y78 r79 h80 => (portref2_SharesOf_1_c (Dw := Dw) w81 h84 y78 x55 b62 (El.tr (El.keep h70 .any) ht83) h80).mono (fun _ _ h => ⟨h.1, h.2⟩)) hx77) ?_
              rintro _ w86 ⟨rfl, hk87⟩
              have ht88 := Kp.tr hk87 hA hB
              replace hH := Hp.kp hH hk87
              replace h_l := Sl.tr h_l ht88
              replace h70 := El.tr h70 ht88
              replace hK := Tr.trans hK ht88
              replace hr21 := Tr.trans hr21 ht88
              replace hr47 := Tr.trans hr47 ht88
              replace hB := Nat.le_trans hB ht88.ex.size
              replace hA := ht88.new
              refine V_as rfl rfl ?_
              refine V_to (fun _ _ => rfl) ?_
              refine C_seq ?_
              refine C_seq ?_
              refine C_region ?_
              refine V_mv rfl rfl ?_
              refine V_y (Y_lss rfl rfl) rfl rfl rfl ?_
              refine V_to (fun _ _ => rfl) ?_
              obtain ⟨s90, ho89, ho45⟩ := Option.bind_eq_some_iff.1 ho45
              refine C_cutG (ι := (Value × (Nat → Prop))) (fun ⟨v92, A97⟩ => [(2, .int .i64 m), (9, .pointer (some ⟨b12, 0, none⟩)), (10, v92), (12, .pointer (some ⟨b62, 0, none⟩)), (13, .int .i64 s90.2), (25, v_l), (26, .int .i64 (l.length : Int)), (27, .int .i64 (k22 : Int))]) (fun ⟨v92, A97⟩ => fun w' => Hp w.heap.size A97 w' (obS (α := level_Share) 32 v92 s90.1 :: obC b12 [v13] 81 :: obPS (obCk 109 portref2_ShiftsIn) 82 v13 x11.clocks :: []) ∧ Tr Dw w.heap.size A34 w86 A97 w') ?_ ?_
              · have hr91 : Tr Dw w.heap.size A34 w86 A34 w86 := Tr.refl (Dw := Dw) hA
                refine C_cond rfl (fun hc99 => ?_) (fun hc99 => ?_)
                · rw [if_pos hc99] at ho89
                  refine C_seq ?_
                  refine C_region ?_
                  refine V_mv rfl rfl ?_
                  refine V_y (Y_lenSl (Hp.any (α := level_Share) (e := 32) (v := v32) (l := s30) hH (i := 0) rfl) rfl Tryz.underlying24 rfl) rfl rfl rfl ?_
                  refine V_as rfl rfl ?_
                  refine V_to (fun _ _ => rfl) ?_
                  refine C_region ?_
                  refine V_mv rfl rfl ?_
                  have h100 := El_level_Clock_1 h70
                  refine V_y (Y_fieldAddr Tryz.underlying39 rfl Tryz.sizeOf3 (by decide) rfl) rfl rfl rfl ?_
                  refine V_y (Y_load (El.int h100) Tryz.isAgg3 rfl) rfl rfl rfl ?_
                  have h101 := El_level_Clock_0 h70
                  refine V_y (Y_fieldAddr Tryz.underlying39 rfl Tryz.sizeOf3 (by decide) rfl) rfl rfl rfl ?_
                  refine V_y (Y_load (El.int h101) Tryz.isAgg3 rfl) rfl rfl rfl ?_
                  refine V_y (Y_build Tryz.underlying32 Tryz.zeroValue32 (Tryz_places32 _ Tryz.underlying32) rfl (by with_unfolding_all rfl)) rfl rfl rfl ?_
                  refine V_buildSlice (Dw := Dw) (cells := #[.int .i64 x55.level, .int .i64 x55.kind, .int .i64 0, .int .i64 0, .int .i64 0, .int .i64 0]) (l := ([(⟨x55.level, x55.kind, 0, 0, 0, 0⟩ : level_Share)] : List level_Share)) (len := 1) Tryz.underlying24 Tryz.sizeOf32 Tryz.zeroValue32 rfl (by kernel_rfl) (show (1 * 6 : Nat) ≠ 0 by decide) (show (1 * 6 : Nat) ≤ 2 ^ 24 by decide) hA ⟨[.int .i64 x55.level, .int .i64 x55.kind, .int .i64 0, .int .i64 0, .int .i64 0, .int .i64 0], _, rfl, ⟨[.int .i64 x55.level], _, rfl, rfl, ⟨[.int .i64 x55.kind], _, rfl, rfl, ⟨[.int .i64 0], _, rfl, rfl, ⟨[.int .i64 0], _, rfl, rfl, ⟨[.int .i64 0], _, rfl, rfl, rfl⟩⟩⟩⟩⟩, rfl⟩ rfl rfl ?_
                  intro v102 w103 hk105 h104
                  have ht106 := Kp.tr hk105 hA hB
                  replace hH := Hp.kp hH hk105
                  replace h_l := Sl.tr h_l ht106
                  replace h70 := El.tr h70 ht106
                  replace h100 := El.tr h100 ht106
                  replace h101 := El.tr h101 ht106
                  replace hK := Tr.trans hK ht106
                  replace hr21 := Tr.trans hr21 ht106
                  replace hr47 := Tr.trans hr47 ht106
                  replace hr91 := Tr.trans hr91 ht106
                  replace hB := Nat.le_trans hB ht106.ex.size
                  replace hA := ht106.new
                  obtain ⟨x107, hx107, ho89⟩ := Option.bind_eq_some_iff.1 ho89
                  refine V_appendH (Dw := Dw) (e := 32) (v := v32) (l := s30) (ti := Tryz.t32) (bytes := 48) (lim := 2932031007402) hH (i := 0) rfl h104 hx107 Tryz.underlying24 Tryz_info32 rfl rfl rfl rfl (by decide) (by decide) (by decide) hB hA rfl rfl rfl ?_
                  intro v108 w109 A110 hH111 ht112
                  replace h_l := Sl.tr h_l ht112
                  replace h70 := El.tr h70 ht112
                  replace h100 := El.tr h100 ht112
                  replace h101 := El.tr h101 ht112
                  replace h104 := Sl.tr h104 ht112
                  replace hK := Tr.trans hK ht112
                  replace hr21 := Tr.trans hr21 ht112
                  replace hr47 := Tr.trans hr47 ht112
                  replace hr91 := Tr.trans hr91 ht112
                  replace hB := Nat.le_trans hB ht112.ex.size
                  replace hA := ht112.new
                  replace hH : Hp w.heap.size A110 w109 (obS (α := level_Share) 32 v108 x107 :: obC b12 [v13] 81 :: obPS (obCk 109 portref2_ShiftsIn) 82 v13 x11.clocks :: []) := hH111
                  refine V_as rfl rfl ?_
                  obtain rfl := Option.some.inj ho89
                  refine V_end (fun a ha113 => ?_)
                  exact ⟨(v108, A110), ha113.sub ⟨rfl, rfl, rfl, rfl, rfl, rfl, rfl, rfl, trivial⟩, ⟨hH, hr91⟩⟩
                · rw [if_neg (nt hc99)] at ho89
                  obtain rfl := Option.some.inj ho89
                  refine C_skip (fun a ha114 => ?_)
                  exact ⟨(v32, A34), ha114.sub ⟨rfl, rfl, rfl, rfl, rfl, rfl, rfl, rfl, trivial⟩, ⟨hH, hr91⟩⟩
              rintro ⟨v92, A97⟩ w94 ⟨hH98, hk95⟩ a ha96
              replace h_l := Sl.tr h_l hk95
              replace h70 := El.tr h70 hk95
              replace hK := Tr.trans hK hk95
              replace hr21 := Tr.trans hr21 hk95
              replace hr47 := Tr.trans hr47 hk95
              replace hB := Nat.le_trans hB hk95.ex.size
              replace hA := hk95.new
              replace hH : Hp w.heap.size A97 w94 (obS (α := level_Share) 32 v92 s90.1 :: obC b12 [v13] 81 :: obPS (obCk 109 portref2_ShiftsIn) 82 v13 x11.clocks :: []) := hH98
              refine C_at (n := ⟨96, [], none⟩) (fun _ _ => rfl) ?_ ha96
              refine C_seq ?_
              refine C_region ?_
              refine V_mv rfl rfl ?_
              obtain ⟨v115, h117, h116⟩ := El_level_Clock h70
              refine V_y (Y_loadA h117 Tryz.isAgg39 Tryz.sizeOf39 rfl) rfl rfl rfl ?_
              refine V_mv rfl rfl ?_
              replace hH : Hp w.heap.size A97 w94 (obPS (obCk 109 portref2_ShiftsIn) 82 v13 x11.clocks :: obS (α := level_Share) 32 v92 s90.1 :: obC b12 [v13] 81 :: []) := Hp.front hH (i := 2) rfl
              replace hH : Hp w.heap.size A97 w94 (obC b12 [v13] 81 :: obPS (obCk 109 portref2_ShiftsIn) 82 v13 x11.clocks :: obS (α := level_Share) 32 v92 s90.1 :: []) := Hp.front hH (i := 2) rfl
              obtain ⟨x118, hx118, ho45⟩ := Option.bind_eq_some_iff.1 ho45
              refine V_call Tryz.call26 rfl rfl rfl rfl (portref2_meter_state_c (Dw := Dw) w94 hB hA x11 b12 v13 x55 v115 h116 m hH hx118) ?_
              rintro _ w119 ⟨A120, rfl, hH121, ht122⟩
              replace h_l := Sl.tr h_l ht122
              replace h70 := El.tr h70 ht122
              replace h116 := Sl.tr h116 ht122
              replace hK := Tr.trans hK ht122
              replace hr21 := Tr.trans hr21 ht122
              replace hr47 := Tr.trans hr47 ht122
              replace hB := Nat.le_trans hB ht122.ex.size
              replace hA := ht122.new
              replace hH : Hp w.heap.size A120 w119 (obC b12 [v13] 81 :: obPS (obCk 109 portref2_ShiftsIn) 82 v13 x11.clocks :: obS (α := level_Share) 32 v92 s90.1 :: []) := hH121
              refine V_to (fun _ _ => rfl) ?_
              obtain ⟨s124, ho123, ho45⟩ := Option.bind_eq_some_iff.1 ho45
              refine C_cutG (ι := (Value × (Nat → Prop))) (fun ⟨v126, A131⟩ => [(2, .int .i64 m), (9, .pointer (some ⟨b12, 0, none⟩)), (10, v126), (25, v_l), (26, .int .i64 (l.length : Int)), (27, .int .i64 (k22 : Int))]) (fun ⟨v126, A131⟩ => fun w' => Hp w.heap.size A131 w' (obC b12 [v13] 81 :: obPS (obCk 109 portref2_ShiftsIn) 82 v13 x11.clocks :: obS (α := level_Share) 32 v126 s124 :: []) ∧ Tr Dw w.heap.size A120 w119 A131 w') ?_ ?_
              · have hr125 : Tr Dw w.heap.size A120 w119 A120 w119 := Tr.refl (Dw := Dw) hA
                refine C_block ?_
                refine C_seq ?_
                refine C_region ?_
                refine V_y (Y_eql rfl rfl) rfl rfl rfl ?_
                refine V_as rfl rfl ?_
                refine V_to (fun _ _ => rfl) ?_
                obtain ⟨s134, ho133, ho123⟩ := Option.bind_eq_some_iff.1 ho123
                refine C_cutG (ι := (Value × (Nat → Prop))) (fun ⟨v136, A141⟩ => [(2, .int .i64 m), (9, .pointer (some ⟨b12, 0, none⟩)), (10, v136), (25, v_l), (26, .int .i64 (l.length : Int)), (27, .int .i64 (k22 : Int))]) (fun ⟨v136, A141⟩ => fun w' => Hp w.heap.size A141 w' (obC b12 [v13] 81 :: obPS (obCk 109 portref2_ShiftsIn) 82 v13 x11.clocks :: obS (α := level_Share) 32 v136 s134 :: []) ∧ Tr Dw w.heap.size A120 w119 A141 w') ?_ ?_
                · have hr135 : Tr Dw w.heap.size A120 w119 A120 w119 := Tr.refl (Dw := Dw) hA
                  refine C_cond rfl (fun hc143 => ?_) (fun hc143 => ?_)
                  · rw [if_pos hc143] at ho133
                    refine C_region ?_
                    refine V_mv rfl rfl ?_
                    refine V_mv rfl rfl ?_
                    obtain ⟨x144, hx144, ho133⟩ := Option.bind_eq_some_iff.1 ho133
                    refine V_indexAddrH (α := level_Share) (e := 32) (v := v92) (l := s90.1) hH (i := 2) rfl hx144 Tryz.underlying24 Tryz.sizeOf32 rfl rfl rfl ?_
                    intro b145 o146 h147 hl148
                    have h149 := El_level_Share_3 h147
                    refine V_y (Y_fieldAddr Tryz.underlying32 rfl Tryz.sizeOf3 (by decide) rfl) rfl rfl rfl ?_
                    refine V_y (Y_load (El.int h149) Tryz.isAgg3 rfl) rfl rfl rfl ?_
                    refine V_y (Y_addI rfl rfl) rfl rfl rfl ?_
                    refine V_indexAddrH (α := level_Share) (e := 32) (v := v92) (l := s90.1) hH (i := 2) rfl hx144 Tryz.underlying24 Tryz.sizeOf32 rfl rfl rfl ?_
                    intro b150 o151 h152 hl153
                    have h154 := El_level_Share_3 h152
                    refine V_y (Y_fieldAddr Tryz.underlying32 rfl Tryz.sizeOf3 (by decide) rfl) rfl rfl rfl ?_
                    obtain ⟨x155, hx155, ho133⟩ := Option.bind_eq_some_iff.1 ho133
                    refine V_storeFH (Dw := Dw) (α := level_Share) (e := 32) (v := v92) (l := s90.1) (foff := 3) hH (i := 2) rfl hl153 hx144 hx155 (fun _ h => by obtain ⟨_, _, rfl, rfl, ⟨_, _, rfl, rfl, ⟨_, _, rfl, rfl, ⟨_, _, rfl, rfl, ⟨_, _, rfl, rfl, rfl⟩⟩⟩⟩⟩ := h; exact ⟨[_], _, rfl, rfl, ⟨[_], _, rfl, rfl, ⟨[_], _, rfl, rfl, ⟨[_], _, rfl, rfl, ⟨[_], _, rfl, rfl, rfl⟩⟩⟩⟩⟩) Tryz.sizeOf3 rfl (by simp [Value.cells, Value.oneCell']) (by decide) hB hA (congrArg (fun z => some (Value.pointer (some ⟨_, z, none⟩))) (by simp [Nat.add_assoc])) rfl ?_
                    intro w156 hH157 ht158
                    replace h_l := Sl.tr h_l ht158
                    replace hK := Tr.trans hK ht158
                    replace hr21 := Tr.trans hr21 ht158
                    replace hr47 := Tr.trans hr47 ht158
                    replace hr125 := Tr.trans hr125 ht158
                    replace hr135 := Tr.trans hr135 ht158
                    replace hB := Nat.le_trans hB ht158.ex.size
                    replace hA := ht158.new
                    replace hH : Hp w.heap.size A120 w156 (obC b12 [v13] 81 :: obPS (obCk 109 portref2_ShiftsIn) 82 v13 x11.clocks :: obS (α := level_Share) 32 v92 x155 :: []) := hH157
                    obtain rfl := Option.some.inj ho133
                    refine V_end (fun a ha159 => ?_)
                    exact ⟨(v92, A120), ha159.sub ⟨rfl, rfl, rfl, rfl, rfl, rfl, trivial⟩, ⟨hH, hr135⟩⟩
                  · rw [if_neg (nt hc143)] at ho133
                    refine C_seq ?_
                    refine C_region ?_
                    refine V_y (Y_eql rfl rfl) rfl rfl rfl ?_
                    refine V_as rfl rfl ?_
                    refine V_to (fun _ _ => rfl) ?_
                    obtain ⟨s161, ho160, ho133⟩ := Option.bind_eq_some_iff.1 ho133
                    refine C_cutG (ι := (Value × (Nat → Prop))) (fun ⟨v163, A168⟩ => [(2, .int .i64 m), (9, .pointer (some ⟨b12, 0, none⟩)), (10, v163), (25, v_l), (26, .int .i64 (l.length : Int)), (27, .int .i64 (k22 : Int))]) (fun ⟨v163, A168⟩ => fun w' => Hp w.heap.size A168 w' (obC b12 [v13] 81 :: obPS (obCk 109 portref2_ShiftsIn) 82 v13 x11.clocks :: obS (α := level_Share) 32 v163 s161 :: []) ∧ Tr Dw w.heap.size A120 w119 A168 w') ?_ ?_
                    · have hr162 : Tr Dw w.heap.size A120 w119 A120 w119 := Tr.refl (Dw := Dw) hA
                      refine C_cond rfl (fun hc170 => ?_) (fun hc170 => ?_)
                      · rw [if_pos hc170] at ho160
                        refine C_region ?_
                        refine V_mv rfl rfl ?_
                        refine V_mv rfl rfl ?_
                        obtain ⟨x171, hx171, ho160⟩ := Option.bind_eq_some_iff.1 ho160
                        refine V_indexAddrH (α := level_Share) (e := 32) (v := v92) (l := s90.1) hH (i := 2) rfl hx171 Tryz.underlying24 Tryz.sizeOf32 rfl rfl rfl ?_
                        intro b172 o173 h174 hl175
                        have h176 := El_level_Share_4 h174
                        refine V_y (Y_fieldAddr Tryz.underlying32 rfl Tryz.sizeOf3 (by decide) rfl) rfl rfl rfl ?_
                        refine V_y (Y_load (El.int h176) Tryz.isAgg3 rfl) rfl rfl rfl ?_
                        refine V_y (Y_addI rfl rfl) rfl rfl rfl ?_
                        refine V_indexAddrH (α := level_Share) (e := 32) (v := v92) (l := s90.1) hH (i := 2) rfl hx171 Tryz.underlying24 Tryz.sizeOf32 rfl rfl rfl ?_
                        intro b177 o178 h179 hl180
                        have h181 := El_level_Share_4 h179
                        refine V_y (Y_fieldAddr Tryz.underlying32 rfl Tryz.sizeOf3 (by decide) rfl) rfl rfl rfl ?_
                        obtain ⟨x182, hx182, ho160⟩ := Option.bind_eq_some_iff.1 ho160
                        refine V_storeFH (Dw := Dw) (α := level_Share) (e := 32) (v := v92) (l := s90.1) (foff := 4) hH (i := 2) rfl hl180 hx171 hx182 (fun _ h => by obtain ⟨_, _, rfl, rfl, ⟨_, _, rfl, rfl, ⟨_, _, rfl, rfl, ⟨_, _, rfl, rfl, ⟨_, _, rfl, rfl, rfl⟩⟩⟩⟩⟩ := h; exact ⟨[_], _, rfl, rfl, ⟨[_], _, rfl, rfl, ⟨[_], _, rfl, rfl, ⟨[_], _, rfl, rfl, ⟨[_], _, rfl, rfl, rfl⟩⟩⟩⟩⟩) Tryz.sizeOf3 rfl (by simp [Value.cells, Value.oneCell']) (by decide) hB hA (congrArg (fun z => some (Value.pointer (some ⟨_, z, none⟩))) (by simp [Nat.add_assoc])) rfl ?_
                        intro w183 hH184 ht185
                        replace h_l := Sl.tr h_l ht185
                        replace hK := Tr.trans hK ht185
                        replace hr21 := Tr.trans hr21 ht185
                        replace hr47 := Tr.trans hr47 ht185
                        replace hr125 := Tr.trans hr125 ht185
                        replace hr135 := Tr.trans hr135 ht185
                        replace hr162 := Tr.trans hr162 ht185
                        replace hB := Nat.le_trans hB ht185.ex.size
                        replace hA := ht185.new
                        replace hH : Hp w.heap.size A120 w183 (obC b12 [v13] 81 :: obPS (obCk 109 portref2_ShiftsIn) 82 v13 x11.clocks :: obS (α := level_Share) 32 v92 x182 :: []) := hH184
                        obtain rfl := Option.some.inj ho160
                        refine V_end (fun a ha186 => ?_)
                        exact ⟨(v92, A120), ha186.sub ⟨rfl, rfl, rfl, rfl, rfl, rfl, trivial⟩, ⟨hH, hr162⟩⟩
                      · rw [if_neg (nt hc170)] at ho160
                        refine C_seq ?_
                        refine C_region ?_
                        refine V_y (Y_eql rfl rfl) rfl rfl rfl ?_
                        refine V_as rfl rfl ?_
                        refine V_to (fun _ _ => rfl) ?_
                        obtain ⟨s188, ho187, ho160⟩ := Option.bind_eq_some_iff.1 ho160
                        refine C_cutG (ι := (Value × (Nat → Prop))) (fun ⟨v190, A195⟩ => [(2, .int .i64 m), (9, .pointer (some ⟨b12, 0, none⟩)), (10, v190), (25, v_l), (26, .int .i64 (l.length : Int)), (27, .int .i64 (k22 : Int))]) (fun ⟨v190, A195⟩ => fun w' => Hp w.heap.size A195 w' (obC b12 [v13] 81 :: obPS (obCk 109 portref2_ShiftsIn) 82 v13 x11.clocks :: obS (α := level_Share) 32 v190 s188 :: []) ∧ Tr Dw w.heap.size A120 w119 A195 w') ?_ ?_
                        · have hr189 : Tr Dw w.heap.size A120 w119 A120 w119 := Tr.refl (Dw := Dw) hA
                          refine C_cond rfl (fun hc197 => ?_) (fun hc197 => ?_)
                          · rw [if_pos hc197] at ho187
                            refine C_region ?_
                            refine V_mv rfl rfl ?_
                            refine V_mv rfl rfl ?_
                            obtain ⟨x198, hx198, ho187⟩ := Option.bind_eq_some_iff.1 ho187
                            refine V_indexAddrH (α := level_Share) (e := 32) (v := v92) (l := s90.1) hH (i := 2) rfl hx198 Tryz.underlying24 Tryz.sizeOf32 rfl rfl rfl ?_
                            intro b199 o200 h201 hl202
                            have h203 := El_level_Share_5 h201
                            refine V_y (Y_fieldAddr Tryz.underlying32 rfl Tryz.sizeOf3 (by decide) rfl) rfl rfl rfl ?_
                            refine V_y (Y_load (El.int h203) Tryz.isAgg3 rfl) rfl rfl rfl ?_
                            refine V_y (Y_addI rfl rfl) rfl rfl rfl ?_
                            refine V_indexAddrH (α := level_Share) (e := 32) (v := v92) (l := s90.1) hH (i := 2) rfl hx198 Tryz.underlying24 Tryz.sizeOf32 rfl rfl rfl ?_
                            intro b204 o205 h206 hl207
                            have h208 := El_level_Share_5 h206
                            refine V_y (Y_fieldAddr Tryz.underlying32 rfl Tryz.sizeOf3 (by decide) rfl) rfl rfl rfl ?_
                            obtain ⟨x209, hx209, ho187⟩ := Option.bind_eq_some_iff.1 ho187
                            refine V_storeFH (Dw := Dw) (α := level_Share) (e := 32) (v := v92) (l := s90.1) (foff := 5) hH (i := 2) rfl hl207 hx198 hx209 (fun _ h => by obtain ⟨_, _, rfl, rfl, ⟨_, _, rfl, rfl, ⟨_, _, rfl, rfl, ⟨_, _, rfl, rfl, ⟨_, _, rfl, rfl, rfl⟩⟩⟩⟩⟩ := h; exact ⟨[_], _, rfl, rfl, ⟨[_], _, rfl, rfl, ⟨[_], _, rfl, rfl, ⟨[_], _, rfl, rfl, ⟨[_], _, rfl, rfl, rfl⟩⟩⟩⟩⟩) Tryz.sizeOf3 rfl (by simp [Value.cells, Value.oneCell']) (by decide) hB hA (congrArg (fun z => some (Value.pointer (some ⟨_, z, none⟩))) (by simp [Nat.add_assoc])) rfl ?_
                            intro w210 hH211 ht212
                            replace h_l := Sl.tr h_l ht212
                            replace hK := Tr.trans hK ht212
                            replace hr21 := Tr.trans hr21 ht212
                            replace hr47 := Tr.trans hr47 ht212
                            replace hr125 := Tr.trans hr125 ht212
                            replace hr135 := Tr.trans hr135 ht212
                            replace hr162 := Tr.trans hr162 ht212
                            replace hr189 := Tr.trans hr189 ht212
                            replace hB := Nat.le_trans hB ht212.ex.size
                            replace hA := ht212.new
                            replace hH : Hp w.heap.size A120 w210 (obC b12 [v13] 81 :: obPS (obCk 109 portref2_ShiftsIn) 82 v13 x11.clocks :: obS (α := level_Share) 32 v92 x209 :: []) := hH211
                            obtain rfl := Option.some.inj ho187
                            refine V_end (fun a ha213 => ?_)
                            exact ⟨(v92, A120), ha213.sub ⟨rfl, rfl, rfl, rfl, rfl, rfl, trivial⟩, ⟨hH, hr189⟩⟩
                          · rw [if_neg (nt hc197)] at ho187
                            refine C_region ?_
                            refine V_mv rfl rfl ?_
                            refine V_mv rfl rfl ?_
                            obtain ⟨x214, hx214, ho187⟩ := Option.bind_eq_some_iff.1 ho187
                            refine V_indexAddrH (α := level_Share) (e := 32) (v := v92) (l := s90.1) hH (i := 2) rfl hx214 Tryz.underlying24 Tryz.sizeOf32 rfl rfl rfl ?_
                            intro b215 o216 h217 hl218
                            have h219 := El_level_Share_2 h217
                            refine V_y (Y_fieldAddr Tryz.underlying32 rfl Tryz.sizeOf3 (by decide) rfl) rfl rfl rfl ?_
                            refine V_y (Y_load (El.int h219) Tryz.isAgg3 rfl) rfl rfl rfl ?_
                            refine V_y (Y_addI rfl rfl) rfl rfl rfl ?_
                            refine V_indexAddrH (α := level_Share) (e := 32) (v := v92) (l := s90.1) hH (i := 2) rfl hx214 Tryz.underlying24 Tryz.sizeOf32 rfl rfl rfl ?_
                            intro b220 o221 h222 hl223
                            have h224 := El_level_Share_2 h222
                            refine V_y (Y_fieldAddr Tryz.underlying32 rfl Tryz.sizeOf3 (by decide) rfl) rfl rfl rfl ?_
                            obtain ⟨x225, hx225, ho187⟩ := Option.bind_eq_some_iff.1 ho187
                            refine V_storeFH (Dw := Dw) (α := level_Share) (e := 32) (v := v92) (l := s90.1) (foff := 2) hH (i := 2) rfl hl223 hx214 hx225 (fun _ h => by obtain ⟨_, _, rfl, rfl, ⟨_, _, rfl, rfl, ⟨_, _, rfl, rfl, ⟨_, _, rfl, rfl, ⟨_, _, rfl, rfl, rfl⟩⟩⟩⟩⟩ := h; exact ⟨[_], _, rfl, rfl, ⟨[_], _, rfl, rfl, ⟨[_], _, rfl, rfl, ⟨[_], _, rfl, rfl, ⟨[_], _, rfl, rfl, rfl⟩⟩⟩⟩⟩) Tryz.sizeOf3 rfl (by simp [Value.cells, Value.oneCell']) (by decide) hB hA (congrArg (fun z => some (Value.pointer (some ⟨_, z, none⟩))) (by simp [Nat.add_assoc])) rfl ?_
                            intro w226 hH227 ht228
                            replace h_l := Sl.tr h_l ht228
                            replace hK := Tr.trans hK ht228
                            replace hr21 := Tr.trans hr21 ht228
                            replace hr47 := Tr.trans hr47 ht228
                            replace hr125 := Tr.trans hr125 ht228
                            replace hr135 := Tr.trans hr135 ht228
                            replace hr162 := Tr.trans hr162 ht228
                            replace hr189 := Tr.trans hr189 ht228
                            replace hB := Nat.le_trans hB ht228.ex.size
                            replace hA := ht228.new
                            replace hH : Hp w.heap.size A120 w226 (obC b12 [v13] 81 :: obPS (obCk 109 portref2_ShiftsIn) 82 v13 x11.clocks :: obS (α := level_Share) 32 v92 x225 :: []) := hH227
                            obtain rfl := Option.some.inj ho187
                            refine V_end (fun a ha229 => ?_)
                            exact ⟨(v92, A120), ha229.sub ⟨rfl, rfl, rfl, rfl, rfl, rfl, trivial⟩, ⟨hH, hr189⟩⟩
                        rintro ⟨v190, A195⟩ w192 ⟨hH196, hk193⟩ a ha194
                        replace h_l := Sl.tr h_l hk193
                        replace hK := Tr.trans hK hk193
                        replace hr21 := Tr.trans hr21 hk193
                        replace hr47 := Tr.trans hr47 hk193
                        replace hr125 := Tr.trans hr125 hk193
                        replace hr135 := Tr.trans hr135 hk193
                        replace hr162 := Tr.trans hr162 hk193
                        replace hB := Nat.le_trans hB hk193.ex.size
                        replace hA := hk193.new
                        replace hH : Hp w.heap.size A195 w192 (obC b12 [v13] 81 :: obPS (obCk 109 portref2_ShiftsIn) 82 v13 x11.clocks :: obS (α := level_Share) 32 v190 s188 :: []) := hH196
                        obtain rfl := Option.some.inj ho160
                        exact ⟨(v190, A195), ha194.sub ⟨rfl, rfl, rfl, rfl, rfl, rfl, trivial⟩, ⟨hH, hr162⟩⟩
                    rintro ⟨v163, A168⟩ w165 ⟨hH169, hk166⟩ a ha167
                    replace h_l := Sl.tr h_l hk166
                    replace hK := Tr.trans hK hk166
                    replace hr21 := Tr.trans hr21 hk166
                    replace hr47 := Tr.trans hr47 hk166
                    replace hr125 := Tr.trans hr125 hk166
                    replace hr135 := Tr.trans hr135 hk166
                    replace hB := Nat.le_trans hB hk166.ex.size
                    replace hA := hk166.new
                    replace hH : Hp w.heap.size A168 w165 (obC b12 [v13] 81 :: obPS (obCk 109 portref2_ShiftsIn) 82 v13 x11.clocks :: obS (α := level_Share) 32 v163 s161 :: []) := hH169
                    obtain rfl := Option.some.inj ho133
                    exact ⟨(v163, A168), ha167.sub ⟨rfl, rfl, rfl, rfl, rfl, rfl, trivial⟩, ⟨hH, hr135⟩⟩
                rintro ⟨v136, A141⟩ w138 ⟨hH142, hk139⟩ a ha140
                replace h_l := Sl.tr h_l hk139
                replace hK := Tr.trans hK hk139
                replace hr21 := Tr.trans hr21 hk139
                replace hr47 := Tr.trans hr47 hk139
                replace hr125 := Tr.trans hr125 hk139
                replace hB := Nat.le_trans hB hk139.ex.size
                replace hA := hk139.new
                replace hH : Hp w.heap.size A141 w138 (obC b12 [v13] 81 :: obPS (obCk 109 portref2_ShiftsIn) 82 v13 x11.clocks :: obS (α := level_Share) 32 v136 s134 :: []) := hH142
                obtain rfl := Option.some.inj ho123
                exact ⟨(v136, A141), ha140.sub ⟨rfl, rfl, rfl, rfl, rfl, rfl, trivial⟩, ⟨hH, hr125⟩⟩
              rintro ⟨v126, A131⟩ w128 ⟨hH132, hk129⟩ a ha130
              replace h_l := Sl.tr h_l hk129
              replace hK := Tr.trans hK hk129
              replace hr21 := Tr.trans hr21 hk129
              replace hr47 := Tr.trans hr47 hk129
              replace hB := Nat.le_trans hB hk129.ex.size
              replace hA := hk129.new
              replace hH : Hp w.heap.size A131 w128 (obC b12 [v13] 81 :: obPS (obCk 109 portref2_ShiftsIn) 82 v13 x11.clocks :: obS (α := level_Share) 32 v126 s124 :: []) := hH132
              obtain rfl := Option.some.inj ho45
              replace hH : Hp w.heap.size A131 w128 (obPS (obCk 109 portref2_ShiftsIn) 82 v13 x11.clocks :: obC b12 [v13] 81 :: obS (α := level_Share) 32 v126 s124 :: []) := Hp.front hH (i := 1) rfl
              replace hH : Hp w.heap.size A131 w128 (obC b12 [v13] 81 :: obPS (obCk 109 portref2_ShiftsIn) 82 v13 x11.clocks :: obS (α := level_Share) 32 v126 s124 :: []) := Hp.front hH (i := 1) rfl
              replace hH : Hp w.heap.size A131 w128 (obS (α := level_Share) 32 v126 s124 :: obC b12 [v13] 81 :: obPS (obCk 109 portref2_ShiftsIn) 82 v13 x11.clocks :: []) := Hp.front hH (i := 2) rfl
              exact ⟨(v126, A131), ha130.sub ⟨rfl, rfl, rfl, rfl, rfl, rfl, trivial⟩, ⟨hH, hr47⟩⟩
          rintro ⟨v48, A53⟩ w50 ⟨hH54, hk51⟩ a ha52
          replace h_l := Sl.tr h_l hk51
          replace hK := Tr.trans hK hk51
          replace hr21 := Tr.trans hr21 hk51
          replace hB := Nat.le_trans hB hk51.ex.size
          replace hA := hk51.new
          replace hH : Hp w.heap.size A53 w50 (obS (α := level_Share) 32 v48 s46 :: obC b12 [v13] 81 :: obPS (obCk 109 portref2_ShiftsIn) 82 v13 x11.clocks :: []) := hH54
          refine C_at (n := ⟨96, [], none⟩) (fun _ _ => rfl) ?_ ha52
          refine C_region ?_
          refine V_y (Y_addI rfl rfl) rfl rfl rfl ?_
          refine V_mv rfl rfl ?_
          obtain rfl := Option.some.inj h37
          refine V_end (fun a ha234 => ?_)
          exact ⟨s46, hlt40, h38, ⟨(v48, A53), ha234.sub ⟨rfl, rfl, rfl, rfl, rfl, (congrArg (fun z => some (Value.int .i64 z)) (w64_succ hlt40 hn43)), trivial⟩, ⟨hH, hr21⟩⟩⟩
        · refine C_exit (fun a ha235 => ?_)
          exact ⟨(s30, v32, A34), ha235.sub ⟨rfl, trivial⟩, ⟨(h41 (eq_of_dec hle39 hc44)).symm, hH, hr21⟩⟩
      rintro ⟨s20, v26, A28⟩ w23 ⟨rfl, hH29, hk24⟩ a ha25
      rw [Lp.andThen_fin] at hm
      replace hK := Tr.trans hK hk24
      replace hB := Nat.le_trans hB hk24.ex.size
      replace hA := hk24.new
      replace hH : Hp w.heap.size A28 w23 (obS (α := level_Share) 32 v26 s20 :: obC b12 [v13] 81 :: obPS (obCk 109 portref2_ShiftsIn) 82 v13 x11.clocks :: []) := hH29
      refine C_at (n := ⟨96, [], none⟩) (fun _ _ => rfl) ?_ ha25
      refine C_seq ?_
      refine C_region ?_
      refine V_mv rfl rfl ?_
      obtain ⟨x237, hx237, hm⟩ := Option.bind_eq_some_iff.1 hm
      refine V_call Tryz.call27 rfl rfl rfl rfl (Tryz_sf27 (Dw := Dw) Tryz.call28 (fun w243 ht244 h245 p247 q250 c248 c251 c253 h249 h252 h246 => by obtain ⟨rfl, _⟩ := Rep_level_Share h249; obtain ⟨rfl, _⟩ := Rep_level_Share h252; exact (portref2_SharesOf_2_c (Dw := True) w243 h245 p247 q250 h246).mono fun _ _ h => ⟨h.1, h.2⟩) hH (i := 0) rfl hB hA hx237) ?_
      rintro _ w238 ⟨rfl, hH239, ht240⟩
      replace hK := Tr.trans hK ht240
      replace hB := Nat.le_trans hB ht240.ex.size
      replace hA := ht240.new
      replace hH : Hp w.heap.size A28 w238 (obS (α := level_Share) 32 v26 x237 :: obC b12 [v13] 81 :: obPS (obCk 109 portref2_ShiftsIn) 82 v13 x11.clocks :: []) := hH239
      refine V_to (fun _ _ => rfl) ?_
      refine C_seq ?_
      refine C_region ?_
      refine V_mv rfl rfl ?_
      refine V_as rfl rfl ?_
      refine V_as rfl rfl ?_
      refine V_to (fun _ _ => rfl) ?_
      obtain rfl := Option.some.inj hm
      refine C_ret ?_
      try simp only [↓inBlock_ret, ↓then_ret]
      exact retQ rfl (Res.two Tryz.results6 rfl rfl) ⟨v26, rfl, (Hp.ownd hH (i := 0) rfl), hK.kp⟩

set_option maxRecDepth 4000 in
set_option maxHeartbeats 4000000 in
theorem portref2_PercentileOf_c (w : World) {A : Nat → Prop} (hA : ∀ b, w.heap.size ≤ b → A b) (l : (List level_Clock)) (v_l : Value) (h_l : Sl A w v_l l) (cals : (List cal_Calendar)) (v_cals : Value) (h_cals : Sl A w v_cals cals) (percent : Int) {r : (Int × Int)} (hm : portref2_PercentileOf l cals percent = some r) : Ret Tryz.prog 7 #[v_l, v_cals, .int .i64 percent] w fun v w' => v = .tuple #[.int .i64 r.1, .int .i64 r.2] ∧ Kp Dw w w' := by
  unfold portref2_PercentileOf at hm
  refine enter Tryz.func7 rfl Tryz.ntmps7 rfl ?_
  have hA0 := hA
  have hB := Nat.le_refl w.heap.size
  have hK : Tr Dw w.heap.size A w A w := Tr.refl (Dw := Dw) hA
  have hH : Hp w.heap.size A w [] := Hp.nil
  refine C_seq ?_
  refine C_region ?_
  refine V_as rfl rfl ?_
  refine V_as rfl rfl ?_
  refine V_to (fun _ _ => rfl) ?_
  refine C_seq ?_
  refine C_seq ?_
  refine C_region ?_
  refine V_mv rfl rfl ?_
  refine V_mv rfl rfl ?_
  obtain ⟨x5, hx5, hm⟩ := Option.bind_eq_some_iff.1 hm
  refine V_call Tryz.call21 rfl rfl rfl rfl (portref2_clocksFault_c (Dw := Dw) w hA l v_l h_l cals v_cals h_cals hx5) ?_
  rintro _ w6 ⟨rfl, hk7⟩
  have ht8 := Kp.tr hk7 hA hB
  replace hH := Hp.kp hH hk7
  replace h_l := Sl.tr h_l ht8
  replace h_cals := Sl.tr h_cals ht8
  replace hK := Tr.trans hK ht8
  replace hB := Nat.le_trans hB ht8.ex.size
  replace hA := ht8.new
  refine V_as rfl rfl ?_
  refine V_to (fun _ _ => rfl) ?_
  refine C_seq ?_
  refine C_region ?_
  refine V_mv rfl rfl ?_
  refine V_y (Y_neq rfl rfl) rfl rfl rfl ?_
  refine V_to (fun _ _ => rfl) ?_
  refine C_cond rfl (fun hc9 => ?_) (fun hc9 => ?_)
  · rw [if_pos hc9] at hm
    refine C_seq ?_
    refine C_region ?_
    refine V_mv rfl rfl ?_
    refine V_as rfl rfl ?_
    refine V_as rfl rfl ?_
    refine V_to (fun _ _ => rfl) ?_
    obtain rfl := Option.some.inj hm
    refine C_ret ?_
    try simp only [↓inBlock_ret, ↓then_ret]
    exact retQ rfl (Res.two Tryz.results7 rfl rfl) ⟨rfl, hK.kp⟩
  · rw [if_neg (nt hc9)] at hm
    refine C_skip_to (fun _ _ => rfl) ?_
    refine C_seq ?_
    refine C_seq ?_
    refine C_region ?_
    refine V_mv rfl rfl ?_
    refine V_y (Y_lss rfl rfl) rfl rfl rfl ?_
    refine V_mv rfl rfl ?_
    refine V_cut 3 (fun _ : Unit => [(0, v_l), (1, v_cals), (2, .int .i64 percent), (24, .bool ((decide (percent < 0)) || (decide ((100 : Int) < percent))))]) (fun _ w' => w6 = w') ?_ ?_
    · simp only [List.take, List.drop]
      rcases Bool.eq_false_or_eq_true (decide (percent < 0)) with hc10 | hc10
      · refine V_gn rfl rfl rfl hc10 rfl rfl rfl ?_
        refine V_gn rfl rfl rfl hc10 rfl rfl rfl ?_
        refine V_y (Y_pick_te rfl hc10 rfl) rfl rfl rfl ?_
        exact V_end fun a ha => ⟨(), ha.sub ⟨rfl, rfl, rfl, (by rw [hc10]; rfl), trivial⟩, rfl⟩
      · refine V_ge rfl rfl rfl hc10 ?_
        refine V_mv rfl rfl ?_
        refine V_ge rfl rfl rfl hc10 ?_
        refine V_y (Y_gtr rfl rfl) rfl rfl rfl ?_
        refine V_y (Y_pick_fe rfl hc10 rfl) rfl rfl rfl ?_
        exact V_end fun a ha => ⟨(), ha.sub ⟨rfl, rfl, rfl, (by rw [hc10]; rfl), trivial⟩, rfl⟩
    simp only [List.take, List.drop]
    rintro _ _ rfl
    refine V_to (fun _ _ => rfl) ?_
    refine C_cond rfl (fun hc12 => ?_) (fun hc12 => ?_)
    · rw [if_pos hc12] at hm
      refine C_seq ?_
      refine C_region ?_
      refine V_as rfl rfl ?_
      refine V_as rfl rfl ?_
      refine V_to (fun _ _ => rfl) ?_
      obtain rfl := Option.some.inj hm
      refine C_ret ?_
      try simp only [↓inBlock_ret, ↓then_ret]
      exact retQ rfl (Res.two Tryz.results7 rfl rfl) ⟨rfl, hK.kp⟩
    · rw [if_neg (nt hc12)] at hm
      refine C_skip_to (fun _ _ => rfl) ?_
      refine C_seq ?_
      refine C_region ?_
      refine V_mv rfl rfl ?_
      obtain ⟨x13, hx13, hm⟩ := Option.bind_eq_some_iff.1 hm
      refine V_call Tryz.call23 rfl rfl rfl rfl (portref2_newMeter_c (Dw := Dw) w6 hB hA cals v_cals h_cals hH hx13) ?_
      rintro _ w17 ⟨b14, v15, A18, rfl, hH19, ht20⟩
      replace h_l := Sl.tr h_l ht20
      replace h_cals := Sl.tr h_cals ht20
      replace hK := Tr.trans hK ht20
      replace hB := Nat.le_trans hB ht20.ex.size
      replace hA := ht20.new
      replace hH : Hp w.heap.size A18 w17 (obC b14 [v15] 81 :: obPS (obCk 109 portref2_ShiftsIn) 82 v15 x13.clocks :: []) := hH19
      refine V_as rfl rfl ?_
      refine V_to (fun _ _ => rfl) ?_
      refine C_seq ?_
      refine C_region ?_
      refine V_as rfl rfl ?_
      refine V_to (fun _ _ => rfl) ?_
      refine C_seq ?_
      refine C_seq ?_
      refine C_region ?_
      refine V_mv rfl rfl ?_
      refine V_y (Y_lenSl h_l rfl Tryz.underlying22 rfl) rfl rfl rfl ?_
      refine V_mv rfl rfl ?_
      refine V_to (fun _ _ => rfl) ?_
      replace hH : Hp w.heap.size A18 w17 (obS (α := Int) 3 (.slice none 0 0) ([] : (List Int)) :: obC b14 [v15] 81 :: obPS (obCk 109 portref2_ShiftsIn) 82 v15 x13.clocks :: []) := Hp.addNil (α := Int) (e := 3) hH
      have hn45 := Sl.le h_l
      obtain ⟨o21, ho21, hm⟩ := Option.bind_eq_some_iff.1 hm
      refine C_cutG (ι := ((List Int) × Value × (Nat → Prop))) (fun ⟨s22, v28, A30⟩ => [(2, .int .i64 percent), (10, v28)]) (fun ⟨s22, v28, A30⟩ => fun w' => o21 = .fin s22 ∧ Hp w.heap.size A30 w' (obS (α := Int) 3 v28 s22 :: obC b14 [v15] 81 :: obPS (obCk 109 portref2_ShiftsIn) 82 v15 x13.clocks :: []) ∧ Tr Dw w.heap.size A18 w17 A30 w') ?_ ?_
      · refine C_block ?_
        refine C_range ho21 (fun k24 s32 a w' => ∃ i : (Value × (Nat → Prop)), Has ⟨61, [], none⟩ a ([(2, .int .i64 percent), (9, .pointer (some ⟨b14, 0, none⟩)), (10, i.1), (27, v_l), (28, .int .i64 (l.length : Int)), (29, .int .i64 (k24 : Int))]) ∧ Hp w.heap.size i.2 w' (obS (α := Int) 3 i.1 s32 :: obC b14 [v15] 81 :: obPS (obCk 109 portref2_ShiftsIn) 82 v15 x13.clocks :: []) ∧ Tr Dw w.heap.size A18 w17 i.2 w') (fun a ha => ⟨(.slice none 0 0, A18), ha.sub ⟨rfl, rfl, rfl, rfl, rfl, rfl, trivial⟩, ⟨hH, Tr.refl (Dw := Dw) hA⟩⟩) ?_
        rintro K k24 s32 a w33 ⟨⟨v34, A36⟩, ha112, hH37, hr23⟩ hle41 K44 h43
        refine C_of ?_ ha112
        replace h_l := Sl.tr h_l hr23
        replace hK := Tr.trans hK hr23
        replace hB := Nat.le_trans hB hr23.ex.size
        replace hA := hr23.new
        replace hH : Hp w.heap.size A36 w33 (obS (α := Int) 3 v34 s32 :: obC b14 [v15] 81 :: obPS (obCk 109 portref2_ShiftsIn) 82 v15 x13.clocks :: []) := hH37
        refine C_seq (C_region (V_y (Y_lss rfl rfl) rfl rfl rfl (V_to (fun _ _ => rfl) ?_)))
        refine C_seq ?_
        refine C_cond rfl (fun hc46 => ?_) (fun hc46 => ?_)
        · have hlt42 := lt_of_dec hc46
          obtain ⟨x38, h39, h40⟩ := K44 hlt42
          refine C_skip_to (fun _ _ => rfl) ?_
          refine C_seq ?_
          obtain ⟨s48, ho47, h39⟩ := Option.bind_eq_some_iff.1 h39
          refine C_cutG (ι := (Value × (Nat → Prop))) (fun ⟨v50, A55⟩ => [(2, .int .i64 percent), (9, .pointer (some ⟨b14, 0, none⟩)), (10, v50), (27, v_l), (28, .int .i64 (l.length : Int)), (29, .int .i64 (k24 : Int))]) (fun ⟨v50, A55⟩ => fun w' => Hp w.heap.size A55 w' (obS (α := Int) 3 v50 s48 :: obC b14 [v15] 81 :: obPS (obCk 109 portref2_ShiftsIn) 82 v15 x13.clocks :: []) ∧ Tr Dw w.heap.size A36 w33 A55 w') ?_ ?_
          · have hr49 : Tr Dw w.heap.size A36 w33 A36 w33 := Tr.refl (Dw := Dw) hA
            refine C_block ?_
            refine C_seq ?_
            refine C_region ?_
            obtain ⟨x57, hx57, ho47⟩ := Option.bind_eq_some_iff.1 ho47
            refine V_indexAddr h_l hx57 Tryz.underlying22 Tryz.sizeOf39 rfl rfl rfl ?_
            intro b58 o59 h60
            obtain ⟨v61, h63, h62⟩ := El_level_Clock h60
            refine V_y (Y_loadA h63 Tryz.isAgg39 Tryz.sizeOf39 rfl) rfl rfl rfl ?_
            refine V_alloc Tryz.zeroValue39 rfl ?_
            intro b64 w65 h66
            have h71 : (v61).oneCell' = true := by obtain ⟨_, _, e, _⟩ := Sl.form h62; rw [e]; rfl
            refine V_storeNew h66 Tryz.sizeOf39 rfl rfl rfl rfl (by exact (List.forall_mem_cons.2 ⟨rfl, (List.forall_mem_cons.2 ⟨rfl, (List.forall_mem_cons.2 ⟨rfl, (List.forall_mem_cons.2 ⟨rfl, (List.forall_mem_cons.2 ⟨rfl, (List.forall_mem_cons.2 ⟨rfl, (List.forall_mem_cons.2 ⟨h71, (fun _ h => nomatch h)⟩)⟩)⟩)⟩)⟩)⟩)⟩)) ?_
            intro w67 h68
            have hk73 := h68.kp (Dw := Dw)
            have h72 : El (α := level_Clock) A36 w67 b64 0 x57 := h68.el hA ⟨[.int .i64 x57.kind], _, rfl, rfl, ⟨[.int .i64 x57.level], _, rfl, rfl, ⟨[.int .i64 x57.minutes], _, rfl, rfl, ⟨[.int .i64 x57.start], _, rfl, rfl, ⟨[.int .i64 x57.stop], _, rfl, rfl, ⟨[.int .i64 x57.end_], _, rfl, rfl, ⟨_, rfl, h62⟩⟩⟩⟩⟩⟩⟩
            have ht74 := Kp.tr hk73 hA hB
            replace hH := Hp.kp hH hk73
            replace h_l := Sl.tr h_l ht74
            replace h60 := El.tr h60 ht74
            replace h62 := Sl.tr h62 ht74
            replace hK := Tr.trans hK ht74
            replace hr23 := Tr.trans hr23 ht74
            replace hr49 := Tr.trans hr49 ht74
            replace hB := Nat.le_trans hB ht74.ex.size
            replace hA := ht74.new
            refine V_to (fun _ _ => rfl) ?_
            refine C_seq ?_
            refine C_region ?_
            have h75 := El_level_Clock_5 h72
            refine V_y (Y_fieldAddr Tryz.underlying39 rfl Tryz.sizeOf3 (by decide) rfl) rfl rfl rfl ?_
            refine V_y (Y_load (El.int h75) Tryz.isAgg3 rfl) rfl rfl rfl ?_
            refine V_y (Y_eql rfl rfl) rfl rfl rfl ?_
            refine V_to (fun _ _ => rfl) ?_
            obtain ⟨s77, ho76, ho47⟩ := Option.bind_eq_some_iff.1 ho47
            refine C_cutG (ι := (Value × (Nat → Prop))) (fun ⟨v79, A84⟩ => [(2, .int .i64 percent), (9, .pointer (some ⟨b14, 0, none⟩)), (10, v79), (27, v_l), (28, .int .i64 (l.length : Int)), (29, .int .i64 (k24 : Int))]) (fun ⟨v79, A84⟩ => fun w' => Hp w.heap.size A84 w' (obS (α := Int) 3 v79 s77 :: obC b14 [v15] 81 :: obPS (obCk 109 portref2_ShiftsIn) 82 v15 x13.clocks :: []) ∧ Tr Dw w.heap.size A36 w67 A84 w') ?_ ?_
            · have hr78 : Tr Dw w.heap.size A36 w67 A36 w67 := Tr.refl (Dw := Dw) hA
              refine C_cond rfl (fun hc86 => ?_) (fun hc86 => ?_)
              · rw [if_pos hc86] at ho76
                refine C_region ?_
                refine V_mv rfl rfl ?_
                refine V_mv rfl rfl ?_
                obtain ⟨v87, h89, h88⟩ := El_level_Clock h72
                refine V_y (Y_loadA h89 Tryz.isAgg39 Tryz.sizeOf39 rfl) rfl rfl rfl ?_
                have h90 := El_level_Clock_4 h72
                refine V_y (Y_fieldAddr Tryz.underlying39 rfl Tryz.sizeOf3 (by decide) rfl) rfl rfl rfl ?_
                refine V_y (Y_load (El.int h90) Tryz.isAgg3 rfl) rfl rfl rfl ?_
                replace hH : Hp w.heap.size A36 w67 (obPS (obCk 109 portref2_ShiftsIn) 82 v15 x13.clocks :: obS (α := Int) 3 v34 s32 :: obC b14 [v15] 81 :: []) := Hp.front hH (i := 2) rfl
                replace hH : Hp w.heap.size A36 w67 (obC b14 [v15] 81 :: obPS (obCk 109 portref2_ShiftsIn) 82 v15 x13.clocks :: obS (α := Int) 3 v34 s32 :: []) := Hp.front hH (i := 2) rfl
                obtain ⟨x91, hx91, ho76⟩ := Option.bind_eq_some_iff.1 ho76
                refine V_call Tryz.call29 rfl rfl rfl rfl (portref2_meter_elapsed_c (Dw := Dw) w67 hB hA x13 b14 v15 x57 v87 h88 x57.stop hH hx91) ?_
                rintro _ w92 ⟨A93, rfl, hH94, ht95⟩
                replace h_l := Sl.tr h_l ht95
                replace h72 := El.tr h72 ht95
                replace h88 := Sl.tr h88 ht95
                replace h90 := El.tr h90 ht95
                replace hK := Tr.trans hK ht95
                replace hr23 := Tr.trans hr23 ht95
                replace hr49 := Tr.trans hr49 ht95
                replace hr78 := Tr.trans hr78 ht95
                replace hB := Nat.le_trans hB ht95.ex.size
                replace hA := ht95.new
                replace hH : Hp w.heap.size A93 w92 (obC b14 [v15] 81 :: obPS (obCk 109 portref2_ShiftsIn) 82 v15 x13.clocks :: obS (α := Int) 3 v34 s32 :: []) := hH94
                refine V_buildSlice (Dw := Dw) (l := ([x91] : List Int)) (len := 1) Tryz.underlying48 Tryz.sizeOf3 Tryz.zeroValue3 rfl (by with_unfolding_all rfl) (show (1 * 1 : Nat) ≠ 0 by decide) (show (1 * 1 : Nat) ≤ 2 ^ 24 by decide) hA ⟨[.int .i64 x91], _, rfl, rfl, rfl⟩ rfl rfl ?_
                intro v96 w97 hk99 h98
                have ht100 := Kp.tr hk99 hA hB
                replace hH := Hp.kp hH hk99
                replace h_l := Sl.tr h_l ht100
                replace h72 := El.tr h72 ht100
                replace h88 := Sl.tr h88 ht100
                replace h90 := El.tr h90 ht100
                replace hK := Tr.trans hK ht100
                replace hr23 := Tr.trans hr23 ht100
                replace hr49 := Tr.trans hr49 ht100
                replace hr78 := Tr.trans hr78 ht100
                replace hB := Nat.le_trans hB ht100.ex.size
                replace hA := ht100.new
                obtain ⟨x101, hx101, ho76⟩ := Option.bind_eq_some_iff.1 ho76
                refine V_appendH (Dw := Dw) (e := 3) (v := v34) (l := s32) (ti := Tryz.t3) (bytes := 8) (lim := 17592186044416) hH (i := 2) rfl h98 hx101 Tryz.underlying48 Tryz_info3 rfl rfl rfl rfl (by decide) (by decide) (by decide) hB hA rfl rfl rfl ?_
                intro v102 w103 A104 hH105 ht106
                replace h_l := Sl.tr h_l ht106
                replace h72 := El.tr h72 ht106
                replace h88 := Sl.tr h88 ht106
                replace h90 := El.tr h90 ht106
                replace h98 := Sl.tr h98 ht106
                replace hK := Tr.trans hK ht106
                replace hr23 := Tr.trans hr23 ht106
                replace hr49 := Tr.trans hr49 ht106
                replace hr78 := Tr.trans hr78 ht106
                replace hB := Nat.le_trans hB ht106.ex.size
                replace hA := ht106.new
                replace hH : Hp w.heap.size A104 w103 (obC b14 [v15] 81 :: obPS (obCk 109 portref2_ShiftsIn) 82 v15 x13.clocks :: obS (α := Int) 3 v102 x101 :: []) := hH105
                refine V_as rfl rfl ?_
                obtain rfl := Option.some.inj ho76
                refine V_end (fun a ha107 => ?_)
                replace hH : Hp w.heap.size A104 w103 (obPS (obCk 109 portref2_ShiftsIn) 82 v15 x13.clocks :: obC b14 [v15] 81 :: obS (α := Int) 3 v102 x101 :: []) := Hp.front hH (i := 1) rfl
                replace hH : Hp w.heap.size A104 w103 (obC b14 [v15] 81 :: obPS (obCk 109 portref2_ShiftsIn) 82 v15 x13.clocks :: obS (α := Int) 3 v102 x101 :: []) := Hp.front hH (i := 1) rfl
                replace hH : Hp w.heap.size A104 w103 (obS (α := Int) 3 v102 x101 :: obC b14 [v15] 81 :: obPS (obCk 109 portref2_ShiftsIn) 82 v15 x13.clocks :: []) := Hp.front hH (i := 2) rfl
                exact ⟨(v102, A104), ha107.sub ⟨rfl, rfl, rfl, rfl, rfl, rfl, trivial⟩, ⟨hH, hr78⟩⟩
              · rw [if_neg (nt hc86)] at ho76
                obtain rfl := Option.some.inj ho76
                refine C_skip (fun a ha108 => ?_)
                exact ⟨(v34, A36), ha108.sub ⟨rfl, rfl, rfl, rfl, rfl, rfl, trivial⟩, ⟨hH, hr78⟩⟩
            rintro ⟨v79, A84⟩ w81 ⟨hH85, hk82⟩ a ha83
            replace h_l := Sl.tr h_l hk82
            replace hK := Tr.trans hK hk82
            replace hr23 := Tr.trans hr23 hk82
            replace hr49 := Tr.trans hr49 hk82
            replace hB := Nat.le_trans hB hk82.ex.size
            replace hA := hk82.new
            replace hH : Hp w.heap.size A84 w81 (obS (α := Int) 3 v79 s77 :: obC b14 [v15] 81 :: obPS (obCk 109 portref2_ShiftsIn) 82 v15 x13.clocks :: []) := hH85
            obtain rfl := Option.some.inj ho47
            exact ⟨(v79, A84), ha83.sub ⟨rfl, rfl, rfl, rfl, rfl, rfl, trivial⟩, ⟨hH, hr49⟩⟩
          rintro ⟨v50, A55⟩ w52 ⟨hH56, hk53⟩ a ha54
          replace h_l := Sl.tr h_l hk53
          replace hK := Tr.trans hK hk53
          replace hr23 := Tr.trans hr23 hk53
          replace hB := Nat.le_trans hB hk53.ex.size
          replace hA := hk53.new
          replace hH : Hp w.heap.size A55 w52 (obS (α := Int) 3 v50 s48 :: obC b14 [v15] 81 :: obPS (obCk 109 portref2_ShiftsIn) 82 v15 x13.clocks :: []) := hH56
          refine C_at (n := ⟨61, [], none⟩) (fun _ _ => rfl) ?_ ha54
          refine C_region ?_
          refine V_y (Y_addI rfl rfl) rfl rfl rfl ?_
          refine V_mv rfl rfl ?_
          obtain rfl := Option.some.inj h39
          refine V_end (fun a ha110 => ?_)
          exact ⟨s48, hlt42, h40, ⟨(v50, A55), ha110.sub ⟨rfl, rfl, rfl, rfl, rfl, (congrArg (fun z => some (Value.int .i64 z)) (w64_succ hlt42 hn45)), trivial⟩, ⟨hH, hr23⟩⟩⟩
        · refine C_exit (fun a ha111 => ?_)
          exact ⟨(s32, v34, A36), ha111.sub ⟨rfl, rfl, trivial⟩, ⟨(h43 (eq_of_dec hle41 hc46)).symm, hH, hr23⟩⟩
      rintro ⟨s22, v28, A30⟩ w25 ⟨rfl, hH31, hk26⟩ a ha27
      rw [Lp.andThen_fin] at hm
      replace hK := Tr.trans hK hk26
      replace hB := Nat.le_trans hB hk26.ex.size
      replace hA := hk26.new
      replace hH : Hp w.heap.size A30 w25 (obS (α := Int) 3 v28 s22 :: obC b14 [v15] 81 :: obPS (obCk 109 portref2_ShiftsIn) 82 v15 x13.clocks :: []) := hH31
      refine C_at (n := ⟨61, [], none⟩) (fun _ _ => rfl) ?_ ha27
      refine C_seq ?_
      refine C_seq ?_
      refine C_region ?_
      refine V_mv rfl rfl ?_
      refine V_y (Y_lenSl (Hp.any (α := Int) (e := 3) (v := v28) (l := s22) hH (i := 0) rfl) rfl Tryz.underlying48 rfl) rfl rfl rfl ?_
      refine V_y (Y_eql rfl rfl) rfl rfl rfl ?_
      refine V_to (fun _ _ => rfl) ?_
      refine C_cond rfl (fun hc113 => ?_) (fun hc113 => ?_)
      · rw [if_pos hc113] at hm
        refine C_seq ?_
        refine C_region ?_
        refine V_as rfl rfl ?_
        refine V_as rfl rfl ?_
        refine V_to (fun _ _ => rfl) ?_
        obtain rfl := Option.some.inj hm
        refine C_ret ?_
        try simp only [↓inBlock_ret, ↓then_ret]
        exact retQ rfl (Res.two Tryz.results7 rfl rfl) ⟨rfl, hK.kp⟩
      · rw [if_neg (nt hc113)] at hm
        refine C_skip_to (fun _ _ => rfl) ?_
        refine C_seq ?_
        refine C_region ?_
        refine V_mv rfl rfl ?_
        obtain ⟨x114, hx114, hm⟩ := Option.bind_eq_some_iff.1 hm
        refine V_call Tryz.call20 rfl rfl rfl rfl (Tryz_sortInts (Dw := Dw) hH (i := 0) rfl hB hA hx114) ?_
        rintro _ w115 ⟨rfl, hH116, ht117⟩
        replace hK := Tr.trans hK ht117
        replace hB := Nat.le_trans hB ht117.ex.size
        replace hA := ht117.new
        replace hH : Hp w.heap.size A30 w115 (obS (α := Int) 3 v28 x114 :: obC b14 [v15] 81 :: obPS (obCk 109 portref2_ShiftsIn) 82 v15 x13.clocks :: []) := hH116
        refine V_to (fun _ _ => rfl) ?_
        refine C_seq ?_
        refine C_region ?_
        refine V_mv rfl rfl ?_
        refine V_mv rfl rfl ?_
        refine V_mv rfl rfl ?_
        refine V_y (Y_lenSl (Hp.any (α := Int) (e := 3) (v := v28) (l := x114) hH (i := 0) rfl) rfl Tryz.underlying48 rfl) rfl rfl rfl ?_
        refine V_y (Y_mulI rfl rfl) rfl rfl rfl ?_
        refine V_y (Y_addI rfl rfl) rfl rfl rfl ?_
        refine V_y (Y_quo (by rw [quo, if_neg (by decide)]) rfl rfl) rfl rfl rfl ?_
        refine V_y (Y_max2 rfl rfl) rfl rfl rfl ?_
        refine V_y (Y_subI rfl rfl) rfl rfl rfl ?_
        obtain ⟨x118, hx118, hm⟩ := Option.bind_eq_some_iff.1 hm
        refine V_indexAddrH (α := Int) (e := 3) (v := v28) (l := x114) hH (i := 0) rfl hx118 Tryz.underlying48 Tryz.sizeOf3 rfl rfl rfl ?_
        intro b119 o120 h121 hl122
        refine V_y (Y_load (El.int h121) Tryz.isAgg3 rfl) rfl rfl rfl ?_
        refine V_as rfl rfl ?_
        refine V_as rfl rfl ?_
        refine V_to (fun _ _ => rfl) ?_
        obtain rfl := Option.some.inj hm
        refine C_ret ?_
        try simp only [↓inBlock_ret, ↓then_ret]
        exact retQ rfl (Res.two Tryz.results7 rfl rfl) ⟨rfl, hK.kp⟩

set_option maxRecDepth 4000 in
set_option maxHeartbeats 4000000 in
theorem slices_Equal_Llevel_Share_level_Share_c (w : World) {A : Nat → Prop} (hA : ∀ b, w.heap.size ≤ b → A b) (s1 : (List level_Share)) (v_s1 : Value) (h_s1 : Sl A w v_s1 s1) (s2 : (List level_Share)) (v_s2 : Value) (h_s2 : Sl A w v_s2 s2) {r : Bool} (hm : slices_Equal_Llevel_Share_level_Share s1 s2 = some r) : Ret Tryz.prog 8 #[v_s1, v_s2] w fun v w' => v = .bool r ∧ Kp Dw w w' := by
  unfold slices_Equal_Llevel_Share_level_Share at hm
  refine enter Tryz.func8 rfl Tryz.ntmps8 rfl ?_
  have hA0 := hA
  have hB := Nat.le_refl w.heap.size
  have hK : Tr Dw w.heap.size A w A w := Tr.refl (Dw := Dw) hA
  have hH : Hp w.heap.size A w [] := Hp.nil
  refine C_seq ?_
  refine C_region ?_
  refine V_as rfl rfl ?_
  refine V_to (fun _ _ => rfl) ?_
  refine C_seq ?_
  refine C_seq ?_
  refine C_region ?_
  refine V_mv rfl rfl ?_
  refine V_y (Y_lenSl h_s1 rfl Tryz.underlying24 rfl) rfl rfl rfl ?_
  refine V_mv rfl rfl ?_
  refine V_y (Y_lenSl h_s2 rfl Tryz.underlying24 rfl) rfl rfl rfl ?_
  refine V_y (Y_neq rfl rfl) rfl rfl rfl ?_
  refine V_to (fun _ _ => rfl) ?_
  refine C_cond rfl (fun hc5 => ?_) (fun hc5 => ?_)
  · rw [if_pos hc5] at hm
    refine C_seq ?_
    refine C_region ?_
    refine V_as rfl rfl ?_
    refine V_to (fun _ _ => rfl) ?_
    obtain rfl := Option.some.inj hm
    refine C_ret ?_
    try simp only [↓inBlock_ret, ↓then_ret]
    exact retQ rfl (Res.one Tryz.results8 rfl) ⟨rfl, hK.kp⟩
  · rw [if_neg (nt hc5)] at hm
    refine C_skip_to (fun _ _ => rfl) ?_
    refine C_seq ?_
    refine C_seq ?_
    refine C_region ?_
    refine V_mv rfl rfl ?_
    refine V_y (Y_lenSl h_s1 rfl Tryz.underlying24 rfl) rfl rfl rfl ?_
    refine V_mv rfl rfl ?_
    refine V_to (fun _ _ => rfl) ?_
    have hn27 := Sl.le h_s1
    obtain ⟨o6, ho6, hm⟩ := Option.bind_eq_some_iff.1 hm
    refine C_cutG (ι := (Unit × (Nat → Prop))) (fun ⟨s7, A13⟩ => []) (fun ⟨s7, A13⟩ => fun w' => o6 = .fin s7 ∧ Hp w.heap.size A13 w' ([]) ∧ Tr Dw w.heap.size A w A13 w') ?_ ?_
    · refine C_block ?_
      refine C_range ho6 (fun k9 _ a w' => ∃ i : (Nat → Prop), Has ⟨26, [], none⟩ a ([(0, v_s1), (1, v_s2), (12, .int .i64 (s1.length : Int)), (13, .int .i64 (k9 : Int))]) ∧ Hp w.heap.size i w' ([]) ∧ Tr Dw w.heap.size A w i w') (fun a ha => ⟨A, ha.sub ⟨rfl, rfl, rfl, rfl, trivial⟩, ⟨hH, Tr.refl (Dw := Dw) hA⟩⟩) ?_
      rintro K k9 _ a w17 ⟨A18, ha45, hH19, hr8⟩ hle23 K26 h25
      refine C_of ?_ ha45
      replace h_s1 := Sl.tr h_s1 hr8
      replace h_s2 := Sl.tr h_s2 hr8
      replace hK := Tr.trans hK hr8
      replace hB := Nat.le_trans hB hr8.ex.size
      replace hA := hr8.new
      replace hH : Hp w.heap.size A18 w17 ([]) := hH19
      refine C_seq (C_region (V_y (Y_lss rfl rfl) rfl rfl rfl (V_to (fun _ _ => rfl) ?_)))
      refine C_seq ?_
      refine C_cond rfl (fun hc28 => ?_) (fun hc28 => ?_)
      · have hlt24 := lt_of_dec hc28
        obtain ⟨x20, h21, h22⟩ := K26 hlt24
        refine C_skip_to (fun _ _ => rfl) ?_
        refine C_seq ?_
        refine C_block ?_
        refine C_seq ?_
        refine C_region ?_
        refine V_mv rfl rfl ?_
        refine V_as rfl rfl ?_
        refine V_to (fun _ _ => rfl) ?_
        refine C_seq ?_
        refine C_region_q (Dw := Dw) Tryz_mixed (by kernel_rfl) ?_
        refine VQ_y (fun w' hw' => Y_move rfl) rfl rfl rfl ?_
        refine VQ_y (fun w' hw' => Y_move rfl) rfl rfl rfl ?_
        obtain ⟨x29, hx29, h21⟩ := Option.bind_eq_some_iff.1 h21
        refine VQ_indexAddr h_s1 hx29 Tryz.underlying24 Tryz.sizeOf32 rfl rfl rfl ?_
        intro b30 o31 h32
        obtain ⟨h33, _⟩ := El_level_Share h32
        refine VQ_y (fun w' hw' => Y_loadA (At.kp (Dw := Dw) h33 hw' h32.2.1) Tryz.isAgg32 Tryz.sizeOf32 rfl) rfl rfl rfl ?_
        refine VQ_y (fun w' hw' => Y_move rfl) rfl rfl rfl ?_
        refine VQ_y (fun w' hw' => Y_move rfl) rfl rfl rfl ?_
        obtain ⟨x34, hx34, h21⟩ := Option.bind_eq_some_iff.1 h21
        refine VQ_indexAddr h_s2 hx34 Tryz.underlying24 Tryz.sizeOf32 rfl rfl rfl ?_
        intro b35 o36 h37
        obtain ⟨h38, _⟩ := El_level_Share h37
        refine VQ_y (fun w' hw' => Y_loadA (At.kp (Dw := Dw) h38 hw' h37.2.1) Tryz.isAgg32 Tryz.sizeOf32 rfl) rfl rfl rfl ?_
        refine VQ_y (fun w' hw' => Y_neqA (fun w => Tryz_eqt32_10000 x29.level x29.kind x29.running x29.kept x29.broken x29.gone x34.level x34.kind x34.running x34.kept x34.broken x34.gone w) Tryz_eqg32 rfl rfl) rfl rfl rfl ?_
        refine VQ_to (fun _ _ => rfl) (fun w39 hk40 => ?_)
        have ht41 := Kp.tr hk40 hA hB
        replace hH := Hp.kp hH hk40
        replace h_s1 := Sl.tr h_s1 ht41
        replace h_s2 := Sl.tr h_s2 ht41
        replace hK := Tr.trans hK ht41
        replace hr8 := Tr.trans hr8 ht41
        replace hB := Nat.le_trans hB ht41.ex.size
        replace hA := ht41.new
        refine C_cond rfl (fun hc42 => ?_) (fun hc42 => ?_)
        · rw [if_pos hc42] at h21
          refine C_seq ?_
          refine C_region ?_
          refine V_as rfl rfl ?_
          refine V_to (fun _ _ => rfl) ?_
          obtain rfl := Option.some.inj h21
          obtain rfl := (h22 : Lp.rt _ = _)
          rw [Lp.andThen_rt] at hm
          obtain rfl := Option.some.inj hm
          refine C_ret ?_
          try simp only [↓inBlock_ret, ↓then_ret]
          exact retQ rfl (Res.one Tryz.results8 rfl) ⟨rfl, hK.kp⟩
        · rw [if_neg (nt hc42)] at h21
          refine C_skip_to (fun _ _ => rfl) ?_
          refine C_region ?_
          refine V_y (Y_addI rfl rfl) rfl rfl rfl ?_
          refine V_mv rfl rfl ?_
          obtain rfl := Option.some.inj h21
          refine V_end (fun a ha43 => ?_)
          exact ⟨(), hlt24, h22, ⟨A18, ha43.sub ⟨rfl, rfl, rfl, (congrArg (fun z => some (Value.int .i64 z)) (w64_succ hlt24 hn27)), trivial⟩, ⟨hH, hr8⟩⟩⟩
      · refine C_exit (fun a ha44 => ?_)
        exact ⟨((), A18), ha44.sub trivial, ⟨(h25 (eq_of_dec hle23 hc28)).symm, hH, hr8⟩⟩
    rintro ⟨s7, A13⟩ w10 ⟨rfl, hH14, hk11⟩ a ha12
    rw [Lp.andThen_fin] at hm
    replace hK := Tr.trans hK hk11
    replace hB := Nat.le_trans hB hk11.ex.size
    replace hA := hk11.new
    replace hH : Hp w.heap.size A13 w10 ([]) := hH14
    refine C_at (n := ⟨26, [], none⟩) (fun _ _ => rfl) ?_ ha12
    refine C_seq ?_
    refine C_region ?_
    refine V_as rfl rfl ?_
    refine V_to (fun _ _ => rfl) ?_
    obtain rfl := Option.some.inj hm
    refine C_ret ?_
    try simp only [↓inBlock_ret, ↓then_ret]
    exact retQ rfl (Res.one Tryz.results8 rfl) ⟨rfl, hK.kp⟩

set_option maxRecDepth 4000 in
set_option maxHeartbeats 4000000 in
theorem portlaw2_ClockShares_c (w : World) {A : Nat → Prop} (hA : ∀ b, w.heap.size ≤ b → A b) (l : (List level_Clock)) (v_l : Value) (h_l : Sl A w v_l l) (cals : (List cal_Calendar)) (v_cals : Value) (h_cals : Sl A w v_cals cals) (m : Int) (percent : Int) {r : Bool} (hm : portlaw2_ClockShares l cals m percent = some r) : Ret Tryz.prog 3 #[v_l, v_cals, .int .i64 m, .int .i64 percent] w fun v w' => v = .bool r ∧ Kp Dw w w' := by
  unfold portlaw2_ClockShares at hm
  refine enter Tryz.func3 rfl Tryz.ntmps3 rfl ?_
  have hA0 := hA
  have hB := Nat.le_refl w.heap.size
  have hK : Tr Dw w.heap.size A w A w := Tr.refl (Dw := Dw) hA
  have hH : Hp w.heap.size A w [] := Hp.nil
  refine C_seq ?_
  refine C_region ?_
  refine V_as rfl rfl ?_
  refine V_to (fun _ _ => rfl) ?_
  refine C_seq ?_
  refine C_region ?_
  refine V_mv rfl rfl ?_
  refine V_mv rfl rfl ?_
  refine V_mv rfl rfl ?_
  obtain ⟨x5, hx5, hm⟩ := Option.bind_eq_some_iff.1 hm
  refine V_call Tryz.call4 rfl rfl rfl rfl (level_Shares_c (Dw := Dw) w hA l v_l h_l cals v_cals h_cals m hx5) ?_
  rintro _ w9 ⟨v6, rfl, h7, hk10⟩
  obtain ⟨A11, ht12, hH13⟩ := Hp.addOwnd (Dw := Dw) hH hB hA hk10 h7
  replace h_l := Sl.tr h_l ht12
  replace h_cals := Sl.tr h_cals ht12
  replace hK := Tr.trans hK ht12
  replace hB := Nat.le_trans hB ht12.ex.size
  replace hA := ht12.new
  replace hH : Hp w.heap.size A11 w9 (obS (α := level_Share) 32 v6 x5.1 :: []) := hH13
  refine V_mv rfl rfl ?_
  refine V_y (Y_extract rfl rfl) rfl rfl rfl ?_
  refine V_y (Y_extract rfl rfl) rfl rfl rfl ?_
  refine V_as rfl rfl ?_
  refine V_as rfl rfl ?_
  refine V_to (fun _ _ => rfl) ?_
  refine C_seq ?_
  refine C_region ?_
  refine V_mv rfl rfl ?_
  refine V_mv rfl rfl ?_
  refine V_mv rfl rfl ?_
  obtain ⟨x14, hx14, hm⟩ := Option.bind_eq_some_iff.1 hm
  refine V_call Tryz.call5 rfl rfl rfl rfl (level_Percentile_c (Dw := Dw) w9 hA l v_l h_l cals v_cals h_cals percent hx14) ?_
  rintro _ w15 ⟨rfl, hk16⟩
  have ht17 := Kp.tr hk16 hA hB
  replace hH := Hp.kp hH hk16
  replace h_l := Sl.tr h_l ht17
  replace h_cals := Sl.tr h_cals ht17
  replace hK := Tr.trans hK ht17
  replace hB := Nat.le_trans hB ht17.ex.size
  replace hA := ht17.new
  refine V_mv rfl rfl ?_
  refine V_y (Y_extract rfl rfl) rfl rfl rfl ?_
  refine V_y (Y_extract rfl rfl) rfl rfl rfl ?_
  refine V_as rfl rfl ?_
  refine V_as rfl rfl ?_
  refine V_to (fun _ _ => rfl) ?_
  refine C_seq ?_
  refine C_region ?_
  refine V_mv rfl rfl ?_
  refine V_mv rfl rfl ?_
  refine V_mv rfl rfl ?_
  obtain ⟨x18, hx18, hm⟩ := Option.bind_eq_some_iff.1 hm
  refine V_call Tryz.call6 rfl rfl rfl rfl (portref2_SharesOf_c (Dw := Dw) w15 hA l v_l h_l cals v_cals h_cals m hx18) ?_
  rintro _ w21 ⟨v19, rfl, h20, hk22⟩
  obtain ⟨A23, ht24, hH25⟩ := Hp.addOwnd (Dw := Dw) hH hB hA hk22 h20
  replace h_l := Sl.tr h_l ht24
  replace h_cals := Sl.tr h_cals ht24
  replace hK := Tr.trans hK ht24
  replace hB := Nat.le_trans hB ht24.ex.size
  replace hA := ht24.new
  replace hH : Hp w.heap.size A23 w21 (obS (α := level_Share) 32 v19 x18.1 :: obS (α := level_Share) 32 v6 x5.1 :: []) := hH25
  refine V_mv rfl rfl ?_
  refine V_y (Y_extract rfl rfl) rfl rfl rfl ?_
  refine V_y (Y_extract rfl rfl) rfl rfl rfl ?_
  refine V_as rfl rfl ?_
  refine V_as rfl rfl ?_
  refine V_to (fun _ _ => rfl) ?_
  refine C_seq ?_
  refine C_region ?_
  refine V_mv rfl rfl ?_
  refine V_mv rfl rfl ?_
  refine V_mv rfl rfl ?_
  obtain ⟨x26, hx26, hm⟩ := Option.bind_eq_some_iff.1 hm
  refine V_call Tryz.call7 rfl rfl rfl rfl (portref2_PercentileOf_c (Dw := Dw) w21 hA l v_l h_l cals v_cals h_cals percent hx26) ?_
  rintro _ w27 ⟨rfl, hk28⟩
  have ht29 := Kp.tr hk28 hA hB
  replace hH := Hp.kp hH hk28
  replace h_l := Sl.tr h_l ht29
  replace h_cals := Sl.tr h_cals ht29
  replace hK := Tr.trans hK ht29
  replace hB := Nat.le_trans hB ht29.ex.size
  replace hA := ht29.new
  refine V_mv rfl rfl ?_
  refine V_y (Y_extract rfl rfl) rfl rfl rfl ?_
  refine V_y (Y_extract rfl rfl) rfl rfl rfl ?_
  refine V_as rfl rfl ?_
  refine V_as rfl rfl ?_
  refine V_to (fun _ _ => rfl) ?_
  refine C_seq ?_
  obtain ⟨s31, ho30, hm⟩ := Option.bind_eq_some_iff.1 hm
  refine C_cutG (ι := (Nat → Prop)) (fun (A36 : (Nat → Prop)) => [(8, .bool s31)]) (fun (A36 : (Nat → Prop)) => fun w' => Hp w.heap.size A36 w' (obS (α := level_Share) 32 v19 x18.1 :: obS (α := level_Share) 32 v6 x5.1 :: []) ∧ Tr Dw w.heap.size A23 w27 A36 w') ?_ ?_
  · have hr32 : Tr Dw w.heap.size A23 w27 A23 w27 := Tr.refl (Dw := Dw) hA
    refine C_region ?_
    refine V_mv rfl rfl ?_
    refine V_mv rfl rfl ?_
    refine V_y (Y_eql rfl rfl) rfl rfl rfl ?_
    refine V_mv rfl rfl ?_
    rcases Bool.eq_false_or_eq_true (x14.1 == x26.1) with hc38 | hc38
    · rw [if_pos hc38] at ho30
      refine V_ge rfl rfl rfl hc38 ?_
      refine V_mv rfl rfl ?_
      refine V_ge rfl rfl rfl hc38 ?_
      refine V_mv rfl rfl ?_
      refine V_ge rfl rfl rfl hc38 ?_
      refine V_y (Y_eql rfl rfl) rfl rfl rfl ?_
      refine V_y (Y_pick_te rfl hc38 rfl) rfl rfl rfl ?_
      refine V_mv rfl rfl ?_
      rcases Bool.eq_false_or_eq_true (x5.2 == x18.2) with hc39 | hc39
      · rw [if_pos hc39] at ho30
        refine V_ge rfl rfl rfl hc39 ?_
        refine V_mv rfl rfl ?_
        refine V_ge rfl rfl rfl hc39 ?_
        refine V_mv rfl rfl ?_
        refine V_ge rfl rfl rfl hc39 ?_
        refine V_y (Y_eql rfl rfl) rfl rfl rfl ?_
        refine V_y (Y_pick_te rfl hc39 rfl) rfl rfl rfl ?_
        refine V_mv rfl rfl ?_
        rcases Bool.eq_false_or_eq_true (x14.2 == x26.2) with hc40 | hc40
        · rw [if_pos hc40] at ho30
          refine V_ge rfl rfl rfl hc40 ?_
          refine V_mv rfl rfl ?_
          refine V_ge rfl rfl rfl hc40 ?_
          refine V_mv rfl rfl ?_
          refine V_ge rfl rfl rfl hc40 ?_
          obtain ⟨x41, hx41, ho30⟩ := Option.bind_eq_some_iff.1 ho30
          refine V_call Tryz.call8 rfl rfl rfl rfl (slices_Equal_Llevel_Share_level_Share_c (Dw := Dw) w27 (A := fun _ => True) (fun _ _ => trivial) x5.1 v6 (Hp.any (α := level_Share) (e := 32) (v := v6) (l := x5.1) hH (i := 1) rfl) x18.1 v19 (Hp.any (α := level_Share) (e := 32) (v := v19) (l := x18.1) hH (i := 0) rfl) hx41) ?_
          rintro _ w42 ⟨rfl, hk43⟩
          have ht44 := Kp.tr hk43 hA hB
          replace hH := Hp.kp hH hk43
          replace hK := Tr.trans hK ht44
          replace hr32 := Tr.trans hr32 ht44
          replace hB := Nat.le_trans hB ht44.ex.size
          replace hA := ht44.new
          refine V_y (Y_pick_te rfl hc40 rfl) rfl rfl rfl ?_
          refine V_as rfl rfl ?_
          obtain rfl := Option.some.inj ho30
          refine V_end (fun a ha45 => ?_)
          exact ⟨A23, ha45.sub ⟨rfl, trivial⟩, ⟨hH, hr32⟩⟩
        · rw [if_neg (nt hc40)] at ho30
          refine V_gn rfl rfl rfl hc40 rfl rfl rfl ?_
          refine V_gn rfl rfl rfl hc40 rfl rfl rfl ?_
          refine V_gn rfl rfl rfl hc40 rfl rfl rfl ?_
          refine V_y (Y_pick_fe rfl hc40 rfl) rfl rfl rfl ?_
          refine V_as rfl rfl ?_
          obtain rfl := Option.some.inj ho30
          refine V_end (fun a ha46 => ?_)
          exact ⟨A23, ha46.sub ⟨rfl, trivial⟩, ⟨hH, hr32⟩⟩
      · rw [if_neg (nt hc39)] at ho30
        refine V_gn rfl rfl rfl hc39 rfl rfl rfl ?_
        refine V_gn rfl rfl rfl hc39 rfl rfl rfl ?_
        refine V_gn rfl rfl rfl hc39 rfl rfl rfl ?_
        refine V_y (Y_pick_fe rfl hc39 rfl) rfl rfl rfl ?_
        refine V_mv rfl rfl ?_
        rcases Bool.eq_false_or_eq_true (false) with hc47 | hc47
        · rw [if_pos hc47] at ho30
          refine V_ge rfl rfl rfl hc47 ?_
          refine V_mv rfl rfl ?_
          refine V_ge rfl rfl rfl hc47 ?_
          refine V_mv rfl rfl ?_
          refine V_ge rfl rfl rfl hc47 ?_
          obtain ⟨x48, hx48, ho30⟩ := Option.bind_eq_some_iff.1 ho30
          refine V_call Tryz.call8 rfl rfl rfl rfl (slices_Equal_Llevel_Share_level_Share_c (Dw := Dw) w27 (A := fun _ => True) (fun _ _ => trivial) x5.1 v6 (Hp.any (α := level_Share) (e := 32) (v := v6) (l := x5.1) hH (i := 1) rfl) x18.1 v19 (Hp.any (α := level_Share) (e := 32) (v := v19) (l := x18.1) hH (i := 0) rfl) hx48) ?_
          rintro _ w49 ⟨rfl, hk50⟩
          have ht51 := Kp.tr hk50 hA hB
          replace hH := Hp.kp hH hk50
          replace hK := Tr.trans hK ht51
          replace hr32 := Tr.trans hr32 ht51
          replace hB := Nat.le_trans hB ht51.ex.size
          replace hA := ht51.new
          refine V_y (Y_pick_te rfl hc47 rfl) rfl rfl rfl ?_
          refine V_as rfl rfl ?_
          obtain rfl := Option.some.inj ho30
          refine V_end (fun a ha52 => ?_)
          exact ⟨A23, ha52.sub ⟨rfl, trivial⟩, ⟨hH, hr32⟩⟩
        · rw [if_neg (nt hc47)] at ho30
          refine V_gn rfl rfl rfl hc47 rfl rfl rfl ?_
          refine V_gn rfl rfl rfl hc47 rfl rfl rfl ?_
          refine V_gn rfl rfl rfl hc47 rfl rfl rfl ?_
          refine V_y (Y_pick_fe rfl hc47 rfl) rfl rfl rfl ?_
          refine V_as rfl rfl ?_
          obtain rfl := Option.some.inj ho30
          refine V_end (fun a ha53 => ?_)
          exact ⟨A23, ha53.sub ⟨rfl, trivial⟩, ⟨hH, hr32⟩⟩
    · rw [if_neg (nt hc38)] at ho30
      refine V_gn rfl rfl rfl hc38 rfl rfl rfl ?_
      refine V_gn rfl rfl rfl hc38 rfl rfl rfl ?_
      refine V_gn rfl rfl rfl hc38 rfl rfl rfl ?_
      refine V_y (Y_pick_fe rfl hc38 rfl) rfl rfl rfl ?_
      refine V_mv rfl rfl ?_
      rcases Bool.eq_false_or_eq_true (false) with hc54 | hc54
      · rw [if_pos hc54] at ho30
        refine V_ge rfl rfl rfl hc54 ?_
        refine V_mv rfl rfl ?_
        refine V_ge rfl rfl rfl hc54 ?_
        refine V_mv rfl rfl ?_
        refine V_ge rfl rfl rfl hc54 ?_
        refine V_y (Y_eql rfl rfl) rfl rfl rfl ?_
        refine V_y (Y_pick_te rfl hc54 rfl) rfl rfl rfl ?_
        refine V_mv rfl rfl ?_
        rcases Bool.eq_false_or_eq_true (x14.2 == x26.2) with hc55 | hc55
        · rw [if_pos hc55] at ho30
          refine V_ge rfl rfl rfl hc55 ?_
          refine V_mv rfl rfl ?_
          refine V_ge rfl rfl rfl hc55 ?_
          refine V_mv rfl rfl ?_
          refine V_ge rfl rfl rfl hc55 ?_
          obtain ⟨x56, hx56, ho30⟩ := Option.bind_eq_some_iff.1 ho30
          refine V_call Tryz.call8 rfl rfl rfl rfl (slices_Equal_Llevel_Share_level_Share_c (Dw := Dw) w27 (A := fun _ => True) (fun _ _ => trivial) x5.1 v6 (Hp.any (α := level_Share) (e := 32) (v := v6) (l := x5.1) hH (i := 1) rfl) x18.1 v19 (Hp.any (α := level_Share) (e := 32) (v := v19) (l := x18.1) hH (i := 0) rfl) hx56) ?_
          rintro _ w57 ⟨rfl, hk58⟩
          have ht59 := Kp.tr hk58 hA hB
          replace hH := Hp.kp hH hk58
          replace hK := Tr.trans hK ht59
          replace hr32 := Tr.trans hr32 ht59
          replace hB := Nat.le_trans hB ht59.ex.size
          replace hA := ht59.new
          refine V_y (Y_pick_te rfl hc55 rfl) rfl rfl rfl ?_
          refine V_as rfl rfl ?_
          obtain rfl := Option.some.inj ho30
          refine V_end (fun a ha60 => ?_)
          exact ⟨A23, ha60.sub ⟨rfl, trivial⟩, ⟨hH, hr32⟩⟩
        · rw [if_neg (nt hc55)] at ho30
          refine V_gn rfl rfl rfl hc55 rfl rfl rfl ?_
          refine V_gn rfl rfl rfl hc55 rfl rfl rfl ?_
          refine V_gn rfl rfl rfl hc55 rfl rfl rfl ?_
          refine V_y (Y_pick_fe rfl hc55 rfl) rfl rfl rfl ?_
          refine V_as rfl rfl ?_
          obtain rfl := Option.some.inj ho30
          refine V_end (fun a ha61 => ?_)
          exact ⟨A23, ha61.sub ⟨rfl, trivial⟩, ⟨hH, hr32⟩⟩
      · rw [if_neg (nt hc54)] at ho30
        refine V_gn rfl rfl rfl hc54 rfl rfl rfl ?_
        refine V_gn rfl rfl rfl hc54 rfl rfl rfl ?_
        refine V_gn rfl rfl rfl hc54 rfl rfl rfl ?_
        refine V_y (Y_pick_fe rfl hc54 rfl) rfl rfl rfl ?_
        refine V_mv rfl rfl ?_
        rcases Bool.eq_false_or_eq_true (false) with hc62 | hc62
        · rw [if_pos hc62] at ho30
          refine V_ge rfl rfl rfl hc62 ?_
          refine V_mv rfl rfl ?_
          refine V_ge rfl rfl rfl hc62 ?_
          refine V_mv rfl rfl ?_
          refine V_ge rfl rfl rfl hc62 ?_
          obtain ⟨x63, hx63, ho30⟩ := Option.bind_eq_some_iff.1 ho30
          refine V_call Tryz.call8 rfl rfl rfl rfl (slices_Equal_Llevel_Share_level_Share_c (Dw := Dw) w27 (A := fun _ => True) (fun _ _ => trivial) x5.1 v6 (Hp.any (α := level_Share) (e := 32) (v := v6) (l := x5.1) hH (i := 1) rfl) x18.1 v19 (Hp.any (α := level_Share) (e := 32) (v := v19) (l := x18.1) hH (i := 0) rfl) hx63) ?_
          rintro _ w65 ⟨rfl, hk66⟩
          have ht67 := Kp.tr hk66 hA hB
          replace hH := Hp.kp hH hk66
          replace hK := Tr.trans hK ht67
          replace hr32 := Tr.trans hr32 ht67
          replace hB := Nat.le_trans hB ht67.ex.size
          replace hA := ht67.new
          refine V_y (Y_pick_te rfl hc62 rfl) rfl rfl rfl ?_
          refine V_as rfl rfl ?_
          obtain rfl := Option.some.inj ho30
          refine V_end (fun a ha68 => ?_)
          exact ⟨A23, ha68.sub ⟨rfl, trivial⟩, ⟨hH, hr32⟩⟩
        · rw [if_neg (nt hc62)] at ho30
          refine V_gn rfl rfl rfl hc62 rfl rfl rfl ?_
          refine V_gn rfl rfl rfl hc62 rfl rfl rfl ?_
          refine V_gn rfl rfl rfl hc62 rfl rfl rfl ?_
          refine V_y (Y_pick_fe rfl hc62 rfl) rfl rfl rfl ?_
          refine V_as rfl rfl ?_
          obtain rfl := Option.some.inj ho30
          refine V_end (fun a ha69 => ?_)
          exact ⟨A23, ha69.sub ⟨rfl, trivial⟩, ⟨hH, hr32⟩⟩
  rintro A36 w33 ⟨hH37, hk34⟩ a ha35
  replace hK := Tr.trans hK hk34
  replace hB := Nat.le_trans hB hk34.ex.size
  replace hA := hk34.new
  replace hH : Hp w.heap.size A36 w33 (obS (α := level_Share) 32 v19 x18.1 :: obS (α := level_Share) 32 v6 x5.1 :: []) := hH37
  refine C_at (n := ⟨63, [], none⟩) (fun _ _ => rfl) ?_ ha35
  obtain rfl := Option.some.inj hm
  refine C_ret ?_
  try simp only [↓inBlock_ret, ↓then_ret]
  exact retQ rfl (Res.one Tryz.results3 rfl) ⟨rfl, hK.kp⟩

end Go.Proofs.YtnjlojicebcikaaGreat.W
