/-
  Written by program (gen.py) from the IR of the dump: each function computes its model.
-/
import Derived.Test.YtjmgafmjendnaaaCalWorksW2
namespace Go.Proofs.Ytjmgafmjendnaaa.W
open Go Go.RowKit Go.Pu Go.Gw Go.Proofs Go.Proofs.Ytjmgafmjendnaaa.M
set_option linter.unusedVariables false

set_option maxRecDepth 4000 in
set_option maxHeartbeats 4000000 in
theorem portref2_AddIn_c (w : World) {A : Nat → Prop} (hA : ∀ b, w.heap.size ≤ b → A b) (c : cal_Calendar) (v_c0 : Value) (h_c0 : Sl A w v_c0 c.zone.changes) (v_c1 : Value) (h_c1 : Sl A w v_c1 c.week) (v_c2 : Value) (h_c2 : Sl A w v_c2 c.specials) (from_ : Int) (work : Int) {r : (Int × Int)} (hm : portref2_AddIn c from_ work = some r) : Ret Try.prog 43 #[.agg #[.int .i64 c.zone.offset, v_c0, v_c1, v_c2], .int .i64 from_, .int .i64 work] w fun v w' => v = .tuple #[.int .i64 r.1, .int .i64 r.2] ∧ Kp w w' := by
  unfold portref2_AddIn at hm
  refine enter Try.func43 rfl Try.ntmps43 rfl ?_
  have hA0 := hA
  have hB := Nat.le_refl w.heap.size
  have hK : Tr w.heap.size A w A w := Tr.refl hA
  have hH : Hp w.heap.size A w [] := Hp.nil
  refine C_seq ?_
  refine C_region ?_
  refine V_box rfl rfl ?_
  intro b7 w9 h10
  have hk12 := h10.kp
  have h11 : El (α := cal_Calendar) A w9 b7 0 c := h10.el hA ⟨[.int .i64 c.zone.offset, v_c0], _, rfl, ⟨[.int .i64 c.zone.offset], _, rfl, rfl, ⟨_, rfl, h_c0⟩⟩, ⟨[v_c1], _, rfl, ⟨_, rfl, h_c1⟩, ⟨_, rfl, h_c2⟩⟩⟩
  have ht13 := Kp.tr hk12 hA hB
  replace hH := Hp.kp hH hk12
  replace h_c0 := Sl.tr h_c0 ht13
  replace h_c1 := Sl.tr h_c1 ht13
  replace h_c2 := Sl.tr h_c2 ht13
  replace hK := Tr.trans hK ht13
  replace hB := Nat.le_trans hB ht13.ex.size
  replace hA := ht13.new
  refine V_y (Y_assign rfl) rfl rfl rfl ?_
  refine V_y (Y_assign rfl) rfl rfl rfl ?_
  refine V_to (fun _ _ => rfl) ?_
  refine C_seq ?_
  refine C_seq ?_
  refine C_region ?_
  obtain ⟨v14, v16, v18, h20, h15, h17, h19⟩ := El_cal_Calendar h11
  refine V_y (Y_loadA h20 Try.isAgg48 Try.sizeOf48 rfl) rfl rfl rfl ?_
  refine V_y (Y_move rfl) rfl rfl rfl ?_
  refine V_y (Y_move rfl) rfl rfl rfl ?_
  obtain ⟨x21, hx21, hm⟩ := Option.bind_eq_some_iff.1 hm
  refine V_call Try.call75 rfl rfl rfl rfl (portref2_workFault_c w9 hA c v14 h15 v16 h17 v18 h19 from_ work 3000000 hx21) ?_
  rintro _ w22 ⟨rfl, hk23⟩
  have ht24 := Kp.tr hk23 hA hB
  replace hH := Hp.kp hH hk23
  replace h11 := El.tr h11 ht24
  replace h15 := Sl.tr h15 ht24
  replace h17 := Sl.tr h17 ht24
  replace h19 := Sl.tr h19 ht24
  replace hK := Tr.trans hK ht24
  replace hB := Nat.le_trans hB ht24.ex.size
  replace hA := ht24.new
  refine V_y (Y_assign rfl) rfl rfl rfl ?_
  refine V_to (fun _ _ => rfl) ?_
  refine C_seq ?_
  refine C_region ?_
  refine V_y (Y_move rfl) rfl rfl rfl ?_
  refine V_y (Y_neq rfl rfl) rfl rfl rfl ?_
  refine V_to (fun _ _ => rfl) ?_
  refine C_cond rfl (fun hc25 => ?_) (fun hc25 => ?_)
  · rw [if_pos hc25] at hm
    refine C_seq ?_
    refine C_region ?_
    refine V_y (Y_move rfl) rfl rfl rfl ?_
    refine V_y (Y_assign rfl) rfl rfl rfl ?_
    refine V_y (Y_assign rfl) rfl rfl rfl ?_
    refine V_to (fun _ _ => rfl) ?_
    obtain rfl := Option.some.inj hm
    refine C_ret ?_
    try simp only [↓inBlock_ret, ↓then_ret]
    exact retQ rfl (Res.two Try.results43 rfl rfl) ⟨rfl, hK.kp⟩
  · rw [if_neg (nt hc25)] at hm
    refine C_skip_to (fun _ _ => rfl) ?_
    refine C_seq ?_
    refine C_region ?_
    obtain ⟨v26, v28, v30, h32, h27, h29, h31⟩ := El_cal_Calendar h11
    refine V_y (Y_loadA h32 Try.isAgg48 Try.sizeOf48 rfl) rfl rfl rfl ?_
    obtain ⟨x33, hx33, hm⟩ := Option.bind_eq_some_iff.1 hm
    refine V_call Try.call33 rfl rfl rfl rfl (portref2_NewClock_c w22 hB hA c v26 h27 v28 h29 v30 h31 hH hx33) ?_
    rintro _ w35 ⟨b34, A36, rfl, hH37, ht38⟩
    replace h11 := El.tr h11 ht38
    replace h27 := Sl.tr h27 ht38
    replace h29 := Sl.tr h29 ht38
    replace h31 := Sl.tr h31 ht38
    replace hK := Tr.trans hK ht38
    replace hB := Nat.le_trans hB ht38.ex.size
    replace hA := ht38.new
    replace hH : Hp w.heap.size A36 w35 (obCk 102 portref2_ShiftsIn b34 x33 :: []) := hH37
    refine V_y (Y_assign rfl) rfl rfl rfl ?_
    refine V_to (fun _ _ => rfl) ?_
    refine C_seq ?_
    refine C_region ?_
    refine V_y (Y_assign rfl) rfl rfl rfl ?_
    refine V_to (fun _ _ => rfl) ?_
    refine C_seq ?_
    refine C_seq ?_
    refine C_region ?_
    refine V_y (Y_move rfl) rfl rfl rfl ?_
    refine V_y (Y_assign rfl) rfl rfl rfl ?_
    refine V_to (fun _ _ => rfl) ?_
    obtain ⟨o39, ho39, hm⟩ := Option.bind_eq_some_iff.1 hm
    refine C_cutG (ι := ((Int × Int) × (Nat → Prop))) (fun ⟨s40, A46⟩ => []) (fun ⟨s40, A46⟩ => fun w' => o39 = .fin s40 ∧ Hp w.heap.size A46 w' (obCk 102 portref2_ShiftsIn b34 x33 :: []) ∧ Tr w.heap.size A36 w35 A46 w') ?_ ?_
    · refine C_block ?_
      refine C_while ho39 (fun s48 a w' => ∃ i : (Nat → Prop), Has ⟨35, [], none⟩ a ([(2, .int .i64 work), (9, .pointer (some ⟨b34, 0, none⟩)), (10, .int .i64 s48.1), (11, .int .i64 s48.2)]) ∧ Hp w.heap.size i w' (obCk 102 portref2_ShiftsIn b34 x33 :: []) ∧ Tr w.heap.size A36 w35 i w') (fun a ha => ⟨A36, ha.sub ⟨rfl, rfl, rfl, rfl, trivial⟩, ⟨hH, Tr.refl hA⟩⟩) ?_
      rintro K s48 a w49 ⟨A50, ha86, hH51, hr41⟩ K58
      refine C_of ?_ ha86
      replace hK := Tr.trans hK hr41
      replace hB := Nat.le_trans hB hr41.ex.size
      replace hA := hr41.new
      replace hH : Hp w.heap.size A50 w49 (obCk 102 portref2_ShiftsIn b34 x33 :: []) := hH51
      obtain ⟨x52, h53, h54⟩ := K58
      refine C_seq ?_
      refine C_seq ?_
      refine C_region ?_
      refine V_y (Y_move rfl) rfl rfl rfl ?_
      refine V_y (Y_leq rfl rfl) rfl rfl rfl ?_
      refine V_to (fun _ _ => rfl) ?_
      refine C_cond rfl (fun hc59 => ?_) (fun hc59 => ?_)
      · rw [if_pos hc59] at h53
        refine C_skip_to (fun _ _ => rfl) ?_
        refine C_seq ?_
        obtain ⟨o60, ho60, h53⟩ := Option.bind_eq_some_iff.1 h53
        refine C_cutG (ι := (Int × (Nat → Prop))) (fun ⟨s61, A66⟩ => [(2, .int .i64 work), (9, .pointer (some ⟨b34, 0, none⟩)), (10, .int .i64 s61), (11, .int .i64 s48.2)]) (fun ⟨s61, A66⟩ => fun w' => o60 = .fin s61 ∧ Hp w.heap.size A66 w' (obCk 102 portref2_ShiftsIn b34 x33 :: []) ∧ Tr w.heap.size A50 w49 A66 w') ?_ ?_
        · have hr62 : Tr w.heap.size A50 w49 A50 w49 := Tr.refl hA
          refine C_block ?_
          refine C_seq ?_
          refine C_region ?_
          refine V_y (Y_move rfl) rfl rfl rfl ?_
          refine V_y (Y_move rfl) rfl rfl rfl ?_
          obtain ⟨x68, hx68, ho60⟩ := Option.bind_eq_some_iff.1 ho60
          refine V_call Try.call34 rfl rfl rfl rfl (portref2_Clock_Open_c w49 hB hA x33 b34 s48.2 hH hx68) ?_
          rintro _ w69 ⟨A70, rfl, hH71, ht72⟩
          replace hK := Tr.trans hK ht72
          replace hr41 := Tr.trans hr41 ht72
          replace hr62 := Tr.trans hr62 ht72
          replace hB := Nat.le_trans hB ht72.ex.size
          replace hA := ht72.new
          replace hH : Hp w.heap.size A70 w69 (obCk 102 portref2_ShiftsIn b34 x33 :: []) := hH71
          refine V_to (fun _ _ => rfl) ?_
          obtain ⟨o73, ho73, ho60⟩ := Option.bind_eq_some_iff.1 ho60
          refine C_cutG (ι := Int) (fun (s74 : Int) => [(2, .int .i64 work), (9, .pointer (some ⟨b34, 0, none⟩)), (10, .int .i64 s74), (11, .int .i64 s48.2)]) (fun (s74 : Int) => fun w' => o73 = .fin s74 ∧ w69 = w') ?_ ?_
          · refine C_cond rfl (fun hc79 => ?_) (fun hc79 => ?_)
            · rw [if_pos hc79] at ho73
              refine C_seq ?_
              refine C_seq ?_
              refine C_region ?_
              refine V_y (Y_move rfl) rfl rfl rfl ?_
              refine V_y (Y_move rfl) rfl rfl rfl ?_
              refine V_y (Y_eql rfl rfl) rfl rfl rfl ?_
              refine V_to (fun _ _ => rfl) ?_
              refine C_cond rfl (fun hc80 => ?_) (fun hc80 => ?_)
              · rw [if_pos hc80] at ho73
                refine C_seq ?_
                refine C_region ?_
                refine V_y (Y_move rfl) rfl rfl rfl ?_
                refine V_y (Y_assign rfl) rfl rfl rfl ?_
                refine V_y (Y_assign rfl) rfl rfl rfl ?_
                refine V_to (fun _ _ => rfl) ?_
                obtain rfl := Option.some.inj ho73
                rw [Lp.andThen_rt] at ho60
                obtain rfl := Option.some.inj ho60
                rw [Lp.andThen_rt] at h53
                obtain rfl := Option.some.inj h53
                obtain rfl := (h54 : Lp.rt _ = _)
                rw [Lp.andThen_rt] at hm
                obtain rfl := Option.some.inj hm
                refine C_ret ?_
                try simp only [↓inBlock_ret, ↓then_ret]
                exact retQ rfl (Res.two Try.results43 rfl rfl) ⟨rfl, hK.kp⟩
              · rw [if_neg (nt hc80)] at ho73
                refine C_skip_to (fun _ _ => rfl) ?_
                refine C_region ?_
                refine V_y (Y_move rfl) rfl rfl rfl ?_
                refine V_y (Y_addI rfl rfl) rfl rfl rfl ?_
                refine V_y (Y_assign rfl) rfl rfl rfl ?_
                obtain rfl := Option.some.inj ho73
                refine V_end (fun a ha81 => ?_)
                exact ⟨w64 (s48.1 + 1), ha81.sub ⟨rfl, rfl, rfl, rfl, trivial⟩, ⟨rfl, rfl⟩⟩
            · rw [if_neg (nt hc79)] at ho73
              obtain rfl := Option.some.inj ho73
              refine C_skip (fun a ha82 => ?_)
              exact ⟨s48.1, ha82.sub ⟨rfl, rfl, rfl, rfl, trivial⟩, ⟨rfl, rfl⟩⟩
          rintro s74 _ ⟨rfl, rfl⟩ a ha78
          rw [Lp.andThen_fin] at ho60
          obtain rfl := Option.some.inj ho60
          exact ⟨(s74, A70), ha78.sub ⟨rfl, rfl, rfl, rfl, trivial⟩, ⟨rfl, hH, hr62⟩⟩
        rintro ⟨s61, A66⟩ w63 ⟨rfl, hH67, hk64⟩ a ha65
        rw [Lp.andThen_fin] at h53
        replace hK := Tr.trans hK hk64
        replace hr41 := Tr.trans hr41 hk64
        replace hB := Nat.le_trans hB hk64.ex.size
        replace hA := hk64.new
        replace hH : Hp w.heap.size A66 w63 (obCk 102 portref2_ShiftsIn b34 x33 :: []) := hH67
        refine C_at (n := ⟨35, [], none⟩) (fun _ _ => rfl) ?_ ha65
        refine C_region ?_
        refine V_y (Y_move rfl) rfl rfl rfl ?_
        refine V_y (Y_addI rfl rfl) rfl rfl rfl ?_
        refine V_y (Y_assign rfl) rfl rfl rfl ?_
        obtain rfl := Option.some.inj h53
        refine V_end (fun a ha84 => ?_)
        exact ⟨(s61, w64 (s48.2 + 1)), h54, ⟨A66, ha84.sub ⟨rfl, rfl, rfl, rfl, trivial⟩, ⟨hH, hr41⟩⟩⟩
      · rw [if_neg (nt hc59)] at h53
        obtain rfl := Option.some.inj h53
        refine C_exit (fun a ha85 => ?_)
        exact ⟨((s48.1, s48.2), A50), ha85.sub trivial, ⟨h54.symm, hH, hr41⟩⟩
    rintro ⟨s40, A46⟩ w43 ⟨rfl, hH47, hk44⟩ a ha45
    rw [Lp.andThen_fin] at hm
    replace hK := Tr.trans hK hk44
    replace hB := Nat.le_trans hB hk44.ex.size
    replace hA := hk44.new
    replace hH : Hp w.heap.size A46 w43 (obCk 102 portref2_ShiftsIn b34 x33 :: []) := hH47
    refine C_at (n := ⟨35, [], none⟩) (fun _ _ => rfl) ?_ ha45
    refine C_seq ?_
    refine C_region ?_
    refine V_y (Y_assign rfl) rfl rfl rfl ?_
    refine V_y (Y_assign rfl) rfl rfl rfl ?_
    refine V_to (fun _ _ => rfl) ?_
    obtain rfl := Option.some.inj hm
    refine C_ret ?_
    try simp only [↓inBlock_ret, ↓then_ret]
    exact retQ rfl (Res.two Try.results43 rfl rfl) ⟨rfl, hK.kp⟩

set_option maxRecDepth 4000 in
set_option maxHeartbeats 4000000 in
theorem portref2_BackIn_c (w : World) {A : Nat → Prop} (hA : ∀ b, w.heap.size ≤ b → A b) (c : cal_Calendar) (v_c0 : Value) (h_c0 : Sl A w v_c0 c.zone.changes) (v_c1 : Value) (h_c1 : Sl A w v_c1 c.week) (v_c2 : Value) (h_c2 : Sl A w v_c2 c.specials) (to_ : Int) (work : Int) {r : (Int × Int)} (hm : portref2_BackIn c to_ work = some r) : Ret Try.prog 44 #[.agg #[.int .i64 c.zone.offset, v_c0, v_c1, v_c2], .int .i64 to_, .int .i64 work] w fun v w' => v = .tuple #[.int .i64 r.1, .int .i64 r.2] ∧ Kp w w' := by
  unfold portref2_BackIn at hm
  refine enter Try.func44 rfl Try.ntmps44 rfl ?_
  have hA0 := hA
  have hB := Nat.le_refl w.heap.size
  have hK : Tr w.heap.size A w A w := Tr.refl hA
  have hH : Hp w.heap.size A w [] := Hp.nil
  refine C_seq ?_
  refine C_region ?_
  refine V_box rfl rfl ?_
  intro b7 w9 h10
  have hk12 := h10.kp
  have h11 : El (α := cal_Calendar) A w9 b7 0 c := h10.el hA ⟨[.int .i64 c.zone.offset, v_c0], _, rfl, ⟨[.int .i64 c.zone.offset], _, rfl, rfl, ⟨_, rfl, h_c0⟩⟩, ⟨[v_c1], _, rfl, ⟨_, rfl, h_c1⟩, ⟨_, rfl, h_c2⟩⟩⟩
  have ht13 := Kp.tr hk12 hA hB
  replace hH := Hp.kp hH hk12
  replace h_c0 := Sl.tr h_c0 ht13
  replace h_c1 := Sl.tr h_c1 ht13
  replace h_c2 := Sl.tr h_c2 ht13
  replace hK := Tr.trans hK ht13
  replace hB := Nat.le_trans hB ht13.ex.size
  replace hA := ht13.new
  refine V_y (Y_assign rfl) rfl rfl rfl ?_
  refine V_y (Y_assign rfl) rfl rfl rfl ?_
  refine V_to (fun _ _ => rfl) ?_
  refine C_seq ?_
  refine C_seq ?_
  refine C_region ?_
  obtain ⟨v14, v16, v18, h20, h15, h17, h19⟩ := El_cal_Calendar h11
  refine V_y (Y_loadA h20 Try.isAgg48 Try.sizeOf48 rfl) rfl rfl rfl ?_
  refine V_y (Y_move rfl) rfl rfl rfl ?_
  refine V_y (Y_move rfl) rfl rfl rfl ?_
  obtain ⟨x21, hx21, hm⟩ := Option.bind_eq_some_iff.1 hm
  refine V_call Try.call75 rfl rfl rfl rfl (portref2_workFault_c w9 hA c v14 h15 v16 h17 v18 h19 to_ work 3000001 hx21) ?_
  rintro _ w22 ⟨rfl, hk23⟩
  have ht24 := Kp.tr hk23 hA hB
  replace hH := Hp.kp hH hk23
  replace h11 := El.tr h11 ht24
  replace h15 := Sl.tr h15 ht24
  replace h17 := Sl.tr h17 ht24
  replace h19 := Sl.tr h19 ht24
  replace hK := Tr.trans hK ht24
  replace hB := Nat.le_trans hB ht24.ex.size
  replace hA := ht24.new
  refine V_y (Y_assign rfl) rfl rfl rfl ?_
  refine V_to (fun _ _ => rfl) ?_
  refine C_seq ?_
  refine C_region ?_
  refine V_y (Y_move rfl) rfl rfl rfl ?_
  refine V_y (Y_neq rfl rfl) rfl rfl rfl ?_
  refine V_to (fun _ _ => rfl) ?_
  refine C_cond rfl (fun hc25 => ?_) (fun hc25 => ?_)
  · rw [if_pos hc25] at hm
    refine C_seq ?_
    refine C_region ?_
    refine V_y (Y_move rfl) rfl rfl rfl ?_
    refine V_y (Y_assign rfl) rfl rfl rfl ?_
    refine V_y (Y_assign rfl) rfl rfl rfl ?_
    refine V_to (fun _ _ => rfl) ?_
    obtain rfl := Option.some.inj hm
    refine C_ret ?_
    try simp only [↓inBlock_ret, ↓then_ret]
    exact retQ rfl (Res.two Try.results44 rfl rfl) ⟨rfl, hK.kp⟩
  · rw [if_neg (nt hc25)] at hm
    refine C_skip_to (fun _ _ => rfl) ?_
    refine C_seq ?_
    refine C_region ?_
    obtain ⟨v26, v28, v30, h32, h27, h29, h31⟩ := El_cal_Calendar h11
    refine V_y (Y_loadA h32 Try.isAgg48 Try.sizeOf48 rfl) rfl rfl rfl ?_
    obtain ⟨x33, hx33, hm⟩ := Option.bind_eq_some_iff.1 hm
    refine V_call Try.call33 rfl rfl rfl rfl (portref2_NewClock_c w22 hB hA c v26 h27 v28 h29 v30 h31 hH hx33) ?_
    rintro _ w35 ⟨b34, A36, rfl, hH37, ht38⟩
    replace h11 := El.tr h11 ht38
    replace h27 := Sl.tr h27 ht38
    replace h29 := Sl.tr h29 ht38
    replace h31 := Sl.tr h31 ht38
    replace hK := Tr.trans hK ht38
    replace hB := Nat.le_trans hB ht38.ex.size
    replace hA := ht38.new
    replace hH : Hp w.heap.size A36 w35 (obCk 102 portref2_ShiftsIn b34 x33 :: []) := hH37
    refine V_y (Y_assign rfl) rfl rfl rfl ?_
    refine V_to (fun _ _ => rfl) ?_
    refine C_seq ?_
    refine C_region ?_
    refine V_y (Y_assign rfl) rfl rfl rfl ?_
    refine V_to (fun _ _ => rfl) ?_
    refine C_seq ?_
    refine C_seq ?_
    refine C_region ?_
    refine V_y (Y_move rfl) rfl rfl rfl ?_
    refine V_y (Y_assign rfl) rfl rfl rfl ?_
    refine V_to (fun _ _ => rfl) ?_
    obtain ⟨o39, ho39, hm⟩ := Option.bind_eq_some_iff.1 hm
    refine C_cutG (ι := ((Int × Int) × (Nat → Prop))) (fun ⟨s40, A46⟩ => []) (fun ⟨s40, A46⟩ => fun w' => o39 = .fin s40 ∧ Hp w.heap.size A46 w' (obCk 102 portref2_ShiftsIn b34 x33 :: []) ∧ Tr w.heap.size A36 w35 A46 w') ?_ ?_
    · refine C_block ?_
      refine C_while ho39 (fun s48 a w' => ∃ i : (Nat → Prop), Has ⟨40, [], none⟩ a ([(2, .int .i64 work), (9, .pointer (some ⟨b34, 0, none⟩)), (10, .int .i64 s48.1), (11, .int .i64 s48.2)]) ∧ Hp w.heap.size i w' (obCk 102 portref2_ShiftsIn b34 x33 :: []) ∧ Tr w.heap.size A36 w35 i w') (fun a ha => ⟨A36, ha.sub ⟨rfl, rfl, rfl, rfl, trivial⟩, ⟨hH, Tr.refl hA⟩⟩) ?_
      rintro K s48 a w49 ⟨A50, ha97, hH51, hr41⟩ K58
      refine C_of ?_ ha97
      replace hK := Tr.trans hK hr41
      replace hB := Nat.le_trans hB hr41.ex.size
      replace hA := hr41.new
      replace hH : Hp w.heap.size A50 w49 (obCk 102 portref2_ShiftsIn b34 x33 :: []) := hH51
      obtain ⟨x52, h53, h54⟩ := K58
      refine C_seq ?_
      refine C_seq ?_
      refine C_region ?_
      refine V_y (Y_move rfl) rfl rfl rfl ?_
      refine V_y (Y_geq rfl rfl) rfl rfl rfl ?_
      refine V_to (fun _ _ => rfl) ?_
      refine C_cond rfl (fun hc59 => ?_) (fun hc59 => ?_)
      · rw [if_pos hc59] at h53
        refine C_skip_to (fun _ _ => rfl) ?_
        refine C_seq ?_
        obtain ⟨o60, ho60, h53⟩ := Option.bind_eq_some_iff.1 h53
        refine C_cutG (ι := (Int × (Nat → Prop))) (fun ⟨s61, A66⟩ => [(2, .int .i64 work), (9, .pointer (some ⟨b34, 0, none⟩)), (10, .int .i64 s61), (11, .int .i64 s48.2)]) (fun ⟨s61, A66⟩ => fun w' => o60 = .fin s61 ∧ Hp w.heap.size A66 w' (obCk 102 portref2_ShiftsIn b34 x33 :: []) ∧ Tr w.heap.size A50 w49 A66 w') ?_ ?_
        · have hr62 : Tr w.heap.size A50 w49 A50 w49 := Tr.refl hA
          refine C_block ?_
          refine C_seq ?_
          refine C_seq ?_
          refine C_region ?_
          refine V_y (Y_move rfl) rfl rfl rfl ?_
          refine V_y (Y_move rfl) rfl rfl rfl ?_
          refine V_y (Y_eql rfl rfl) rfl rfl rfl ?_
          refine V_to (fun _ _ => rfl) ?_
          refine C_cond rfl (fun hc68 => ?_) (fun hc68 => ?_)
          · rw [if_pos hc68] at ho60
            refine C_seq ?_
            refine C_region ?_
            refine V_y (Y_move rfl) rfl rfl rfl ?_
            refine V_y (Y_assign rfl) rfl rfl rfl ?_
            refine V_y (Y_assign rfl) rfl rfl rfl ?_
            refine V_to (fun _ _ => rfl) ?_
            obtain rfl := Option.some.inj ho60
            rw [Lp.andThen_rt] at h53
            obtain rfl := Option.some.inj h53
            obtain rfl := (h54 : Lp.rt _ = _)
            rw [Lp.andThen_rt] at hm
            obtain rfl := Option.some.inj hm
            refine C_ret ?_
            try simp only [↓inBlock_ret, ↓then_ret]
            exact retQ rfl (Res.two Try.results44 rfl rfl) ⟨rfl, hK.kp⟩
          · rw [if_neg (nt hc68)] at ho60
            refine C_skip_to (fun _ _ => rfl) ?_
            refine C_seq ?_
            obtain ⟨s70, ho69, ho60⟩ := Option.bind_eq_some_iff.1 ho60
            refine C_cutG (ι := (Nat → Prop)) (fun (A75 : (Nat → Prop)) => [(2, .int .i64 work), (9, .pointer (some ⟨b34, 0, none⟩)), (10, .int .i64 s48.1), (11, .int .i64 s48.2), (37, .bool s70)]) (fun (A75 : (Nat → Prop)) => fun w' => Hp w.heap.size A75 w' (obCk 102 portref2_ShiftsIn b34 x33 :: []) ∧ Tr w.heap.size A50 w49 A75 w') ?_ ?_
            · have hr71 : Tr w.heap.size A50 w49 A50 w49 := Tr.refl hA
              refine C_region ?_
              refine V_y (Y_move rfl) rfl rfl rfl ?_
              refine V_y (Y_gtr rfl rfl) rfl rfl rfl ?_
              refine V_y (Y_move rfl) rfl rfl rfl ?_
              rcases Bool.eq_false_or_eq_true (decide ((0 : Int) < s48.2)) with hc77 | hc77
              · rw [if_pos hc77] at ho69
                refine V_ge rfl rfl rfl hc77 ?_
                refine V_y (Y_move rfl) rfl rfl rfl ?_
                refine V_ge rfl rfl rfl hc77 ?_
                refine V_y (Y_move rfl) rfl rfl rfl ?_
                refine V_ge rfl rfl rfl hc77 ?_
                refine V_y (Y_subI rfl rfl) rfl rfl rfl ?_
                refine V_ge rfl rfl rfl hc77 ?_
                obtain ⟨x78, hx78, ho69⟩ := Option.bind_eq_some_iff.1 ho69
                refine V_call Try.call34 rfl rfl rfl rfl (portref2_Clock_Open_c w49 hB hA x33 b34 (w64 (s48.2 - 1)) hH hx78) ?_
                rintro _ w79 ⟨A80, rfl, hH81, ht82⟩
                replace hK := Tr.trans hK ht82
                replace hr41 := Tr.trans hr41 ht82
                replace hr62 := Tr.trans hr62 ht82
                replace hr71 := Tr.trans hr71 ht82
                replace hB := Nat.le_trans hB ht82.ex.size
                replace hA := ht82.new
                replace hH : Hp w.heap.size A80 w79 (obCk 102 portref2_ShiftsIn b34 x33 :: []) := hH81
                refine V_y (Y_pick_te rfl hc77 rfl) rfl rfl rfl ?_
                obtain rfl := Option.some.inj ho69
                refine V_end (fun a ha83 => ?_)
                exact ⟨A80, ha83.sub ⟨rfl, rfl, rfl, rfl, rfl, trivial⟩, ⟨hH, hr71⟩⟩
              · rw [if_neg (nt hc77)] at ho69
                refine V_gn rfl rfl rfl hc77 rfl rfl rfl ?_
                refine V_gn rfl rfl rfl hc77 rfl rfl rfl ?_
                refine V_gn rfl rfl rfl hc77 rfl rfl rfl ?_
                refine V_gn rfl rfl rfl hc77 rfl rfl rfl ?_
                refine V_y (Y_pick_fe rfl hc77 rfl) rfl rfl rfl ?_
                obtain rfl := Option.some.inj ho69
                refine V_end (fun a ha84 => ?_)
                exact ⟨A50, ha84.sub ⟨rfl, rfl, rfl, rfl, rfl, trivial⟩, ⟨hH, hr71⟩⟩
            rintro A75 w72 ⟨hH76, hk73⟩ a ha74
            replace hK := Tr.trans hK hk73
            replace hr41 := Tr.trans hr41 hk73
            replace hr62 := Tr.trans hr62 hk73
            replace hB := Nat.le_trans hB hk73.ex.size
            replace hA := hk73.new
            replace hH : Hp w.heap.size A75 w72 (obCk 102 portref2_ShiftsIn b34 x33 :: []) := hH76
            refine C_at (n := ⟨40, [], none⟩) (fun _ _ => rfl) ?_ ha74
            obtain ⟨s86, ho85, ho60⟩ := Option.bind_eq_some_iff.1 ho60
            refine C_cutG (ι := Unit) (fun (_ : Unit) => [(2, .int .i64 work), (9, .pointer (some ⟨b34, 0, none⟩)), (10, .int .i64 s86), (11, .int .i64 s48.2)]) (fun (_ : Unit) => fun w' => w72 = w') ?_ ?_
            · refine C_cond rfl (fun hc91 => ?_) (fun hc91 => ?_)
              · rw [if_pos hc91] at ho85
                refine C_region ?_
                refine V_y (Y_move rfl) rfl rfl rfl ?_
                refine V_y (Y_addI rfl rfl) rfl rfl rfl ?_
                refine V_y (Y_assign rfl) rfl rfl rfl ?_
                obtain rfl := Option.some.inj ho85
                refine V_end (fun a ha92 => ?_)
                exact ⟨(), ha92.sub ⟨rfl, rfl, rfl, rfl, trivial⟩, rfl⟩
              · rw [if_neg (nt hc91)] at ho85
                obtain rfl := Option.some.inj ho85
                refine C_skip (fun a ha93 => ?_)
                exact ⟨(), ha93.sub ⟨rfl, rfl, rfl, rfl, trivial⟩, rfl⟩
            rintro _ _ rfl a ha90
            obtain rfl := Option.some.inj ho60
            exact ⟨(s86, A75), ha90.sub ⟨rfl, rfl, rfl, rfl, trivial⟩, ⟨rfl, hH, hr62⟩⟩
        rintro ⟨s61, A66⟩ w63 ⟨rfl, hH67, hk64⟩ a ha65
        rw [Lp.andThen_fin] at h53
        replace hK := Tr.trans hK hk64
        replace hr41 := Tr.trans hr41 hk64
        replace hB := Nat.le_trans hB hk64.ex.size
        replace hA := hk64.new
        replace hH : Hp w.heap.size A66 w63 (obCk 102 portref2_ShiftsIn b34 x33 :: []) := hH67
        refine C_at (n := ⟨40, [], none⟩) (fun _ _ => rfl) ?_ ha65
        refine C_region ?_
        refine V_y (Y_move rfl) rfl rfl rfl ?_
        refine V_y (Y_subI rfl rfl) rfl rfl rfl ?_
        refine V_y (Y_assign rfl) rfl rfl rfl ?_
        obtain rfl := Option.some.inj h53
        refine V_end (fun a ha95 => ?_)
        exact ⟨(s61, w64 (s48.2 - 1)), h54, ⟨A66, ha95.sub ⟨rfl, rfl, rfl, rfl, trivial⟩, ⟨hH, hr41⟩⟩⟩
      · rw [if_neg (nt hc59)] at h53
        obtain rfl := Option.some.inj h53
        refine C_exit (fun a ha96 => ?_)
        exact ⟨((s48.1, s48.2), A50), ha96.sub trivial, ⟨h54.symm, hH, hr41⟩⟩
    rintro ⟨s40, A46⟩ w43 ⟨rfl, hH47, hk44⟩ a ha45
    rw [Lp.andThen_fin] at hm
    replace hK := Tr.trans hK hk44
    replace hB := Nat.le_trans hB hk44.ex.size
    replace hA := hk44.new
    replace hH : Hp w.heap.size A46 w43 (obCk 102 portref2_ShiftsIn b34 x33 :: []) := hH47
    refine C_at (n := ⟨40, [], none⟩) (fun _ _ => rfl) ?_ ha45
    refine C_seq ?_
    refine C_region ?_
    refine V_y (Y_assign rfl) rfl rfl rfl ?_
    refine V_y (Y_assign rfl) rfl rfl rfl ?_
    refine V_to (fun _ _ => rfl) ?_
    obtain rfl := Option.some.inj hm
    refine C_ret ?_
    try simp only [↓inBlock_ret, ↓then_ret]
    exact retQ rfl (Res.two Try.results44 rfl rfl) ⟨rfl, hK.kp⟩

set_option maxRecDepth 4000 in
set_option maxHeartbeats 4000000 in
theorem portlaw2_CalWorks_c (w : World) {A : Nat → Prop} (hA : ∀ b, w.heap.size ≤ b → A b) (c : cal_Calendar) (v_c0 : Value) (h_c0 : Sl A w v_c0 c.zone.changes) (v_c1 : Value) (h_c1 : Sl A w v_c1 c.week) (v_c2 : Value) (h_c2 : Sl A w v_c2 c.specials) (m : Int) (work : Int) {r : Bool} (hm : portlaw2_CalWorks c m work = some r) : Ret Try.prog 8 #[.agg #[.int .i64 c.zone.offset, v_c0, v_c1, v_c2], .int .i64 m, .int .i64 work] w fun v w' => v = .bool r ∧ Kp w w' := by
  unfold portlaw2_CalWorks at hm
  refine enter Try.func8 rfl Try.ntmps8 rfl ?_
  have hA0 := hA
  have hB := Nat.le_refl w.heap.size
  have hK : Tr w.heap.size A w A w := Tr.refl hA
  have hH : Hp w.heap.size A w [] := Hp.nil
  refine C_seq ?_
  refine C_region ?_
  refine V_box rfl rfl ?_
  intro b7 w9 h10
  have hk12 := h10.kp
  have h11 : El (α := cal_Calendar) A w9 b7 0 c := h10.el hA ⟨[.int .i64 c.zone.offset, v_c0], _, rfl, ⟨[.int .i64 c.zone.offset], _, rfl, rfl, ⟨_, rfl, h_c0⟩⟩, ⟨[v_c1], _, rfl, ⟨_, rfl, h_c1⟩, ⟨_, rfl, h_c2⟩⟩⟩
  have ht13 := Kp.tr hk12 hA hB
  replace hH := Hp.kp hH hk12
  replace h_c0 := Sl.tr h_c0 ht13
  replace h_c1 := Sl.tr h_c1 ht13
  replace h_c2 := Sl.tr h_c2 ht13
  replace hK := Tr.trans hK ht13
  replace hB := Nat.le_trans hB ht13.ex.size
  replace hA := ht13.new
  refine V_y (Y_assign rfl) rfl rfl rfl ?_
  refine V_to (fun _ _ => rfl) ?_
  refine C_seq ?_
  refine C_region ?_
  obtain ⟨v14, v16, v18, h20, h15, h17, h19⟩ := El_cal_Calendar h11
  refine V_y (Y_loadA h20 Try.isAgg48 Try.sizeOf48 rfl) rfl rfl rfl ?_
  refine V_y (Y_move rfl) rfl rfl rfl ?_
  refine V_y (Y_move rfl) rfl rfl rfl ?_
  obtain ⟨x21, hx21, hm⟩ := Option.bind_eq_some_iff.1 hm
  refine V_call Try.call39 rfl rfl rfl rfl (cal_End_c w9 hA c v14 h15 v16 h17 v18 h19 m work hx21) ?_
  rintro _ w22 ⟨rfl, hk23⟩
  have ht24 := Kp.tr hk23 hA hB
  replace hH := Hp.kp hH hk23
  replace h11 := El.tr h11 ht24
  replace h15 := Sl.tr h15 ht24
  replace h17 := Sl.tr h17 ht24
  replace h19 := Sl.tr h19 ht24
  replace hK := Tr.trans hK ht24
  replace hB := Nat.le_trans hB ht24.ex.size
  replace hA := ht24.new
  refine V_y (Y_move rfl) rfl rfl rfl ?_
  refine V_y (Y_extract rfl rfl) rfl rfl rfl ?_
  refine V_y (Y_extract rfl rfl) rfl rfl rfl ?_
  refine V_y (Y_assign rfl) rfl rfl rfl ?_
  refine V_y (Y_assign rfl) rfl rfl rfl ?_
  refine V_to (fun _ _ => rfl) ?_
  refine C_seq ?_
  refine C_region ?_
  obtain ⟨v25, v27, v29, h31, h26, h28, h30⟩ := El_cal_Calendar h11
  refine V_y (Y_loadA h31 Try.isAgg48 Try.sizeOf48 rfl) rfl rfl rfl ?_
  refine V_y (Y_move rfl) rfl rfl rfl ?_
  refine V_y (Y_move rfl) rfl rfl rfl ?_
  obtain ⟨x32, hx32, hm⟩ := Option.bind_eq_some_iff.1 hm
  refine V_call Try.call40 rfl rfl rfl rfl (cal_Add_c w22 hA c v25 h26 v27 h28 v29 h30 m work hx32) ?_
  rintro _ w33 ⟨rfl, hk34⟩
  have ht35 := Kp.tr hk34 hA hB
  replace hH := Hp.kp hH hk34
  replace h11 := El.tr h11 ht35
  replace h26 := Sl.tr h26 ht35
  replace h28 := Sl.tr h28 ht35
  replace h30 := Sl.tr h30 ht35
  replace hK := Tr.trans hK ht35
  replace hB := Nat.le_trans hB ht35.ex.size
  replace hA := ht35.new
  refine V_y (Y_move rfl) rfl rfl rfl ?_
  refine V_y (Y_extract rfl rfl) rfl rfl rfl ?_
  refine V_y (Y_extract rfl rfl) rfl rfl rfl ?_
  refine V_y (Y_assign rfl) rfl rfl rfl ?_
  refine V_y (Y_assign rfl) rfl rfl rfl ?_
  refine V_to (fun _ _ => rfl) ?_
  refine C_seq ?_
  refine C_region ?_
  obtain ⟨v36, v38, v40, h42, h37, h39, h41⟩ := El_cal_Calendar h11
  refine V_y (Y_loadA h42 Try.isAgg48 Try.sizeOf48 rfl) rfl rfl rfl ?_
  refine V_y (Y_move rfl) rfl rfl rfl ?_
  refine V_y (Y_move rfl) rfl rfl rfl ?_
  obtain ⟨x43, hx43, hm⟩ := Option.bind_eq_some_iff.1 hm
  refine V_call Try.call41 rfl rfl rfl rfl (cal_Back_c w33 hA c v36 h37 v38 h39 v40 h41 m work hx43) ?_
  rintro _ w44 ⟨rfl, hk45⟩
  have ht46 := Kp.tr hk45 hA hB
  replace hH := Hp.kp hH hk45
  replace h11 := El.tr h11 ht46
  replace h37 := Sl.tr h37 ht46
  replace h39 := Sl.tr h39 ht46
  replace h41 := Sl.tr h41 ht46
  replace hK := Tr.trans hK ht46
  replace hB := Nat.le_trans hB ht46.ex.size
  replace hA := ht46.new
  refine V_y (Y_move rfl) rfl rfl rfl ?_
  refine V_y (Y_extract rfl rfl) rfl rfl rfl ?_
  refine V_y (Y_extract rfl rfl) rfl rfl rfl ?_
  refine V_y (Y_assign rfl) rfl rfl rfl ?_
  refine V_y (Y_assign rfl) rfl rfl rfl ?_
  refine V_to (fun _ _ => rfl) ?_
  refine C_seq ?_
  refine C_region ?_
  obtain ⟨v47, v49, v51, h53, h48, h50, h52⟩ := El_cal_Calendar h11
  refine V_y (Y_loadA h53 Try.isAgg48 Try.sizeOf48 rfl) rfl rfl rfl ?_
  refine V_y (Y_move rfl) rfl rfl rfl ?_
  refine V_y (Y_move rfl) rfl rfl rfl ?_
  obtain ⟨x54, hx54, hm⟩ := Option.bind_eq_some_iff.1 hm
  refine V_call Try.call42 rfl rfl rfl rfl (portref2_EndIn_c w44 hA c v47 h48 v49 h50 v51 h52 m work hx54) ?_
  rintro _ w55 ⟨rfl, hk56⟩
  have ht57 := Kp.tr hk56 hA hB
  replace hH := Hp.kp hH hk56
  replace h11 := El.tr h11 ht57
  replace h48 := Sl.tr h48 ht57
  replace h50 := Sl.tr h50 ht57
  replace h52 := Sl.tr h52 ht57
  replace hK := Tr.trans hK ht57
  replace hB := Nat.le_trans hB ht57.ex.size
  replace hA := ht57.new
  refine V_y (Y_move rfl) rfl rfl rfl ?_
  refine V_y (Y_extract rfl rfl) rfl rfl rfl ?_
  refine V_y (Y_extract rfl rfl) rfl rfl rfl ?_
  refine V_y (Y_assign rfl) rfl rfl rfl ?_
  refine V_y (Y_assign rfl) rfl rfl rfl ?_
  refine V_to (fun _ _ => rfl) ?_
  refine C_seq ?_
  refine C_region ?_
  obtain ⟨v58, v60, v62, h64, h59, h61, h63⟩ := El_cal_Calendar h11
  refine V_y (Y_loadA h64 Try.isAgg48 Try.sizeOf48 rfl) rfl rfl rfl ?_
  refine V_y (Y_move rfl) rfl rfl rfl ?_
  refine V_y (Y_move rfl) rfl rfl rfl ?_
  obtain ⟨x65, hx65, hm⟩ := Option.bind_eq_some_iff.1 hm
  refine V_call Try.call43 rfl rfl rfl rfl (portref2_AddIn_c w55 hA c v58 h59 v60 h61 v62 h63 m work hx65) ?_
  rintro _ w66 ⟨rfl, hk67⟩
  have ht68 := Kp.tr hk67 hA hB
  replace hH := Hp.kp hH hk67
  replace h11 := El.tr h11 ht68
  replace h59 := Sl.tr h59 ht68
  replace h61 := Sl.tr h61 ht68
  replace h63 := Sl.tr h63 ht68
  replace hK := Tr.trans hK ht68
  replace hB := Nat.le_trans hB ht68.ex.size
  replace hA := ht68.new
  refine V_y (Y_move rfl) rfl rfl rfl ?_
  refine V_y (Y_extract rfl rfl) rfl rfl rfl ?_
  refine V_y (Y_extract rfl rfl) rfl rfl rfl ?_
  refine V_y (Y_assign rfl) rfl rfl rfl ?_
  refine V_y (Y_assign rfl) rfl rfl rfl ?_
  refine V_to (fun _ _ => rfl) ?_
  refine C_seq ?_
  refine C_region ?_
  obtain ⟨v69, v71, v73, h75, h70, h72, h74⟩ := El_cal_Calendar h11
  refine V_y (Y_loadA h75 Try.isAgg48 Try.sizeOf48 rfl) rfl rfl rfl ?_
  refine V_y (Y_move rfl) rfl rfl rfl ?_
  refine V_y (Y_move rfl) rfl rfl rfl ?_
  obtain ⟨x76, hx76, hm⟩ := Option.bind_eq_some_iff.1 hm
  refine V_call Try.call44 rfl rfl rfl rfl (portref2_BackIn_c w66 hA c v69 h70 v71 h72 v73 h74 m work hx76) ?_
  rintro _ w77 ⟨rfl, hk78⟩
  have ht79 := Kp.tr hk78 hA hB
  replace hH := Hp.kp hH hk78
  replace h11 := El.tr h11 ht79
  replace h70 := Sl.tr h70 ht79
  replace h72 := Sl.tr h72 ht79
  replace h74 := Sl.tr h74 ht79
  replace hK := Tr.trans hK ht79
  replace hB := Nat.le_trans hB ht79.ex.size
  replace hA := ht79.new
  refine V_y (Y_move rfl) rfl rfl rfl ?_
  refine V_y (Y_extract rfl rfl) rfl rfl rfl ?_
  refine V_y (Y_extract rfl rfl) rfl rfl rfl ?_
  refine V_y (Y_assign rfl) rfl rfl rfl ?_
  refine V_y (Y_assign rfl) rfl rfl rfl ?_
  refine V_to (fun _ _ => rfl) ?_
  refine C_seq ?_
  refine C_region ?_
  refine V_y (Y_move rfl) rfl rfl rfl ?_
  refine V_y (Y_move rfl) rfl rfl rfl ?_
  refine V_y (Y_eql rfl rfl) rfl rfl rfl ?_
  refine V_y (Y_move rfl) rfl rfl rfl ?_
  refine V_cut 4 (fun _ : Unit => [(8, .int .i64 x21.2), (10, .int .i64 x32.2), (11, .int .i64 x43.1), (12, .int .i64 x43.2), (14, .int .i64 x54.2), (16, .int .i64 x65.2), (17, .int .i64 x76.1), (18, .int .i64 x76.2), (68, .bool ((x21.1 == x54.1) && (x32.1 == x65.1)))]) (fun _ w' => w77 = w') ?_ ?_
  · simp only [List.take, List.drop]
    rcases Bool.eq_false_or_eq_true (x21.1 == x54.1) with hc80 | hc80
    · refine V_ge rfl rfl rfl hc80 ?_
      refine V_y (Y_move rfl) rfl rfl rfl ?_
      refine V_ge rfl rfl rfl hc80 ?_
      refine V_y (Y_move rfl) rfl rfl rfl ?_
      refine V_ge rfl rfl rfl hc80 ?_
      refine V_y (Y_eql rfl rfl) rfl rfl rfl ?_
      refine V_y (Y_pick_te rfl hc80 rfl) rfl rfl rfl ?_
      exact V_end fun a ha => ⟨(), ha.sub ⟨rfl, rfl, rfl, rfl, rfl, rfl, rfl, rfl, (by rw [hc80]; rfl), trivial⟩, rfl⟩
    · refine V_gn rfl rfl rfl hc80 rfl rfl rfl ?_
      refine V_gn rfl rfl rfl hc80 rfl rfl rfl ?_
      refine V_gn rfl rfl rfl hc80 rfl rfl rfl ?_
      refine V_y (Y_pick_fe rfl hc80 rfl) rfl rfl rfl ?_
      exact V_end fun a ha => ⟨(), ha.sub ⟨rfl, rfl, rfl, rfl, rfl, rfl, rfl, rfl, (by rw [hc80]; rfl), trivial⟩, rfl⟩
  simp only [List.take, List.drop]
  rintro _ _ rfl
  refine V_y (Y_move rfl) rfl rfl rfl ?_
  refine V_cut 4 (fun _ : Unit => [(8, .int .i64 x21.2), (10, .int .i64 x32.2), (12, .int .i64 x43.2), (14, .int .i64 x54.2), (16, .int .i64 x65.2), (18, .int .i64 x76.2), (73, .bool (((x21.1 == x54.1) && (x32.1 == x65.1)) && (x43.1 == x76.1)))]) (fun _ w' => w77 = w') ?_ ?_
  · simp only [List.take, List.drop]
    rcases Bool.eq_false_or_eq_true (((x21.1 == x54.1) && (x32.1 == x65.1))) with hc82 | hc82
    · refine V_ge rfl rfl rfl hc82 ?_
      refine V_y (Y_move rfl) rfl rfl rfl ?_
      refine V_ge rfl rfl rfl hc82 ?_
      refine V_y (Y_move rfl) rfl rfl rfl ?_
      refine V_ge rfl rfl rfl hc82 ?_
      refine V_y (Y_eql rfl rfl) rfl rfl rfl ?_
      refine V_y (Y_pick_te rfl hc82 rfl) rfl rfl rfl ?_
      exact V_end fun a ha => ⟨(), ha.sub ⟨rfl, rfl, rfl, rfl, rfl, rfl, (by rw [hc82]; rfl), trivial⟩, rfl⟩
    · refine V_gn rfl rfl rfl hc82 rfl rfl rfl ?_
      refine V_gn rfl rfl rfl hc82 rfl rfl rfl ?_
      refine V_gn rfl rfl rfl hc82 rfl rfl rfl ?_
      refine V_y (Y_pick_fe rfl hc82 rfl) rfl rfl rfl ?_
      exact V_end fun a ha => ⟨(), ha.sub ⟨rfl, rfl, rfl, rfl, rfl, rfl, (by rw [hc82]; rfl), trivial⟩, rfl⟩
  simp only [List.take, List.drop]
  rintro _ _ rfl
  refine V_y (Y_move rfl) rfl rfl rfl ?_
  refine V_cut 4 (fun _ : Unit => [(10, .int .i64 x32.2), (12, .int .i64 x43.2), (16, .int .i64 x65.2), (18, .int .i64 x76.2), (78, .bool ((((x21.1 == x54.1) && (x32.1 == x65.1)) && (x43.1 == x76.1)) && (x21.2 == x54.2)))]) (fun _ w' => w77 = w') ?_ ?_
  · simp only [List.take, List.drop]
    rcases Bool.eq_false_or_eq_true ((((x21.1 == x54.1) && (x32.1 == x65.1)) && (x43.1 == x76.1))) with hc84 | hc84
    · refine V_ge rfl rfl rfl hc84 ?_
      refine V_y (Y_move rfl) rfl rfl rfl ?_
      refine V_ge rfl rfl rfl hc84 ?_
      refine V_y (Y_move rfl) rfl rfl rfl ?_
      refine V_ge rfl rfl rfl hc84 ?_
      refine V_y (Y_eql rfl rfl) rfl rfl rfl ?_
      refine V_y (Y_pick_te rfl hc84 rfl) rfl rfl rfl ?_
      exact V_end fun a ha => ⟨(), ha.sub ⟨rfl, rfl, rfl, rfl, (by rw [hc84]; rfl), trivial⟩, rfl⟩
    · refine V_gn rfl rfl rfl hc84 rfl rfl rfl ?_
      refine V_gn rfl rfl rfl hc84 rfl rfl rfl ?_
      refine V_gn rfl rfl rfl hc84 rfl rfl rfl ?_
      refine V_y (Y_pick_fe rfl hc84 rfl) rfl rfl rfl ?_
      exact V_end fun a ha => ⟨(), ha.sub ⟨rfl, rfl, rfl, rfl, (by rw [hc84]; rfl), trivial⟩, rfl⟩
  simp only [List.take, List.drop]
  rintro _ _ rfl
  refine V_y (Y_move rfl) rfl rfl rfl ?_
  refine V_cut 4 (fun _ : Unit => [(12, .int .i64 x43.2), (18, .int .i64 x76.2), (83, .bool (((((x21.1 == x54.1) && (x32.1 == x65.1)) && (x43.1 == x76.1)) && (x21.2 == x54.2)) && (x32.2 == x65.2)))]) (fun _ w' => w77 = w') ?_ ?_
  · simp only [List.take, List.drop]
    rcases Bool.eq_false_or_eq_true (((((x21.1 == x54.1) && (x32.1 == x65.1)) && (x43.1 == x76.1)) && (x21.2 == x54.2))) with hc86 | hc86
    · refine V_ge rfl rfl rfl hc86 ?_
      refine V_y (Y_move rfl) rfl rfl rfl ?_
      refine V_ge rfl rfl rfl hc86 ?_
      refine V_y (Y_move rfl) rfl rfl rfl ?_
      refine V_ge rfl rfl rfl hc86 ?_
      refine V_y (Y_eql rfl rfl) rfl rfl rfl ?_
      refine V_y (Y_pick_te rfl hc86 rfl) rfl rfl rfl ?_
      exact V_end fun a ha => ⟨(), ha.sub ⟨rfl, rfl, (by rw [hc86]; rfl), trivial⟩, rfl⟩
    · refine V_gn rfl rfl rfl hc86 rfl rfl rfl ?_
      refine V_gn rfl rfl rfl hc86 rfl rfl rfl ?_
      refine V_gn rfl rfl rfl hc86 rfl rfl rfl ?_
      refine V_y (Y_pick_fe rfl hc86 rfl) rfl rfl rfl ?_
      exact V_end fun a ha => ⟨(), ha.sub ⟨rfl, rfl, (by rw [hc86]; rfl), trivial⟩, rfl⟩
  simp only [List.take, List.drop]
  rintro _ _ rfl
  refine V_y (Y_move rfl) rfl rfl rfl ?_
  refine V_cut 4 (fun _ : Unit => [(88, .bool ((((((x21.1 == x54.1) && (x32.1 == x65.1)) && (x43.1 == x76.1)) && (x21.2 == x54.2)) && (x32.2 == x65.2)) && (x43.2 == x76.2)))]) (fun _ w' => w77 = w') ?_ ?_
  · simp only [List.take, List.drop]
    rcases Bool.eq_false_or_eq_true ((((((x21.1 == x54.1) && (x32.1 == x65.1)) && (x43.1 == x76.1)) && (x21.2 == x54.2)) && (x32.2 == x65.2))) with hc88 | hc88
    · refine V_ge rfl rfl rfl hc88 ?_
      refine V_y (Y_move rfl) rfl rfl rfl ?_
      refine V_ge rfl rfl rfl hc88 ?_
      refine V_y (Y_move rfl) rfl rfl rfl ?_
      refine V_ge rfl rfl rfl hc88 ?_
      refine V_y (Y_eql rfl rfl) rfl rfl rfl ?_
      refine V_y (Y_pick_te rfl hc88 rfl) rfl rfl rfl ?_
      exact V_end fun a ha => ⟨(), ha.sub ⟨(by rw [hc88]; rfl), trivial⟩, rfl⟩
    · refine V_gn rfl rfl rfl hc88 rfl rfl rfl ?_
      refine V_gn rfl rfl rfl hc88 rfl rfl rfl ?_
      refine V_gn rfl rfl rfl hc88 rfl rfl rfl ?_
      refine V_y (Y_pick_fe rfl hc88 rfl) rfl rfl rfl ?_
      exact V_end fun a ha => ⟨(), ha.sub ⟨(by rw [hc88]; rfl), trivial⟩, rfl⟩
  simp only [List.take, List.drop]
  rintro _ _ rfl
  refine V_y (Y_assign rfl) rfl rfl rfl ?_
  refine V_to (fun _ _ => rfl) ?_
  obtain rfl := Option.some.inj hm
  refine C_ret ?_
  try simp only [↓inBlock_ret, ↓then_ret]
  exact retQ rfl (Res.one Try.results8 rfl) ⟨rfl, hK.kp⟩

end Go.Proofs.Ytjmgafmjendnaaa.W
