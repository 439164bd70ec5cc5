/-
  Written by program (gen.py) from the IR of the dump: each function computes its model.
-/
import Derived.Test.YtcehkbhloaeflaaDoorTopStaffedW1
namespace Go.Proofs.YtcehkbhloaeflaaDoor.W
open Go Go.RowKit Go.Pu Go.Gw Go.Proofs Go.Proofs.YtcehkbhloaeflaaDoor.M
set_option linter.unusedVariables false
set_option linter.unusedSimpArgs false

set_option maxRecDepth 4000 in
set_option maxHeartbeats 4000000 in
theorem staff_cover_c (w : World) {A : Nat → Prop} (hA : ∀ b, w.heap.size ≤ b → A b) (forms : (List staff_Form)) (v_forms : Value) (h_forms : Sl A w v_forms forms) (slots : Int) (plan : (List Int)) (v_plan : Value) (h_plan : Sl A w v_plan plan) {r : (List Int)} (hm : staff_cover forms slots plan = some r) : Ret Tryd.prog 19 #[v_forms, .int .i64 slots, v_plan] w fun v w' => ∃ s0, v = s0 ∧ Ownd 3 w w' s0 r ∧ Kp w w' := by
  unfold staff_cover at hm
  refine enter Tryd.func19 rfl Tryd.ntmps19 rfl ?_
  have hA0 := hA
  have hB := Nat.le_refl w.heap.size
  have hK : Tr w.heap.size A w A w := Tr.refl hA
  have hH : Hp w.heap.size A w [] := Hp.nil
  refine C_seq ?_
  refine C_region ?_
  refine V_y (Y_assign rfl) rfl rfl rfl ?_
  refine V_to (fun _ _ => rfl) ?_
  refine C_seq ?_
  refine C_region ?_
  refine V_y (Y_move rfl) rfl rfl rfl ?_
  obtain ⟨x5, hx5, hm⟩ := Option.bind_eq_some_iff.1 hm
  refine V_makeH (e := 3) (ti := Tryd.t3) hH hx5 (fun _ _ => rfl) Tryd.underlying27 Tryd_info3 rfl rfl rfl (by decide) (by decide) hB hA rfl rfl rfl ?_
  intro v6 w7 A8 hH9 ht10
  replace h_forms := Sl.tr h_forms ht10
  replace h_plan := Sl.tr h_plan ht10
  replace hK := Tr.trans hK ht10
  replace hB := Nat.le_trans hB ht10.ex.size
  replace hA := ht10.new
  replace hH : Hp w.heap.size A8 w7 (obS (α := Int) 3 v6 x5 :: []) := hH9
  refine V_y (Y_assign rfl) rfl rfl rfl ?_
  refine V_to (fun _ _ => rfl) ?_
  refine C_seq ?_
  refine C_seq ?_
  refine C_region ?_
  refine V_y (Y_move rfl) rfl rfl rfl ?_
  refine V_y (Y_lenSl h_forms rfl Tryd.underlying25 rfl) rfl rfl rfl ?_
  refine V_y (Y_move rfl) rfl rfl rfl ?_
  refine V_to (fun _ _ => rfl) ?_
  have hn35 := Sl.le h_forms
  obtain ⟨o11, ho11, hm⟩ := Option.bind_eq_some_iff.1 hm
  refine C_cutG (ι := ((List Int) × Value × (Nat → Prop))) (fun ⟨s12, v18, A20⟩ => [(7, v18)]) (fun ⟨s12, v18, A20⟩ => fun w' => o11 = .fin s12 ∧ Hp w.heap.size A20 w' (obS (α := Int) 3 v18 s12 :: []) ∧ Tr w.heap.size A8 w7 A20 w') ?_ ?_
  · refine C_block ?_
    refine C_range ho11 (fun k14 s22 a w' => ∃ i : (Value × (Nat → Prop)), Has ⟨45, [], none⟩ a ([(1, .int .i64 slots), (2, v_plan), (7, i.1), (13, v_forms), (14, .int .i64 (forms.length : Int)), (15, .int .i64 (k14 : Int))]) ∧ Hp w.heap.size i.2 w' (obS (α := Int) 3 i.1 s22 :: []) ∧ Tr w.heap.size A8 w7 i.2 w') (fun a ha => ⟨(v6, A8), ha.sub ⟨rfl, rfl, rfl, rfl, rfl, rfl, trivial⟩, ⟨hH, Tr.refl hA⟩⟩) ?_
    rintro K k14 s22 a w23 ⟨⟨v24, A26⟩, ha114, hH27, hr13⟩ hle31 K34 h33
    refine C_of ?_ ha114
    replace h_plan := Sl.tr h_plan hr13
    replace h_forms := Sl.tr h_forms hr13
    replace hK := Tr.trans hK hr13
    replace hB := Nat.le_trans hB hr13.ex.size
    replace hA := hr13.new
    replace hH : Hp w.heap.size A26 w23 (obS (α := Int) 3 v24 s22 :: []) := hH27
    refine C_seq (C_region (V_y (Y_lss rfl rfl) rfl rfl rfl (V_to (fun _ _ => rfl) ?_)))
    refine C_seq ?_
    refine C_cond rfl (fun hc36 => ?_) (fun hc36 => ?_)
    · have hlt32 := lt_of_dec hc36
      obtain ⟨x28, h29, h30⟩ := K34 hlt32
      refine C_skip_to (fun _ _ => rfl) ?_
      refine C_seq ?_
      obtain ⟨s38, ho37, h29⟩ := Option.bind_eq_some_iff.1 h29
      refine C_cutG (ι := (Value × (Nat → Prop))) (fun ⟨v40, A45⟩ => [(1, .int .i64 slots), (2, v_plan), (7, v40), (13, v_forms), (14, .int .i64 (forms.length : Int)), (15, .int .i64 (k14 : Int))]) (fun ⟨v40, A45⟩ => fun w' => Hp w.heap.size A45 w' (obS (α := Int) 3 v40 s38 :: []) ∧ Tr w.heap.size A26 w23 A45 w') ?_ ?_
      · have hr39 : Tr w.heap.size A26 w23 A26 w23 := Tr.refl hA
        refine C_block ?_
        refine C_seq ?_
        refine C_region ?_
        refine V_y (Y_move rfl) rfl rfl rfl ?_
        obtain ⟨x47, hx47, ho37⟩ := Option.bind_eq_some_iff.1 ho37
        refine V_indexAddr h_forms hx47 Tryd.underlying25 Tryd.sizeOf51 rfl rfl rfl ?_
        intro b48 o49 h50
        obtain ⟨h51, _⟩ := El_staff_Form h50
        refine V_y (Y_loadA h51 Tryd.isAgg51 Tryd.sizeOf51 rfl) rfl rfl rfl ?_
        refine V_alloc Tryd.zeroValue51 rfl ?_
        intro b52 w53 h54
        refine V_y (Y_assign rfl) rfl rfl rfl ?_
        refine V_storeNew h54 Tryd.sizeOf51 rfl rfl rfl rfl (by exact (List.forall_mem_cons.2 ⟨rfl, (List.forall_mem_cons.2 ⟨rfl, (fun _ h => nomatch h)⟩)⟩)) ?_
        intro w55 h56
        have hk58 := h56.kp
        have h57 : El (α := staff_Form) A26 w55 b52 0 x47 := h56.el hA ⟨[.int .i64 x47.from_], _, rfl, rfl, rfl⟩
        have ht59 := Kp.tr hk58 hA hB
        replace hH := Hp.kp hH hk58
        replace h_plan := Sl.tr h_plan ht59
        replace h_forms := Sl.tr h_forms ht59
        replace h50 := El.tr h50 ht59
        replace hK := Tr.trans hK ht59
        replace hr13 := Tr.trans hr13 ht59
        replace hr39 := Tr.trans hr39 ht59
        replace hB := Nat.le_trans hB ht59.ex.size
        replace hA := ht59.new
        refine V_to (fun _ _ => rfl) ?_
        refine C_seq ?_
        refine C_region ?_
        have h60 := El_staff_Form_0 h57
        refine V_y (Y_fieldAddr Tryd.underlying51 rfl Tryd.sizeOf3 (by decide) rfl) rfl rfl rfl ?_
        refine V_y (Y_load (El.int h60) Tryd.isAgg3 rfl) rfl rfl rfl ?_
        refine V_y (Y_assign rfl) rfl rfl rfl ?_
        refine V_to (fun _ _ => rfl) ?_
        obtain ⟨o61, ho61, ho37⟩ := Option.bind_eq_some_iff.1 ho37
        refine C_cutG (ι := (((List Int) × Int) × Value × (Nat → Prop))) (fun ⟨s62, v68, A70⟩ => [(1, .int .i64 slots), (2, v_plan), (7, v68), (13, v_forms), (14, .int .i64 (forms.length : Int)), (15, .int .i64 (k14 : Int))]) (fun ⟨s62, v68, A70⟩ => fun w' => o61 = .fin s62 ∧ Hp w.heap.size A70 w' (obS (α := Int) 3 v68 s62.1 :: []) ∧ Tr w.heap.size A26 w55 A70 w') ?_ ?_
        · refine C_block ?_
          refine C_while ho61 (fun s72 a w' => ∃ i : (Value × (Nat → Prop)), Has ⟨45, [], none⟩ a ([(1, .int .i64 slots), (2, v_plan), (7, i.1), (8, .int .i64 (k14 : Int)), (9, .pointer (some ⟨b52, 0, none⟩)), (10, .int .i64 s72.2), (13, v_forms), (14, .int .i64 (forms.length : Int)), (15, .int .i64 (k14 : Int))]) ∧ Hp w.heap.size i.2 w' (obS (α := Int) 3 i.1 s72.1 :: []) ∧ Tr w.heap.size A26 w55 i.2 w') (fun a ha => ⟨(v24, A26), ha.sub ⟨rfl, rfl, rfl, rfl, rfl, rfl, rfl, rfl, rfl, trivial⟩, ⟨hH, Tr.refl hA⟩⟩) ?_
          rintro K s72 a w73 ⟨⟨v74, A76⟩, ha110, hH77, hr63⟩ K84
          refine C_of ?_ ha110
          replace h_plan := Sl.tr h_plan hr63
          replace h_forms := Sl.tr h_forms hr63
          replace h57 := El.tr h57 hr63
          replace hK := Tr.trans hK hr63
          replace hr13 := Tr.trans hr13 hr63
          replace hr39 := Tr.trans hr39 hr63
          replace hB := Nat.le_trans hB hr63.ex.size
          replace hA := hr63.new
          replace hH : Hp w.heap.size A76 w73 (obS (α := Int) 3 v74 s72.1 :: []) := hH77
          obtain ⟨x78, h79, h80⟩ := K84
          refine C_seq ?_
          refine C_seq ?_
          refine C_region ?_
          refine V_y (Y_move rfl) rfl rfl rfl ?_
          refine V_y (Y_move rfl) rfl rfl rfl ?_
          have h85 := El_staff_Form_0 h57
          refine V_y (Y_fieldAddr Tryd.underlying51 rfl Tryd.sizeOf3 (by decide) rfl) rfl rfl rfl ?_
          refine V_y (Y_load (El.int h85) Tryd.isAgg3 rfl) rfl rfl rfl ?_
          have h86 := El_staff_Form_1 h57
          refine V_y (Y_fieldAddr Tryd.underlying51 rfl Tryd.sizeOf3 (by decide) rfl) rfl rfl rfl ?_
          refine V_y (Y_load (El.int h86) Tryd.isAgg3 rfl) rfl rfl rfl ?_
          refine V_y (Y_addI rfl rfl) rfl rfl rfl ?_
          refine V_y (Y_min2 rfl rfl) rfl rfl rfl ?_
          refine V_y (Y_lss rfl rfl) rfl rfl rfl ?_
          refine V_to (fun _ _ => rfl) ?_
          refine C_cond rfl (fun hc87 => ?_) (fun hc87 => ?_)
          · rw [if_pos hc87] at h79
            refine C_skip_to (fun _ _ => rfl) ?_
            refine C_seq ?_
            refine C_block ?_
            refine C_region_qt 10 Tryd_mixed (by kernel_rfl) ?_
            simp only [List.take, List.drop]
            refine VQ_y (fun w' hw' => Y_move rfl) rfl rfl rfl ?_
            refine VQ_y (fun w' hw' => Y_move rfl) rfl rfl rfl ?_
            obtain ⟨x88, hx88, h79⟩ := Option.bind_eq_some_iff.1 h79
            refine VQ_indexAddrH (α := Int) (e := 3) (v := v74) (l := s72.1) hH (i := 0) rfl hx88 Tryd.underlying27 Tryd.sizeOf3 rfl rfl rfl ?_
            intro b89 o90 h91 hl92
            refine VQ_y (fun w' hw' => Y_load (El.int (El.kp h91 hw')) Tryd.isAgg3 rfl) rfl rfl rfl ?_
            refine VQ_y (fun w' hw' => Y_move rfl) rfl rfl rfl ?_
            refine VQ_y (fun w' hw' => Y_move rfl) rfl rfl rfl ?_
            obtain ⟨x93, hx93, h79⟩ := Option.bind_eq_some_iff.1 h79
            refine VQ_indexAddr h_plan hx93 Tryd.underlying27 Tryd.sizeOf3 rfl rfl rfl ?_
            intro b94 o95 h96
            refine VQ_y (fun w' hw' => Y_load (El.int (El.kp h96 hw')) Tryd.isAgg3 rfl) rfl rfl rfl ?_
            refine VQ_y (fun w' hw' => Y_addI rfl rfl) rfl rfl rfl ?_
            refine VQ_indexAddrH (α := Int) (e := 3) (v := v74) (l := s72.1) hH (i := 0) rfl hx88 Tryd.underlying27 Tryd.sizeOf3 rfl rfl rfl ?_
            intro b97 o98 h99 hl100
            refine VQ_tail (fun w101 hk102 => ?_)
            try simp only [List.take, List.drop]
            have ht103 := Kp.tr hk102 hA hB
            replace hH := Hp.kp hH hk102
            replace h_plan := Sl.tr h_plan ht103
            replace h_forms := Sl.tr h_forms ht103
            replace h57 := El.tr h57 ht103
            replace h91 := El.kp h91 hk102
            replace h96 := El.tr h96 ht103
            replace h99 := El.kp h99 hk102
            replace hK := Tr.trans hK ht103
            replace hr13 := Tr.trans hr13 ht103
            replace hr39 := Tr.trans hr39 ht103
            replace hr63 := Tr.trans hr63 ht103
            replace hB := Nat.le_trans hB ht103.ex.size
            replace hA := ht103.new
            obtain ⟨x104, hx104, h79⟩ := Option.bind_eq_some_iff.1 h79
            refine V_storeH (α := Int) (e := 3) (v := v74) (l := s72.1) hH (i := 0) rfl hl100 hx104 rfl Tryd.sizeOf3 rfl hB hA rfl rfl ?_
            intro w105 hH106 ht107
            replace h_plan := Sl.tr h_plan ht107
            replace h_forms := Sl.tr h_forms ht107
            replace h57 := El.tr h57 ht107
            replace h96 := El.tr h96 ht107
            replace hK := Tr.trans hK ht107
            replace hr13 := Tr.trans hr13 ht107
            replace hr39 := Tr.trans hr39 ht107
            replace hr63 := Tr.trans hr63 ht107
            replace hB := Nat.le_trans hB ht107.ex.size
            replace hA := ht107.new
            replace hH : Hp w.heap.size A76 w105 (obS (α := Int) 3 v74 x104 :: []) := hH106
            refine V_to (fun _ _ => rfl) ?_
            refine C_region ?_
            refine V_y (Y_move rfl) rfl rfl rfl ?_
            refine V_y (Y_addI rfl rfl) rfl rfl rfl ?_
            refine V_y (Y_assign rfl) rfl rfl rfl ?_
            obtain rfl := Option.some.inj h79
            refine V_end (fun a ha108 => ?_)
            exact ⟨(x104, w64 (s72.2 + 1)), h80, ⟨(v74, A76), ha108.sub ⟨rfl, rfl, rfl, rfl, rfl, rfl, rfl, rfl, rfl, trivial⟩, ⟨hH, hr63⟩⟩⟩
          · rw [if_neg (nt hc87)] at h79
            obtain rfl := Option.some.inj h79
            refine C_exit (fun a ha109 => ?_)
            exact ⟨((s72.1, s72.2), v74, A76), ha109.sub ⟨rfl, rfl, rfl, rfl, rfl, rfl, trivial⟩, ⟨h80.symm, hH, hr63⟩⟩
        rintro ⟨s62, v68, A70⟩ w65 ⟨rfl, hH71, hk66⟩ a ha67
        rw [Lp.andThen_fin] at ho37
        replace h_plan := Sl.tr h_plan hk66
        replace h_forms := Sl.tr h_forms hk66
        replace hK := Tr.trans hK hk66
        replace hr13 := Tr.trans hr13 hk66
        replace hr39 := Tr.trans hr39 hk66
        replace hB := Nat.le_trans hB hk66.ex.size
        replace hA := hk66.new
        replace hH : Hp w.heap.size A70 w65 (obS (α := Int) 3 v68 s62.1 :: []) := hH71
        obtain rfl := Option.some.inj ho37
        exact ⟨(v68, A70), ha67.sub ⟨rfl, rfl, rfl, rfl, rfl, rfl, trivial⟩, ⟨hH, hr39⟩⟩
      rintro ⟨v40, A45⟩ w42 ⟨hH46, hk43⟩ a ha44
      replace h_plan := Sl.tr h_plan hk43
      replace h_forms := Sl.tr h_forms hk43
      replace hK := Tr.trans hK hk43
      replace hr13 := Tr.trans hr13 hk43
      replace hB := Nat.le_trans hB hk43.ex.size
      replace hA := hk43.new
      replace hH : Hp w.heap.size A45 w42 (obS (α := Int) 3 v40 s38 :: []) := hH46
      refine C_at (n := ⟨45, [], none⟩) (fun _ _ => rfl) ?_ ha44
      refine C_region ?_
      refine V_y (Y_addI rfl rfl) rfl rfl rfl ?_
      refine V_y (Y_move rfl) rfl rfl rfl ?_
      obtain rfl := Option.some.inj h29
      refine V_end (fun a ha112 => ?_)
      exact ⟨s38, hlt32, h30, ⟨(v40, A45), ha112.sub ⟨rfl, rfl, rfl, rfl, rfl, (congrArg (fun z => some (Value.int .i64 z)) (w64_succ hlt32 hn35)), trivial⟩, ⟨hH, hr13⟩⟩⟩
    · refine C_exit (fun a ha113 => ?_)
      exact ⟨(s22, v24, A26), ha113.sub ⟨rfl, trivial⟩, ⟨(h33 (eq_of_dec hle31 hc36)).symm, hH, hr13⟩⟩
  rintro ⟨s12, v18, A20⟩ w15 ⟨rfl, hH21, hk16⟩ a ha17
  rw [Lp.andThen_fin] at hm
  replace hK := Tr.trans hK hk16
  replace hB := Nat.le_trans hB hk16.ex.size
  replace hA := hk16.new
  replace hH : Hp w.heap.size A20 w15 (obS (α := Int) 3 v18 s12 :: []) := hH21
  refine C_at (n := ⟨45, [], none⟩) (fun _ _ => rfl) ?_ ha17
  refine C_seq ?_
  refine C_region ?_
  refine V_y (Y_move rfl) rfl rfl rfl ?_
  refine V_y (Y_assign rfl) rfl rfl rfl ?_
  refine V_to (fun _ _ => rfl) ?_
  obtain rfl := Option.some.inj hm
  refine C_ret ?_
  try simp only [↓inBlock_ret, ↓then_ret]
  exact retQ rfl (Res.one Tryd.results19 rfl) ⟨v18, rfl, (Hp.ownd hH (i := 0) rfl), hK.kp⟩

set_option maxRecDepth 4000 in
set_option maxHeartbeats 4000000 in
theorem staff_Cover_c (w : World) {A : Nat → Prop} (hA : ∀ b, w.heap.size ≤ b → A b) (forms : (List staff_Form)) (v_forms : Value) (h_forms : Sl A w v_forms forms) (slots : Int) (plan : (List Int)) (v_plan : Value) (h_plan : Sl A w v_plan plan) {r : ((List Int) × Int)} (hm : staff_Cover forms slots plan = some r) : Ret Tryd.prog 7 #[v_forms, .int .i64 slots, v_plan] w fun v w' => ∃ s0, v = .tuple #[s0, .int .i64 r.2] ∧ Ownd 3 w w' s0 r.1 ∧ Kp w w' := by
  unfold staff_Cover at hm
  refine enter Tryd.func7 rfl Tryd.ntmps7 rfl ?_
  have hA0 := hA
  have hB := Nat.le_refl w.heap.size
  have hK : Tr w.heap.size A w A w := Tr.refl hA
  have hH : Hp w.heap.size A w [] := Hp.nil
  refine C_seq ?_
  refine C_region ?_
  refine V_y (Y_assign rfl) rfl rfl rfl ?_
  refine V_y (Y_assign rfl) rfl rfl rfl ?_
  refine V_to (fun _ _ => rfl) ?_
  refine C_seq ?_
  refine C_seq ?_
  refine C_region ?_
  refine V_y (Y_move rfl) rfl rfl rfl ?_
  obtain ⟨x5, hx5, hm⟩ := Option.bind_eq_some_iff.1 hm
  refine V_call Tryd.call14 rfl rfl rfl rfl (staff_CheckForms_c w hA forms v_forms h_forms hx5) ?_
  rintro _ w6 ⟨rfl, hk7⟩
  have ht8 := Kp.tr hk7 hA hB
  replace hH := Hp.kp hH hk7
  replace h_forms := Sl.tr h_forms ht8
  replace h_plan := Sl.tr h_plan ht8
  replace hK := Tr.trans hK ht8
  replace hB := Nat.le_trans hB ht8.ex.size
  replace hA := ht8.new
  refine V_y (Y_move rfl) rfl rfl rfl ?_
  refine V_y (Y_move rfl) rfl rfl rfl ?_
  obtain ⟨x9, hx9, hm⟩ := Option.bind_eq_some_iff.1 hm
  refine V_call Tryd.call17 rfl rfl rfl rfl (staff_checkPlan_c w6 forms v_forms h_forms plan v_plan h_plan hx9) ?_
  rintro _ _ ⟨rfl, rfl⟩
  refine V_buildSlice (l := ([x5, x9] : List Int)) (len := 2) Tryd.underlying63 Tryd.sizeOf28 Tryd.zeroValue28 rfl (by with_unfolding_all rfl) (by decide) (by decide) hA ⟨[.int .i64 x5], _, rfl, rfl, ⟨[.int .i64 x9], _, rfl, rfl, rfl⟩⟩ rfl rfl ?_
  intro v10 w11 hk13 h12
  have ht14 := Kp.tr hk13 hA hB
  replace hH := Hp.kp hH hk13
  replace h_forms := Sl.tr h_forms ht14
  replace h_plan := Sl.tr h_plan ht14
  replace hK := Tr.trans hK ht14
  replace hB := Nat.le_trans hB ht14.ex.size
  replace hA := ht14.new
  obtain ⟨x15, hx15, hm⟩ := Option.bind_eq_some_iff.1 hm
  refine V_call Tryd.call13 rfl rfl rfl rfl (cmp_Or_api_Errno_c w11 ([x5, x9] : List Int) v10 h12 hx15) ?_
  rintro _ _ ⟨rfl, rfl⟩
  refine V_y (Y_assign rfl) rfl rfl rfl ?_
  refine V_to (fun _ _ => rfl) ?_
  refine C_seq ?_
  refine C_region ?_
  refine V_y (Y_move rfl) rfl rfl rfl ?_
  refine V_y (Y_neq rfl rfl) rfl rfl rfl ?_
  refine V_to (fun _ _ => rfl) ?_
  refine C_cond rfl (fun hc16 => ?_) (fun hc16 => ?_)
  · rw [if_pos hc16] at hm
    refine C_seq ?_
    refine C_region ?_
    refine V_y (Y_move rfl) rfl rfl rfl ?_
    refine V_y (Y_assign rfl) rfl rfl rfl ?_
    refine V_y (Y_assign rfl) rfl rfl rfl ?_
    refine V_to (fun _ _ => rfl) ?_
    obtain rfl := Option.some.inj hm
    replace hH : Hp w.heap.size A w11 (obS (α := Int) 3 (.slice none 0 0) ([] : (List Int)) :: []) := Hp.addNil (α := Int) (e := 3) hH
    refine C_ret ?_
    try simp only [↓inBlock_ret, ↓then_ret]
    exact retQ rfl (Res.two Tryd.results7 rfl rfl) ⟨.slice none 0 0, rfl, (Hp.ownd hH (i := 0) rfl), hK.kp⟩
  · rw [if_neg (nt hc16)] at hm
    refine C_skip_to (fun _ _ => rfl) ?_
    refine C_seq ?_
    refine C_seq ?_
    refine C_region ?_
    refine V_y (Y_move rfl) rfl rfl rfl ?_
    refine V_call Tryd.call18 rfl rfl rfl rfl (staff_within_c w11 slots 0 400) ?_
    rintro _ _ ⟨rfl, rfl⟩
    refine V_y (Y_not rfl) rfl rfl rfl ?_
    refine V_to (fun _ _ => rfl) ?_
    refine C_cond rfl (fun hc17 => ?_) (fun hc17 => ?_)
    · rw [if_pos hc17] at hm
      refine C_seq ?_
      refine C_region ?_
      refine V_y (Y_assign rfl) rfl rfl rfl ?_
      refine V_y (Y_assign rfl) rfl rfl rfl ?_
      refine V_to (fun _ _ => rfl) ?_
      obtain rfl := Option.some.inj hm
      replace hH : Hp w.heap.size A w11 (obS (α := Int) 3 (.slice none 0 0) ([] : (List Int)) :: []) := Hp.addNil (α := Int) (e := 3) hH
      refine C_ret ?_
      try simp only [↓inBlock_ret, ↓then_ret]
      exact retQ rfl (Res.two Tryd.results7 rfl rfl) ⟨.slice none 0 0, rfl, (Hp.ownd hH (i := 0) rfl), hK.kp⟩
    · rw [if_neg (nt hc17)] at hm
      refine C_skip_to (fun _ _ => rfl) ?_
      refine C_seq ?_
      refine C_region ?_
      refine V_y (Y_move rfl) rfl rfl rfl ?_
      refine V_y (Y_move rfl) rfl rfl rfl ?_
      refine V_y (Y_move rfl) rfl rfl rfl ?_
      obtain ⟨x18, hx18, hm⟩ := Option.bind_eq_some_iff.1 hm
      refine V_call Tryd.call19 rfl rfl rfl rfl (staff_cover_c w11 hA forms v_forms h_forms slots plan v_plan h_plan hx18) ?_
      rintro v19 w21 ⟨_, rfl, h20, hk22⟩
      obtain ⟨A23, ht24, hH25⟩ := Hp.addOwnd hH hB hA hk22 h20
      replace h_forms := Sl.tr h_forms ht24
      replace h_plan := Sl.tr h_plan ht24
      replace hK := Tr.trans hK ht24
      replace hB := Nat.le_trans hB ht24.ex.size
      replace hA := ht24.new
      replace hH : Hp w.heap.size A23 w21 (obS (α := Int) 3 v19 x18 :: []) := hH25
      refine V_y (Y_assign rfl) rfl rfl rfl ?_
      refine V_y (Y_assign rfl) rfl rfl rfl ?_
      refine V_to (fun _ _ => rfl) ?_
      obtain rfl := Option.some.inj hm
      refine C_ret ?_
      try simp only [↓inBlock_ret, ↓then_ret]
      exact retQ rfl (Res.two Tryd.results7 rfl rfl) ⟨v19, rfl, (Hp.ownd hH (i := 0) rfl), hK.kp⟩

set_option maxRecDepth 4000 in
set_option maxHeartbeats 4000000 in
theorem staff_checkPeople_c (w : World) (n : Int) : Ret Tryd.prog 20 #[.int .i64 n] w fun v w' => v = .int .i64 (staff_checkPeople n) ∧ w = w' := by
  generalize hm : staff_checkPeople n = r
  unfold staff_checkPeople at hm
  refine enter Tryd.func20 rfl Tryd.ntmps20 rfl ?_
  refine C_seq ?_
  refine C_region ?_
  refine V_y (Y_assign rfl) rfl rfl rfl ?_
  refine V_to (fun _ _ => rfl) ?_
  refine C_seq ?_
  refine C_seq ?_
  refine C_region ?_
  refine V_y (Y_move rfl) rfl rfl rfl ?_
  refine V_call Tryd.call18 rfl rfl rfl rfl (staff_within_c w n 0 60) ?_
  rintro _ _ ⟨rfl, rfl⟩
  refine V_y (Y_not rfl) rfl rfl rfl ?_
  refine V_to (fun _ _ => rfl) ?_
  refine C_cond rfl (fun hc1 => ?_) (fun hc1 => ?_)
  · rw [if_pos hc1] at hm
    refine C_seq ?_
    refine C_region ?_
    refine V_y (Y_assign rfl) rfl rfl rfl ?_
    refine V_to (fun _ _ => rfl) ?_
    obtain rfl := hm
    refine C_ret ?_
    try simp only [↓inBlock_ret, ↓then_ret]
    exact retQ rfl (Res.one Tryd.results20 rfl) ⟨rfl, rfl⟩
  · rw [if_neg (nt hc1)] at hm
    refine C_skip_to (fun _ _ => rfl) ?_
    refine C_seq ?_
    refine C_region ?_
    refine V_y (Y_assign rfl) rfl rfl rfl ?_
    refine V_to (fun _ _ => rfl) ?_
    obtain rfl := hm
    refine C_ret ?_
    try simp only [↓inBlock_ret, ↓then_ret]
    exact retQ rfl (Res.one Tryd.results20 rfl) ⟨rfl, rfl⟩

set_option maxRecDepth 4000 in
set_option maxHeartbeats 4000000 in
theorem staff_Keeps_c (w : World) {A : Nat → Prop} (hA : ∀ b, w.heap.size ≤ b → A b) (l : staff_Load) (p : staff_Promise) (n : Int) {r : (Bool × Int)} (hm : staff_Keeps l p n = some r) : Ret Tryd.prog 8 #[.agg #[.int .i64 l.calls, .int .i64 l.length, .int .i64 l.span], .agg #[.int .i64 p.share, .int .i64 p.of, .int .i64 p.wait, .int .i64 p.parts], .int .i64 n] w fun v w' => v = .tuple #[.bool r.1, .int .i64 r.2] ∧ Kp w w' := by
  unfold staff_Keeps at hm
  refine enter Tryd.func8 rfl Tryd.ntmps8 rfl ?_
  have hA0 := hA
  have hB := Nat.le_refl w.heap.size
  have hK : Tr w.heap.size A w A w := Tr.refl hA
  have hH : Hp w.heap.size A w [] := Hp.nil
  refine C_seq ?_
  refine C_region ?_
  refine V_box rfl rfl ?_
  intro b1 w2 h3
  have hk5 := h3.kp
  have h4 : El (α := staff_Load) A w2 b1 0 l := h3.el hA ⟨[.int .i64 l.calls], _, rfl, rfl, ⟨[.int .i64 l.length], _, rfl, rfl, rfl⟩⟩
  have ht6 := Kp.tr hk5 hA hB
  replace hH := Hp.kp hH hk5
  replace hK := Tr.trans hK ht6
  replace hB := Nat.le_trans hB ht6.ex.size
  replace hA := ht6.new
  refine V_box rfl rfl ?_
  intro b7 w9 h10
  have hk12 := h10.kp
  have h11 : El (α := staff_Promise) A w9 b7 0 p := h10.el hA ⟨[.int .i64 p.share], _, rfl, rfl, ⟨[.int .i64 p.of], _, rfl, rfl, ⟨[.int .i64 p.wait], _, rfl, rfl, rfl⟩⟩⟩
  have ht13 := Kp.tr hk12 hA hB
  replace hH := Hp.kp hH hk12
  replace h4 := El.tr h4 ht13
  replace hK := Tr.trans hK ht13
  replace hB := Nat.le_trans hB ht13.ex.size
  replace hA := ht13.new
  refine V_y (Y_assign rfl) rfl rfl rfl ?_
  refine V_y (Y_assign rfl) rfl rfl rfl ?_
  refine V_to (fun _ _ => rfl) ?_
  refine C_seq ?_
  refine C_seq ?_
  refine C_region_qt 6 Tryd_mixed (by kernel_rfl) ?_
  simp only [List.take, List.drop]
  obtain ⟨h14, _⟩ := El_staff_Load h4
  refine VQ_y (fun w' hw' => Y_loadA (At.kp h14 hw' h4.2.1) Tryd.isAgg34 Tryd.sizeOf34 rfl) rfl rfl rfl ?_
  obtain ⟨x15, hx15, hm⟩ := Option.bind_eq_some_iff.1 hm
  refine VQ_call (.int .i64 x15) Tryd.call10 rfl rfl rfl rfl (fun w' hw' => (staff_checkLoad_c w' (fun b hb => hA b (Nat.le_trans hw'.size hb)) l hx15).mono (fun _ _ h => ⟨h.1, Kp.trans hw' h.2⟩)) ?_
  refine VQ_y (fun w' hw' => Y_move rfl) rfl rfl rfl ?_
  refine VQ_call (.int .i64 (staff_checkPeople n)) Tryd.call20 rfl rfl rfl rfl (fun w' hw' => (staff_checkPeople_c w' n).mono (fun _ _ h => ⟨h.1, h.2 ▸ hw'⟩)) ?_
  obtain ⟨h16, _⟩ := El_staff_Promise h11
  refine VQ_y (fun w' hw' => Y_loadA (At.kp h16 hw' h11.2.1) Tryd.isAgg24 Tryd.sizeOf24 rfl) rfl rfl rfl ?_
  obtain ⟨x17, hx17, hm⟩ := Option.bind_eq_some_iff.1 hm
  refine VQ_call (.int .i64 x17) Tryd.call11 rfl rfl rfl rfl (fun w' hw' => (staff_checkPromise_c w' (fun b hb => hA b (Nat.le_trans hw'.size hb)) p hx17).mono (fun _ _ h => ⟨h.1, Kp.trans hw' h.2⟩)) ?_
  refine VQ_tail (fun w18 hk19 => ?_)
  try simp only [List.take, List.drop]
  have ht20 := Kp.tr hk19 hA hB
  replace hH := Hp.kp hH hk19
  replace h4 := El.tr h4 ht20
  replace h11 := El.tr h11 ht20
  replace hK := Tr.trans hK ht20
  replace hB := Nat.le_trans hB ht20.ex.size
  replace hA := ht20.new
  refine V_buildSlice (l := ([x15, (staff_checkPeople n), x17] : List Int)) (len := 3) Tryd.underlying63 Tryd.sizeOf28 Tryd.zeroValue28 rfl (by with_unfolding_all rfl) (by decide) (by decide) hA ⟨[.int .i64 x15], _, rfl, rfl, ⟨[.int .i64 (staff_checkPeople n)], _, rfl, rfl, ⟨[.int .i64 x17], _, rfl, rfl, rfl⟩⟩⟩ rfl rfl ?_
  intro v21 w22 hk24 h23
  have ht25 := Kp.tr hk24 hA hB
  replace hH := Hp.kp hH hk24
  replace h4 := El.tr h4 ht25
  replace h11 := El.tr h11 ht25
  replace hK := Tr.trans hK ht25
  replace hB := Nat.le_trans hB ht25.ex.size
  replace hA := ht25.new
  obtain ⟨x26, hx26, hm⟩ := Option.bind_eq_some_iff.1 hm
  refine V_call Tryd.call13 rfl rfl rfl rfl (cmp_Or_api_Errno_c w22 ([x15, (staff_checkPeople n), x17] : List Int) v21 h23 hx26) ?_
  rintro _ _ ⟨rfl, rfl⟩
  refine V_y (Y_assign rfl) rfl rfl rfl ?_
  refine V_to (fun _ _ => rfl) ?_
  refine C_seq ?_
  refine C_region ?_
  refine V_y (Y_move rfl) rfl rfl rfl ?_
  refine V_y (Y_neq rfl rfl) rfl rfl rfl ?_
  refine V_to (fun _ _ => rfl) ?_
  refine C_cond rfl (fun hc27 => ?_) (fun hc27 => ?_)
  · rw [if_pos hc27] at hm
    refine C_seq ?_
    refine C_region ?_
    refine V_y (Y_move rfl) rfl rfl rfl ?_
    refine V_y (Y_assign rfl) rfl rfl rfl ?_
    refine V_y (Y_assign rfl) rfl rfl rfl ?_
    refine V_to (fun _ _ => rfl) ?_
    obtain rfl := Option.some.inj hm
    refine C_ret ?_
    try simp only [↓inBlock_ret, ↓then_ret]
    exact retQ rfl (Res.two Tryd.results8 rfl rfl) ⟨rfl, hK.kp⟩
  · rw [if_neg (nt hc27)] at hm
    refine C_skip_to (fun _ _ => rfl) ?_
    refine C_seq ?_
    refine C_region ?_
    obtain ⟨h28, _⟩ := El_staff_Load h4
    refine V_y (Y_loadA h28 Tryd.isAgg34 Tryd.sizeOf34 rfl) rfl rfl rfl ?_
    obtain ⟨h29, _⟩ := El_staff_Promise h11
    refine V_y (Y_loadA h29 Tryd.isAgg24 Tryd.sizeOf24 rfl) rfl rfl rfl ?_
    refine V_y (Y_move rfl) rfl rfl rfl ?_
    obtain ⟨x30, hx30, hm⟩ := Option.bind_eq_some_iff.1 hm
    refine V_call Tryd.call21 rfl rfl rfl rfl (staff_Load_keeps_c w22 hA l p n hx30) ?_
    rintro _ w31 ⟨rfl, hk32⟩
    have ht33 := Kp.tr hk32 hA hB
    replace hH := Hp.kp hH hk32
    replace h4 := El.tr h4 ht33
    replace h11 := El.tr h11 ht33
    replace hK := Tr.trans hK ht33
    replace hB := Nat.le_trans hB ht33.ex.size
    replace hA := ht33.new
    refine V_y (Y_assign rfl) rfl rfl rfl ?_
    refine V_y (Y_assign rfl) rfl rfl rfl ?_
    refine V_to (fun _ _ => rfl) ?_
    obtain rfl := Option.some.inj hm
    refine C_ret ?_
    try simp only [↓inBlock_ret, ↓then_ret]
    exact retQ rfl (Res.two Tryd.results8 rfl rfl) ⟨rfl, hK.kp⟩

set_option maxRecDepth 4000 in
set_option maxHeartbeats 4000000 in
theorem porttop_TopStaffed_c (w : World) {A : Nat → Prop} (hA : ∀ b, w.heap.size ≤ b → A b) (loads : (List staff_Load)) (v_loads : Value) (h_loads : Sl A w v_loads loads) (p : staff_Promise) (forms : (List staff_Form)) (v_forms : Value) (h_forms : Sl A w v_forms forms) {r : Bool} (hm : porttop_TopStaffed loads p forms = some r) : Ret Tryd.prog 3 #[v_loads, .agg #[.int .i64 p.share, .int .i64 p.of, .int .i64 p.wait, .int .i64 p.parts], v_forms] w fun v w' => v = .bool r ∧ Kp w w' := by
  unfold porttop_TopStaffed at hm
  refine enter Tryd.func3 rfl Tryd.ntmps3 rfl ?_
  have hA0 := hA
  have hB := Nat.le_refl w.heap.size
  have hK : Tr w.heap.size A w A w := Tr.refl hA
  have hH : Hp w.heap.size A w [] := Hp.nil
  refine C_seq ?_
  refine C_region ?_
  refine V_box rfl rfl ?_
  intro b5 w6 h7
  have hk9 := h7.kp
  have h8 : El (α := staff_Promise) A w6 b5 0 p := h7.el hA ⟨[.int .i64 p.share], _, rfl, rfl, ⟨[.int .i64 p.of], _, rfl, rfl, ⟨[.int .i64 p.wait], _, rfl, rfl, rfl⟩⟩⟩
  have ht10 := Kp.tr hk9 hA hB
  replace hH := Hp.kp hH hk9
  replace h_loads := Sl.tr h_loads ht10
  replace h_forms := Sl.tr h_forms ht10
  replace hK := Tr.trans hK ht10
  replace hB := Nat.le_trans hB ht10.ex.size
  replace hA := ht10.new
  refine V_y (Y_assign rfl) rfl rfl rfl ?_
  refine V_to (fun _ _ => rfl) ?_
  refine C_seq ?_
  refine C_seq ?_
  refine C_region ?_
  obtain ⟨x11, hx11, hm⟩ := Option.bind_eq_some_iff.1 hm
  refine V_call Tryd.call4 rfl rfl rfl rfl (porttop_awakeStaff_c w6 hA hx11) ?_
  rintro _ w12 ⟨rfl, hk13⟩
  have ht14 := Kp.tr hk13 hA hB
  replace hH := Hp.kp hH hk13
  replace h_loads := Sl.tr h_loads ht14
  replace h_forms := Sl.tr h_forms ht14
  replace h8 := El.tr h8 ht14
  replace hK := Tr.trans hK ht14
  replace hB := Nat.le_trans hB ht14.ex.size
  replace hA := ht14.new
  refine V_y (Y_not rfl) rfl rfl rfl ?_
  refine V_to (fun _ _ => rfl) ?_
  refine C_cond rfl (fun hc15 => ?_) (fun hc15 => ?_)
  · rw [if_pos hc15] at hm
    refine C_seq ?_
    refine C_region ?_
    refine V_y (Y_assign rfl) rfl rfl rfl ?_
    refine V_to (fun _ _ => rfl) ?_
    obtain rfl := Option.some.inj hm
    refine C_ret ?_
    try simp only [↓inBlock_ret, ↓then_ret]
    exact retQ rfl (Res.one Tryd.results3 rfl) ⟨rfl, hK.kp⟩
  · rw [if_neg (nt hc15)] at hm
    refine C_skip_to (fun _ _ => rfl) ?_
    refine C_seq ?_
    refine C_region ?_
    refine V_y (Y_move rfl) rfl rfl rfl ?_
    obtain ⟨h16, _⟩ := El_staff_Promise h8
    refine V_y (Y_loadA h16 Tryd.isAgg24 Tryd.sizeOf24 rfl) rfl rfl rfl ?_
    obtain ⟨x17, hx17, hm⟩ := Option.bind_eq_some_iff.1 hm
    refine V_call Tryd.call5 rfl rfl rfl rfl (staff_Demand_c w12 hA loads v_loads h_loads p hx17) ?_
    rintro _ w20 ⟨v18, rfl, h19, hk21⟩
    obtain ⟨A22, ht23, hH24⟩ := Hp.addOwnd hH hB hA hk21 h19
    replace h_loads := Sl.tr h_loads ht23
    replace h_forms := Sl.tr h_forms ht23
    replace h8 := El.tr h8 ht23
    replace hK := Tr.trans hK ht23
    replace hB := Nat.le_trans hB ht23.ex.size
    replace hA := ht23.new
    replace hH : Hp w.heap.size A22 w20 (obS (α := Int) 3 v18 x17.1 :: []) := hH24
    refine V_y (Y_move rfl) rfl rfl rfl ?_
    refine V_y (Y_extract rfl rfl) rfl rfl rfl ?_
    refine V_y (Y_extract rfl rfl) rfl rfl rfl ?_
    refine V_y (Y_assign rfl) rfl rfl rfl ?_
    refine V_y (Y_assign rfl) rfl rfl rfl ?_
    refine V_to (fun _ _ => rfl) ?_
    refine C_seq ?_
    refine C_seq ?_
    refine C_region ?_
    refine V_y (Y_move rfl) rfl rfl rfl ?_
    refine V_y (Y_neq rfl rfl) rfl rfl rfl ?_
    refine V_to (fun _ _ => rfl) ?_
    refine C_cond rfl (fun hc25 => ?_) (fun hc25 => ?_)
    · rw [if_pos hc25] at hm
      refine C_seq ?_
      refine C_region ?_
      refine V_y (Y_move rfl) rfl rfl rfl ?_
      refine V_y (Y_lenSl (Hp.any (α := Int) (e := 3) (v := v18) (l := x17.1) hH (i := 0) rfl) rfl Tryd.underlying27 rfl) rfl rfl rfl ?_
      refine V_y (Y_eql rfl rfl) rfl rfl rfl ?_
      refine V_y (Y_assign rfl) rfl rfl rfl ?_
      refine V_to (fun _ _ => rfl) ?_
      obtain rfl := Option.some.inj hm
      refine C_ret ?_
      try simp only [↓inBlock_ret, ↓then_ret]
      exact retQ rfl (Res.one Tryd.results3 rfl) ⟨rfl, hK.kp⟩
    · rw [if_neg (nt hc25)] at hm
      refine C_skip_to (fun _ _ => rfl) ?_
      refine C_seq ?_
      refine C_region ?_
      refine V_y (Y_move rfl) rfl rfl rfl ?_
      refine V_y (Y_move rfl) rfl rfl rfl ?_
      obtain ⟨x26, hx26, hm⟩ := Option.bind_eq_some_iff.1 hm
      refine V_call Tryd.call6 rfl rfl rfl rfl (staff_Plan_c w20 (A := fun _ => True) (fun _ _ => trivial) forms v_forms (Sl.any h_forms) x17.1 v18 (Hp.any (α := Int) (e := 3) (v := v18) (l := x17.1) hH (i := 0) rfl) hx26) ?_
      rintro _ w29 ⟨v27, rfl, h28, hk30⟩
      obtain ⟨A31, ht32, hH33⟩ := Hp.addOwnd hH hB hA hk30 h28
      replace h_loads := Sl.tr h_loads ht32
      replace h_forms := Sl.tr h_forms ht32
      replace h8 := El.tr h8 ht32
      replace hK := Tr.trans hK ht32
      replace hB := Nat.le_trans hB ht32.ex.size
      replace hA := ht32.new
      replace hH : Hp w.heap.size A31 w29 (obS (α := Int) 3 v27 x26.1 :: obS (α := Int) 3 v18 x17.1 :: []) := hH33
      refine V_y (Y_move rfl) rfl rfl rfl ?_
      refine V_y (Y_extract rfl rfl) rfl rfl rfl ?_
      refine V_y (Y_extract rfl rfl) rfl rfl rfl ?_
      refine V_y (Y_assign rfl) rfl rfl rfl ?_
      refine V_y (Y_assign rfl) rfl rfl rfl ?_
      refine V_to (fun _ _ => rfl) ?_
      refine C_seq ?_
      refine C_seq ?_
      refine C_region ?_
      refine V_y (Y_move rfl) rfl rfl rfl ?_
      refine V_y (Y_neq rfl rfl) rfl rfl rfl ?_
      refine V_to (fun _ _ => rfl) ?_
      refine C_cond rfl (fun hc34 => ?_) (fun hc34 => ?_)
      · rw [if_pos hc34] at hm
        refine C_seq ?_
        refine C_region ?_
        refine V_y (Y_move rfl) rfl rfl rfl ?_
        refine V_y (Y_lenSl (Hp.any (α := Int) (e := 3) (v := v27) (l := x26.1) hH (i := 0) rfl) rfl Tryd.underlying27 rfl) rfl rfl rfl ?_
        refine V_y (Y_eql rfl rfl) rfl rfl rfl ?_
        refine V_y (Y_assign rfl) rfl rfl rfl ?_
        refine V_to (fun _ _ => rfl) ?_
        obtain rfl := Option.some.inj hm
        refine C_ret ?_
        try simp only [↓inBlock_ret, ↓then_ret]
        exact retQ rfl (Res.one Tryd.results3 rfl) ⟨rfl, hK.kp⟩
      · rw [if_neg (nt hc34)] at hm
        refine C_skip_to (fun _ _ => rfl) ?_
        refine C_seq ?_
        refine C_region ?_
        refine V_y (Y_move rfl) rfl rfl rfl ?_
        refine V_y (Y_move rfl) rfl rfl rfl ?_
        refine V_y (Y_lenSl h_loads rfl Tryd.underlying22 rfl) rfl rfl rfl ?_
        refine V_y (Y_move rfl) rfl rfl rfl ?_
        obtain ⟨x35, hx35, hm⟩ := Option.bind_eq_some_iff.1 hm
        refine V_call Tryd.call7 rfl rfl rfl rfl (staff_Cover_c w29 (A := fun _ => True) (fun _ _ => trivial) forms v_forms (Sl.any h_forms) (loads.length : Int) x26.1 v27 (Hp.any (α := Int) (e := 3) (v := v27) (l := x26.1) hH (i := 0) rfl) hx35) ?_
        rintro _ w38 ⟨v36, rfl, h37, hk39⟩
        obtain ⟨A40, ht41, hH42⟩ := Hp.addOwnd hH hB hA hk39 h37
        replace h_loads := Sl.tr h_loads ht41
        replace h_forms := Sl.tr h_forms ht41
        replace h8 := El.tr h8 ht41
        replace hK := Tr.trans hK ht41
        replace hB := Nat.le_trans hB ht41.ex.size
        replace hA := ht41.new
        replace hH : Hp w.heap.size A40 w38 (obS (α := Int) 3 v36 x35.1 :: obS (α := Int) 3 v27 x26.1 :: obS (α := Int) 3 v18 x17.1 :: []) := hH42
        refine V_y (Y_move rfl) rfl rfl rfl ?_
        refine V_y (Y_extract rfl rfl) rfl rfl rfl ?_
        refine V_y (Y_extract rfl rfl) rfl rfl rfl ?_
        refine V_y (Y_assign rfl) rfl rfl rfl ?_
        refine V_y (Y_assign rfl) rfl rfl rfl ?_
        refine V_to (fun _ _ => rfl) ?_
        refine C_seq ?_
        refine C_seq ?_
        refine C_region ?_
        refine V_y (Y_move rfl) rfl rfl rfl ?_
        refine V_y (Y_neq rfl rfl) rfl rfl rfl ?_
        refine V_y (Y_move rfl) rfl rfl rfl ?_
        refine V_cut 6 (fun _ : Unit => [(0, v_loads), (4, .pointer (some ⟨b5, 0, none⟩)), (7, v18), (10, v36), (57, .bool ((x35.2 != 0) || ((x35.1.length : Int) != (loads.length : Int))))]) (fun _ w' => w38 = w') ?_ ?_
        · simp only [List.take, List.drop]
          rcases Bool.eq_false_or_eq_true (x35.2 != 0) with hc43 | hc43
          · refine V_gn rfl rfl rfl hc43 rfl rfl rfl ?_
            refine V_gn rfl rfl rfl hc43 rfl rfl rfl ?_
            refine V_gn rfl rfl rfl hc43 rfl rfl rfl ?_
            refine V_gn rfl rfl rfl hc43 rfl rfl rfl ?_
            refine V_gn rfl rfl rfl hc43 rfl rfl rfl ?_
            refine V_y (Y_pick_te rfl hc43 rfl) rfl rfl rfl ?_
            exact V_end fun a ha => ⟨(), ha.sub ⟨rfl, rfl, rfl, rfl, (by rw [hc43]; rfl), trivial⟩, rfl⟩
          · refine V_ge rfl rfl rfl hc43 ?_
            refine V_y (Y_move rfl) rfl rfl rfl ?_
            refine V_ge rfl rfl rfl hc43 ?_
            refine V_y (Y_lenSl (Hp.any (α := Int) (e := 3) (v := v36) (l := x35.1) hH (i := 0) rfl) rfl Tryd.underlying27 rfl) rfl rfl rfl ?_
            refine V_ge rfl rfl rfl hc43 ?_
            refine V_y (Y_move rfl) rfl rfl rfl ?_
            refine V_ge rfl rfl rfl hc43 ?_
            refine V_y (Y_lenSl h_loads rfl Tryd.underlying22 rfl) rfl rfl rfl ?_
            refine V_ge rfl rfl rfl hc43 ?_
            refine V_y (Y_neq rfl rfl) rfl rfl rfl ?_
            refine V_y (Y_pick_fe rfl hc43 rfl) rfl rfl rfl ?_
            exact V_end fun a ha => ⟨(), ha.sub ⟨rfl, rfl, rfl, rfl, (by rw [hc43]; rfl), trivial⟩, rfl⟩
        simp only [List.take, List.drop]
        rintro _ _ rfl
        refine V_y (Y_move rfl) rfl rfl rfl ?_
        refine V_cut 6 (fun _ : Unit => [(0, v_loads), (4, .pointer (some ⟨b5, 0, none⟩)), (7, v18), (10, v36), (64, .bool (((x35.2 != 0) || ((x35.1.length : Int) != (loads.length : Int))) || ((x17.1.length : Int) != (loads.length : Int))))]) (fun _ w' => w38 = w') ?_ ?_
        · simp only [List.take, List.drop]
          rcases Bool.eq_false_or_eq_true (((x35.2 != 0) || ((x35.1.length : Int) != (loads.length : Int)))) with hc45 | hc45
          · refine V_gn rfl rfl rfl hc45 rfl rfl rfl ?_
            refine V_gn rfl rfl rfl hc45 rfl rfl rfl ?_
            refine V_gn rfl rfl rfl hc45 rfl rfl rfl ?_
            refine V_gn rfl rfl rfl hc45 rfl rfl rfl ?_
            refine V_gn rfl rfl rfl hc45 rfl rfl rfl ?_
            refine V_y (Y_pick_te rfl hc45 rfl) rfl rfl rfl ?_
            exact V_end fun a ha => ⟨(), ha.sub ⟨rfl, rfl, rfl, rfl, (by rw [hc45]; rfl), trivial⟩, rfl⟩
          · refine V_ge rfl rfl rfl hc45 ?_
            refine V_y (Y_move rfl) rfl rfl rfl ?_
            refine V_ge rfl rfl rfl hc45 ?_
            refine V_y (Y_lenSl (Hp.any (α := Int) (e := 3) (v := v18) (l := x17.1) hH (i := 2) rfl) rfl Tryd.underlying27 rfl) rfl rfl rfl ?_
            refine V_ge rfl rfl rfl hc45 ?_
            refine V_y (Y_move rfl) rfl rfl rfl ?_
            refine V_ge rfl rfl rfl hc45 ?_
            refine V_y (Y_lenSl h_loads rfl Tryd.underlying22 rfl) rfl rfl rfl ?_
            refine V_ge rfl rfl rfl hc45 ?_
            refine V_y (Y_neq rfl rfl) rfl rfl rfl ?_
            refine V_y (Y_pick_fe rfl hc45 rfl) rfl rfl rfl ?_
            exact V_end fun a ha => ⟨(), ha.sub ⟨rfl, rfl, rfl, rfl, (by rw [hc45]; rfl), trivial⟩, rfl⟩
        simp only [List.take, List.drop]
        rintro _ _ rfl
        refine V_to (fun _ _ => rfl) ?_
        refine C_cond rfl (fun hc47 => ?_) (fun hc47 => ?_)
        · rw [if_pos hc47] at hm
          refine C_seq ?_
          refine C_region ?_
          refine V_y (Y_assign rfl) rfl rfl rfl ?_
          refine V_to (fun _ _ => rfl) ?_
          obtain rfl := Option.some.inj hm
          refine C_ret ?_
          try simp only [↓inBlock_ret, ↓then_ret]
          exact retQ rfl (Res.one Tryd.results3 rfl) ⟨rfl, hK.kp⟩
        · rw [if_neg (nt hc47)] at hm
          refine C_skip_to (fun _ _ => rfl) ?_
          refine C_seq ?_
          refine C_seq ?_
          refine C_region ?_
          refine V_y (Y_move rfl) rfl rfl rfl ?_
          refine V_y (Y_lenSl h_loads rfl Tryd.underlying22 rfl) rfl rfl rfl ?_
          refine V_y (Y_move rfl) rfl rfl rfl ?_
          refine V_to (fun _ _ => rfl) ?_
          have hn68 := Sl.le h_loads
          obtain ⟨o48, ho48, hm⟩ := Option.bind_eq_some_iff.1 hm
          refine C_cutG (ι := (Unit × (Nat → Prop))) (fun ⟨s49, A55⟩ => []) (fun ⟨s49, A55⟩ => fun w' => o48 = .fin s49 ∧ Hp w.heap.size A55 w' (obS (α := Int) 3 v36 x35.1 :: obS (α := Int) 3 v27 x26.1 :: obS (α := Int) 3 v18 x17.1 :: []) ∧ Tr w.heap.size A40 w38 A55 w') ?_ ?_
          · refine C_block ?_
            refine C_range ho48 (fun k51 _ a w' => ∃ i : (Nat → Prop), Has ⟨116, [], none⟩ a ([(4, .pointer (some ⟨b5, 0, none⟩)), (7, v18), (10, v36), (65, v_loads), (66, .int .i64 (loads.length : Int)), (67, .int .i64 (k51 : Int))]) ∧ Hp w.heap.size i w' (obS (α := Int) 3 v36 x35.1 :: obS (α := Int) 3 v27 x26.1 :: obS (α := Int) 3 v18 x17.1 :: []) ∧ Tr w.heap.size A40 w38 i w') (fun a ha => ⟨A40, ha.sub ⟨rfl, rfl, rfl, rfl, rfl, rfl, trivial⟩, ⟨hH, Tr.refl hA⟩⟩) ?_
            rintro K k51 _ a w58 ⟨A59, ha147, hH60, hr50⟩ hle64 K67 h66
            refine C_of ?_ ha147
            replace h8 := El.tr h8 hr50
            replace h_loads := Sl.tr h_loads hr50
            replace hK := Tr.trans hK hr50
            replace hB := Nat.le_trans hB hr50.ex.size
            replace hA := hr50.new
            replace hH : Hp w.heap.size A59 w58 (obS (α := Int) 3 v36 x35.1 :: obS (α := Int) 3 v27 x26.1 :: obS (α := Int) 3 v18 x17.1 :: []) := hH60
            refine C_seq (C_region (V_y (Y_lss rfl rfl) rfl rfl rfl (V_to (fun _ _ => rfl) ?_)))
            refine C_seq ?_
            refine C_cond rfl (fun hc69 => ?_) (fun hc69 => ?_)
            · have hlt65 := lt_of_dec hc69
              obtain ⟨x61, h62, h63⟩ := K67 hlt65
              refine C_skip_to (fun _ _ => rfl) ?_
              refine C_seq ?_
              obtain ⟨o70, ho70, h62⟩ := Option.bind_eq_some_iff.1 h62
              refine C_cutG (ι := (Unit × (Nat → Prop))) (fun ⟨s71, A76⟩ => [(4, .pointer (some ⟨b5, 0, none⟩)), (7, v18), (10, v36), (65, v_loads), (66, .int .i64 (loads.length : Int)), (67, .int .i64 (k51 : Int))]) (fun ⟨s71, A76⟩ => fun w' => o70 = .fin s71 ∧ Hp w.heap.size A76 w' (obS (α := Int) 3 v36 x35.1 :: obS (α := Int) 3 v27 x26.1 :: obS (α := Int) 3 v18 x17.1 :: []) ∧ Tr w.heap.size A59 w58 A76 w') ?_ ?_
              · have hr72 : Tr w.heap.size A59 w58 A59 w58 := Tr.refl hA
                refine C_block ?_
                refine C_seq ?_
                refine C_region ?_
                refine V_y (Y_move rfl) rfl rfl rfl ?_
                obtain ⟨x78, hx78, ho70⟩ := Option.bind_eq_some_iff.1 ho70
                refine V_indexAddr h_loads hx78 Tryd.underlying22 Tryd.sizeOf34 rfl rfl rfl ?_
                intro b79 o80 h81
                obtain ⟨h82, _⟩ := El_staff_Load h81
                refine V_y (Y_loadA h82 Tryd.isAgg34 Tryd.sizeOf34 rfl) rfl rfl rfl ?_
                refine V_alloc Tryd.zeroValue34 rfl ?_
                intro b83 w84 h85
                refine V_y (Y_assign rfl) rfl rfl rfl ?_
                refine V_storeNew h85 Tryd.sizeOf34 rfl rfl rfl rfl (by exact (List.forall_mem_cons.2 ⟨rfl, (List.forall_mem_cons.2 ⟨rfl, (List.forall_mem_cons.2 ⟨rfl, (fun _ h => nomatch h)⟩)⟩)⟩)) ?_
                intro w86 h87
                have hk89 := h87.kp
                have h88 : El (α := staff_Load) A59 w86 b83 0 x78 := h87.el hA ⟨[.int .i64 x78.calls], _, rfl, rfl, ⟨[.int .i64 x78.length], _, rfl, rfl, rfl⟩⟩
                have ht90 := Kp.tr hk89 hA hB
                replace hH := Hp.kp hH hk89
                replace h8 := El.tr h8 ht90
                replace h_loads := Sl.tr h_loads ht90
                replace h81 := El.tr h81 ht90
                replace hK := Tr.trans hK ht90
                replace hr50 := Tr.trans hr50 ht90
                replace hr72 := Tr.trans hr72 ht90
                replace hB := Nat.le_trans hB ht90.ex.size
                replace hA := ht90.new
                refine V_to (fun _ _ => rfl) ?_
                refine C_seq ?_
                refine C_seq ?_
                refine C_region_q Tryd_mixed (by kernel_rfl) ?_
                refine VQ_y (fun w' hw' => Y_move rfl) rfl rfl rfl ?_
                refine VQ_y (fun w' hw' => Y_move rfl) rfl rfl rfl ?_
                obtain ⟨x91, hx91, ho70⟩ := Option.bind_eq_some_iff.1 ho70
                refine VQ_indexAddrH (α := Int) (e := 3) (v := v36) (l := x35.1) hH (i := 0) rfl hx91 Tryd.underlying27 Tryd.sizeOf3 rfl rfl rfl ?_
                intro b92 o93 h94 hl95
                refine VQ_y (fun w' hw' => Y_load (El.int (El.kp h94 hw')) Tryd.isAgg3 rfl) rfl rfl rfl ?_
                refine VQ_y (fun w' hw' => Y_move rfl) rfl rfl rfl ?_
                refine VQ_y (fun w' hw' => Y_move rfl) rfl rfl rfl ?_
                obtain ⟨x96, hx96, ho70⟩ := Option.bind_eq_some_iff.1 ho70
                refine VQ_indexAddrH (α := Int) (e := 3) (v := v18) (l := x17.1) hH (i := 2) rfl hx96 Tryd.underlying27 Tryd.sizeOf3 rfl rfl rfl ?_
                intro b97 o98 h99 hl100
                refine VQ_y (fun w' hw' => Y_load (El.int (El.kp h99 hw')) Tryd.isAgg3 rfl) rfl rfl rfl ?_
                refine VQ_y (fun w' hw' => Y_lss rfl rfl) rfl rfl rfl ?_
                refine VQ_to (fun _ _ => rfl) (fun w101 hk102 => ?_)
                have ht103 := Kp.tr hk102 hA hB
                replace hH := Hp.kp hH hk102
                replace h8 := El.tr h8 ht103
                replace h_loads := Sl.tr h_loads ht103
                replace h88 := El.tr h88 ht103
                replace hK := Tr.trans hK ht103
                replace hr50 := Tr.trans hr50 ht103
                replace hr72 := Tr.trans hr72 ht103
                replace hB := Nat.le_trans hB ht103.ex.size
                replace hA := ht103.new
                refine C_cond rfl (fun hc104 => ?_) (fun hc104 => ?_)
                · rw [if_pos hc104] at ho70
                  refine C_seq ?_
                  refine C_region ?_
                  refine V_y (Y_assign rfl) rfl rfl rfl ?_
                  refine V_to (fun _ _ => rfl) ?_
                  obtain rfl := Option.some.inj ho70
                  rw [Lp.andThen_rt] at h62
                  obtain rfl := Option.some.inj h62
                  obtain rfl := (h63 : Lp.rt _ = _)
                  rw [Lp.andThen_rt] at hm
                  obtain rfl := Option.some.inj hm
                  refine C_ret ?_
                  try simp only [↓inBlock_ret, ↓then_ret]
                  exact retQ rfl (Res.one Tryd.results3 rfl) ⟨rfl, hK.kp⟩
                · rw [if_neg (nt hc104)] at ho70
                  refine C_skip_to (fun _ _ => rfl) ?_
                  refine C_seq ?_
                  refine C_seq ?_
                  refine C_region_q Tryd_mixed (by kernel_rfl) ?_
                  obtain ⟨h105, _⟩ := El_staff_Load h88
                  refine VQ_y (fun w' hw' => Y_loadA (At.kp h105 hw' h88.2.1) Tryd.isAgg34 Tryd.sizeOf34 rfl) rfl rfl rfl ?_
                  obtain ⟨h106, _⟩ := El_staff_Promise h8
                  refine VQ_y (fun w' hw' => Y_loadA (At.kp h106 hw' h8.2.1) Tryd.isAgg24 Tryd.sizeOf24 rfl) rfl rfl rfl ?_
                  refine VQ_y (fun w' hw' => Y_move rfl) rfl rfl rfl ?_
                  refine VQ_y (fun w' hw' => Y_move rfl) rfl rfl rfl ?_
                  refine VQ_indexAddrH (α := Int) (e := 3) (v := v36) (l := x35.1) hH (i := 0) rfl hx91 Tryd.underlying27 Tryd.sizeOf3 rfl rfl rfl ?_
                  intro b107 o108 h109 hl110
                  refine VQ_y (fun w' hw' => Y_load (El.int (El.kp h109 hw')) Tryd.isAgg3 rfl) rfl rfl rfl ?_
                  refine VQ_y (fun w' hw' => Y_min2 rfl rfl) rfl rfl rfl ?_
                  obtain ⟨x111, hx111, ho70⟩ := Option.bind_eq_some_iff.1 ho70
                  refine VQ_call (.tuple #[.bool x111.1, .int .i64 x111.2]) Tryd.call8 rfl rfl rfl rfl (fun w' hw' => (staff_Keeps_c w' (fun b hb => hA b (Nat.le_trans hw'.size hb)) x78 p (if 60 < x91 then 60 else x91) hx111).mono (fun _ _ h => ⟨h.1, Kp.trans hw' h.2⟩)) ?_
                  refine VQ_y (fun w' hw' => Y_move rfl) rfl rfl rfl ?_
                  refine VQ_y (fun w' hw' => Y_extract rfl rfl) rfl rfl rfl ?_
                  refine VQ_y (fun w' hw' => Y_extract rfl rfl) rfl rfl rfl ?_
                  refine VQ_y (fun w' hw' => Y_assign rfl) rfl rfl rfl ?_
                  refine VQ_y (fun w' hw' => Y_assign rfl) rfl rfl rfl ?_
                  refine VQ_to (fun _ _ => rfl) (fun w112 hk113 => ?_)
                  have ht114 := Kp.tr hk113 hA hB
                  replace hH := Hp.kp hH hk113
                  replace h8 := El.tr h8 ht114
                  replace h_loads := Sl.tr h_loads ht114
                  replace h88 := El.tr h88 ht114
                  replace hK := Tr.trans hK ht114
                  replace hr50 := Tr.trans hr50 ht114
                  replace hr72 := Tr.trans hr72 ht114
                  replace hB := Nat.le_trans hB ht114.ex.size
                  replace hA := ht114.new
                  refine C_seq ?_
                  refine C_region ?_
                  refine V_y (Y_move rfl) rfl rfl rfl ?_
                  refine V_y (Y_not rfl) rfl rfl rfl ?_
                  refine V_y (Y_move rfl) rfl rfl rfl ?_
                  refine V_cut 3 (fun _ : Unit => [(4, .pointer (some ⟨b5, 0, none⟩)), (7, v18), (10, v36), (11, .int .i64 (k51 : Int)), (12, .pointer (some ⟨b83, 0, none⟩)), (65, v_loads), (66, .int .i64 (loads.length : Int)), (67, .int .i64 (k51 : Int)), (97, .bool ((!x111.1) || (x111.2 != 0)))]) (fun _ w' => w112 = w') ?_ ?_
                  · simp only [List.take, List.drop]
                    rcases Bool.eq_false_or_eq_true (!x111.1) with hc115 | hc115
                    · refine V_gn rfl rfl rfl hc115 rfl rfl rfl ?_
                      refine V_gn rfl rfl rfl hc115 rfl rfl rfl ?_
                      refine V_y (Y_pick_te rfl hc115 rfl) rfl rfl rfl ?_
                      exact V_end fun a ha => ⟨(), ha.sub ⟨rfl, rfl, rfl, rfl, rfl, rfl, rfl, rfl, (by rw [hc115]; rfl), trivial⟩, rfl⟩
                    · refine V_ge rfl rfl rfl hc115 ?_
                      refine V_y (Y_move rfl) rfl rfl rfl ?_
                      refine V_ge rfl rfl rfl hc115 ?_
                      refine V_y (Y_neq rfl rfl) rfl rfl rfl ?_
                      refine V_y (Y_pick_fe rfl hc115 rfl) rfl rfl rfl ?_
                      exact V_end fun a ha => ⟨(), ha.sub ⟨rfl, rfl, rfl, rfl, rfl, rfl, rfl, rfl, (by rw [hc115]; rfl), trivial⟩, rfl⟩
                  simp only [List.take, List.drop]
                  rintro _ _ rfl
                  refine V_to (fun _ _ => rfl) ?_
                  refine C_cond rfl (fun hc117 => ?_) (fun hc117 => ?_)
                  · rw [if_pos hc117] at ho70
                    refine C_seq ?_
                    refine C_region ?_
                    refine V_y (Y_assign rfl) rfl rfl rfl ?_
                    refine V_to (fun _ _ => rfl) ?_
                    obtain rfl := Option.some.inj ho70
                    rw [Lp.andThen_rt] at h62
                    obtain rfl := Option.some.inj h62
                    obtain rfl := (h63 : Lp.rt _ = _)
                    rw [Lp.andThen_rt] at hm
                    obtain rfl := Option.some.inj hm
                    refine C_ret ?_
                    try simp only [↓inBlock_ret, ↓then_ret]
                    exact retQ rfl (Res.one Tryd.results3 rfl) ⟨rfl, hK.kp⟩
                  · rw [if_neg (nt hc117)] at ho70
                    refine C_skip_to (fun _ _ => rfl) ?_
                    refine C_seq ?_
                    refine C_region ?_
                    refine V_y (Y_move rfl) rfl rfl rfl ?_
                    refine V_y (Y_move rfl) rfl rfl rfl ?_
                    refine V_indexAddrH (α := Int) (e := 3) (v := v18) (l := x17.1) hH (i := 2) rfl hx96 Tryd.underlying27 Tryd.sizeOf3 rfl rfl rfl ?_
                    intro b118 o119 h120 hl121
                    refine V_y (Y_load (El.int h120) Tryd.isAgg3 rfl) rfl rfl rfl ?_
                    refine V_y (Y_gtr rfl rfl) rfl rfl rfl ?_
                    refine V_to (fun _ _ => rfl) ?_
                    obtain ⟨o122, ho122, ho70⟩ := Option.bind_eq_some_iff.1 ho70
                    refine C_cutG (ι := (Unit × (Nat → Prop))) (fun ⟨s123, A128⟩ => [(4, .pointer (some ⟨b5, 0, none⟩)), (7, v18), (10, v36), (65, v_loads), (66, .int .i64 (loads.length : Int)), (67, .int .i64 (k51 : Int))]) (fun ⟨s123, A128⟩ => fun w' => o122 = .fin s123 ∧ Hp w.heap.size A128 w' (obS (α := Int) 3 v36 x35.1 :: obS (α := Int) 3 v27 x26.1 :: obS (α := Int) 3 v18 x17.1 :: []) ∧ Tr w.heap.size A59 w112 A128 w') ?_ ?_
                    · have hr124 : Tr w.heap.size A59 w112 A59 w112 := Tr.refl hA
                      refine C_cond rfl (fun hc130 => ?_) (fun hc130 => ?_)
                      · rw [if_pos hc130] at ho122
                        refine C_seq ?_
                        refine C_region_q Tryd_mixed (by kernel_rfl) ?_
                        obtain ⟨h131, _⟩ := El_staff_Load h88
                        refine VQ_y (fun w' hw' => Y_loadA (At.kp h131 hw' h88.2.1) Tryd.isAgg34 Tryd.sizeOf34 rfl) rfl rfl rfl ?_
                        obtain ⟨h132, _⟩ := El_staff_Promise h8
                        refine VQ_y (fun w' hw' => Y_loadA (At.kp h132 hw' h8.2.1) Tryd.isAgg24 Tryd.sizeOf24 rfl) rfl rfl rfl ?_
                        refine VQ_y (fun w' hw' => Y_move rfl) rfl rfl rfl ?_
                        refine VQ_y (fun w' hw' => Y_move rfl) rfl rfl rfl ?_
                        refine VQ_indexAddrH (α := Int) (e := 3) (v := v18) (l := x17.1) hH (i := 2) rfl hx96 Tryd.underlying27 Tryd.sizeOf3 rfl rfl rfl ?_
                        intro b133 o134 h135 hl136
                        refine VQ_y (fun w' hw' => Y_load (El.int (El.kp h135 hw')) Tryd.isAgg3 rfl) rfl rfl rfl ?_
                        refine VQ_y (fun w' hw' => Y_subI rfl rfl) rfl rfl rfl ?_
                        obtain ⟨x137, hx137, ho122⟩ := Option.bind_eq_some_iff.1 ho122
                        refine VQ_call (.tuple #[.bool x137.1, .int .i64 x137.2]) Tryd.call8 rfl rfl rfl rfl (fun w' hw' => (staff_Keeps_c w' (fun b hb => hA b (Nat.le_trans hw'.size hb)) x78 p (w64 (x96 - 1)) hx137).mono (fun _ _ h => ⟨h.1, Kp.trans hw' h.2⟩)) ?_
                        refine VQ_y (fun w' hw' => Y_move rfl) rfl rfl rfl ?_
                        refine VQ_y (fun w' hw' => Y_extract rfl rfl) rfl rfl rfl ?_
                        refine VQ_y (fun w' hw' => Y_extract rfl rfl) rfl rfl rfl ?_
                        refine VQ_y (fun w' hw' => Y_assign rfl) rfl rfl rfl ?_
                        refine VQ_y (fun w' hw' => Y_assign rfl) rfl rfl rfl ?_
                        refine VQ_to (fun _ _ => rfl) (fun w138 hk139 => ?_)
                        have ht140 := Kp.tr hk139 hA hB
                        replace hH := Hp.kp hH hk139
                        replace h8 := El.tr h8 ht140
                        replace h_loads := Sl.tr h_loads ht140
                        replace hK := Tr.trans hK ht140
                        replace hr50 := Tr.trans hr50 ht140
                        replace hr72 := Tr.trans hr72 ht140
                        replace hr124 := Tr.trans hr124 ht140
                        replace hB := Nat.le_trans hB ht140.ex.size
                        replace hA := ht140.new
                        refine C_seq ?_
                        refine C_region ?_
                        refine V_y (Y_move rfl) rfl rfl rfl ?_
                        refine V_to (fun _ _ => rfl) ?_
                        refine C_cond rfl (fun hc141 => ?_) (fun hc141 => ?_)
                        · rw [if_pos hc141] at ho122
                          refine C_seq ?_
                          refine C_region ?_
                          refine V_y (Y_assign rfl) rfl rfl rfl ?_
                          refine V_to (fun _ _ => rfl) ?_
                          obtain rfl := Option.some.inj ho122
                          rw [Lp.andThen_rt] at ho70
                          obtain rfl := Option.some.inj ho70
                          rw [Lp.andThen_rt] at h62
                          obtain rfl := Option.some.inj h62
                          obtain rfl := (h63 : Lp.rt _ = _)
                          rw [Lp.andThen_rt] at hm
                          obtain rfl := Option.some.inj hm
                          refine C_ret ?_
                          try simp only [↓inBlock_ret, ↓then_ret]
                          exact retQ rfl (Res.one Tryd.results3 rfl) ⟨rfl, hK.kp⟩
                        · rw [if_neg (nt hc141)] at ho122
                          obtain rfl := Option.some.inj ho122
                          refine C_skip (fun a ha142 => ?_)
                          exact ⟨((), A59), ha142.sub ⟨rfl, rfl, rfl, rfl, rfl, rfl, trivial⟩, ⟨rfl, hH, hr124⟩⟩
                      · rw [if_neg (nt hc130)] at ho122
                        obtain rfl := Option.some.inj ho122
                        refine C_skip (fun a ha143 => ?_)
                        exact ⟨((), A59), ha143.sub ⟨rfl, rfl, rfl, rfl, rfl, rfl, trivial⟩, ⟨rfl, hH, hr124⟩⟩
                    rintro ⟨s123, A128⟩ w125 ⟨rfl, hH129, hk126⟩ a ha127
                    rw [Lp.andThen_fin] at ho70
                    replace h8 := El.tr h8 hk126
                    replace h_loads := Sl.tr h_loads hk126
                    replace hK := Tr.trans hK hk126
                    replace hr50 := Tr.trans hr50 hk126
                    replace hr72 := Tr.trans hr72 hk126
                    replace hB := Nat.le_trans hB hk126.ex.size
                    replace hA := hk126.new
                    replace hH : Hp w.heap.size A128 w125 (obS (α := Int) 3 v36 x35.1 :: obS (α := Int) 3 v27 x26.1 :: obS (α := Int) 3 v18 x17.1 :: []) := hH129
                    obtain rfl := Option.some.inj ho70
                    exact ⟨((), A128), ha127.sub ⟨rfl, rfl, rfl, rfl, rfl, rfl, trivial⟩, ⟨rfl, hH, hr72⟩⟩
              rintro ⟨s71, A76⟩ w73 ⟨rfl, hH77, hk74⟩ a ha75
              rw [Lp.andThen_fin] at h62
              replace h8 := El.tr h8 hk74
              replace h_loads := Sl.tr h_loads hk74
              replace hK := Tr.trans hK hk74
              replace hr50 := Tr.trans hr50 hk74
              replace hB := Nat.le_trans hB hk74.ex.size
              replace hA := hk74.new
              replace hH : Hp w.heap.size A76 w73 (obS (α := Int) 3 v36 x35.1 :: obS (α := Int) 3 v27 x26.1 :: obS (α := Int) 3 v18 x17.1 :: []) := hH77
              refine C_at (n := ⟨116, [], none⟩) (fun _ _ => rfl) ?_ ha75
              refine C_region ?_
              refine V_y (Y_addI rfl rfl) rfl rfl rfl ?_
              refine V_y (Y_move rfl) rfl rfl rfl ?_
              obtain rfl := Option.some.inj h62
              refine V_end (fun a ha145 => ?_)
              exact ⟨(), hlt65, h63, ⟨A76, ha145.sub ⟨rfl, rfl, rfl, rfl, rfl, (congrArg (fun z => some (Value.int .i64 z)) (w64_succ hlt65 hn68)), trivial⟩, ⟨hH, hr50⟩⟩⟩
            · refine C_exit (fun a ha146 => ?_)
              exact ⟨((), A59), ha146.sub trivial, ⟨(h66 (eq_of_dec hle64 hc69)).symm, hH, hr50⟩⟩
          rintro ⟨s49, A55⟩ w52 ⟨rfl, hH56, hk53⟩ a ha54
          rw [Lp.andThen_fin] at hm
          replace hK := Tr.trans hK hk53
          replace hB := Nat.le_trans hB hk53.ex.size
          replace hA := hk53.new
          replace hH : Hp w.heap.size A55 w52 (obS (α := Int) 3 v36 x35.1 :: obS (α := Int) 3 v27 x26.1 :: obS (α := Int) 3 v18 x17.1 :: []) := hH56
          refine C_at (n := ⟨116, [], none⟩) (fun _ _ => rfl) ?_ ha54
          refine C_seq ?_
          refine C_region ?_
          refine V_y (Y_assign rfl) rfl rfl rfl ?_
          refine V_to (fun _ _ => rfl) ?_
          obtain rfl := Option.some.inj hm
          refine C_ret ?_
          try simp only [↓inBlock_ret, ↓then_ret]
          exact retQ rfl (Res.one Tryd.results3 rfl) ⟨rfl, hK.kp⟩

end Go.Proofs.YtcehkbhloaeflaaDoor.W
