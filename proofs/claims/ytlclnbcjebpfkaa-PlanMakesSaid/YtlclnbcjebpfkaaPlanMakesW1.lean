/-
  Written by program (gen.py) from the IR of the dump: each function computes its model.
-/
import Derived.Test.YtlclnbcjebpfkaaPlanMakesW0
namespace Go.Proofs.Ytlclnbcjebpfkaa.W
open Go Go.RowKit Go.Pu Go.Gw Go.Proofs Go.Proofs.Ytlclnbcjebpfkaa.M
set_option linter.unusedVariables false

set_option maxRecDepth 4000 in
set_option maxHeartbeats 4000000 in
theorem portref2_cover_c (w : World) {A : Nat → Prop} (hA : ∀ b, w.heap.size ≤ b → A b) (forms : (List staff_Form)) (v_forms : Value) (h_forms : Sl A w v_forms forms) (slots : Int) (plan : (List Int)) (v_plan : Value) (h_plan : Sl A w v_plan plan) {r : (List Int)} (hm : portref2_cover forms slots plan = some r) : Ret Try.prog 43 #[v_forms, .int .i64 slots, v_plan] w fun v w' => ∃ s0, v = s0 ∧ Ownd 3 w w' s0 r ∧ Kp w w' := by
  unfold portref2_cover at hm
  refine enter Try.func43 rfl Try.ntmps43 rfl ?_
  have hA0 := hA
  have hB := Nat.le_refl w.heap.size
  have hK : Tr w.heap.size A w A w := Tr.refl hA
  have hH : Hp w.heap.size A w [] := Hp.nil
  refine C_seq ?_
  refine C_region ?_
  refine V_y (Y_assign rfl) rfl rfl rfl ?_
  refine V_to (fun _ _ => rfl) ?_
  refine C_seq ?_
  refine C_region ?_
  refine V_y (Y_move rfl) rfl rfl rfl ?_
  obtain ⟨x5, hx5, hm⟩ := Option.bind_eq_some_iff.1 hm
  refine V_makeH (e := 3) (ti := Try.t3) hH hx5 (fun _ _ => rfl) Try.underlying22 Try_info3 rfl rfl rfl (by decide) (by decide) hB hA rfl rfl rfl ?_
  intro v6 w7 A8 hH9 ht10
  replace h_forms := Sl.tr h_forms ht10
  replace h_plan := Sl.tr h_plan ht10
  replace hK := Tr.trans hK ht10
  replace hB := Nat.le_trans hB ht10.ex.size
  replace hA := ht10.new
  replace hH : Hp w.heap.size A8 w7 (obS (α := Int) 3 v6 x5 :: []) := hH9
  refine V_y (Y_assign rfl) rfl rfl rfl ?_
  refine V_to (fun _ _ => rfl) ?_
  refine C_seq ?_
  refine C_seq ?_
  refine C_region ?_
  refine V_y (Y_move rfl) rfl rfl rfl ?_
  refine V_y (Y_lenSl h_forms rfl Try.underlying27 rfl) rfl rfl rfl ?_
  refine V_y (Y_move rfl) rfl rfl rfl ?_
  refine V_to (fun _ _ => rfl) ?_
  have hn35 := Sl.le h_forms
  obtain ⟨o11, ho11, hm⟩ := Option.bind_eq_some_iff.1 hm
  refine C_cutG (ι := ((List Int) × Value × (Nat → Prop))) (fun ⟨s12, v18, A20⟩ => [(7, v18)]) (fun ⟨s12, v18, A20⟩ => fun w' => o11 = .fin s12 ∧ Hp w.heap.size A20 w' (obS (α := Int) 3 v18 s12 :: []) ∧ Tr w.heap.size A8 w7 A20 w') ?_ ?_
  · refine C_block ?_
    refine C_range ho11 (fun k14 s22 a w' => ∃ i : (Value × (Nat → Prop)), Has ⟨50, [], none⟩ a ([(1, .int .i64 slots), (2, v_plan), (7, i.1), (13, v_forms), (14, .int .i64 (forms.length : Int)), (15, .int .i64 (k14 : Int))]) ∧ Hp w.heap.size i.2 w' (obS (α := Int) 3 i.1 s22 :: []) ∧ Tr w.heap.size A8 w7 i.2 w') (fun a ha => ⟨(v6, A8), ha.sub ⟨rfl, rfl, rfl, rfl, rfl, rfl, trivial⟩, ⟨hH, Tr.refl hA⟩⟩) ?_
    rintro K k14 s22 a w23 ⟨⟨v24, A26⟩, ha141, hH27, hr13⟩ hle31 K34 h33
    refine C_of ?_ ha141
    replace h_plan := Sl.tr h_plan hr13
    replace h_forms := Sl.tr h_forms hr13
    replace hK := Tr.trans hK hr13
    replace hB := Nat.le_trans hB hr13.ex.size
    replace hA := hr13.new
    replace hH : Hp w.heap.size A26 w23 (obS (α := Int) 3 v24 s22 :: []) := hH27
    refine C_seq (C_region (V_y (Y_lss rfl rfl) rfl rfl rfl (V_to (fun _ _ => rfl) ?_)))
    refine C_seq ?_
    refine C_cond rfl (fun hc36 => ?_) (fun hc36 => ?_)
    · have hlt32 := lt_of_dec hc36
      obtain ⟨x28, h29, h30⟩ := K34 hlt32
      refine C_skip_to (fun _ _ => rfl) ?_
      refine C_seq ?_
      obtain ⟨s38, ho37, h29⟩ := Option.bind_eq_some_iff.1 h29
      refine C_cutG (ι := (Value × (Nat → Prop))) (fun ⟨v40, A45⟩ => [(1, .int .i64 slots), (2, v_plan), (7, v40), (13, v_forms), (14, .int .i64 (forms.length : Int)), (15, .int .i64 (k14 : Int))]) (fun ⟨v40, A45⟩ => fun w' => Hp w.heap.size A45 w' (obS (α := Int) 3 v40 s38 :: []) ∧ Tr w.heap.size A26 w23 A45 w') ?_ ?_
      · have hr39 : Tr w.heap.size A26 w23 A26 w23 := Tr.refl hA
        refine C_block ?_
        refine C_seq ?_
        refine C_region ?_
        refine V_y (Y_move rfl) rfl rfl rfl ?_
        obtain ⟨x47, hx47, ho37⟩ := Option.bind_eq_some_iff.1 ho37
        refine V_indexAddr h_forms hx47 Try.underlying27 Try.sizeOf65 rfl rfl rfl ?_
        intro b48 o49 h50
        obtain ⟨h51, _⟩ := El_staff_Form h50
        refine V_y (Y_loadA h51 Try.isAgg65 Try.sizeOf65 rfl) rfl rfl rfl ?_
        refine V_alloc Try.zeroValue65 rfl ?_
        intro b52 w53 h54
        refine V_y (Y_assign rfl) rfl rfl rfl ?_
        refine V_storeNew h54 Try.sizeOf65 rfl rfl rfl rfl (by exact (List.forall_mem_cons.2 ⟨rfl, (List.forall_mem_cons.2 ⟨rfl, (fun _ h => nomatch h)⟩)⟩)) ?_
        intro w55 h56
        have hk58 := h56.kp
        have h57 : El (α := staff_Form) A26 w55 b52 0 x47 := h56.el hA ⟨[.int .i64 x47.from_], _, rfl, rfl, rfl⟩
        have ht59 := Kp.tr hk58 hA hB
        replace hH := Hp.kp hH hk58
        replace h_plan := Sl.tr h_plan ht59
        replace h_forms := Sl.tr h_forms ht59
        replace h50 := El.tr h50 ht59
        replace hK := Tr.trans hK ht59
        replace hr13 := Tr.trans hr13 ht59
        replace hr39 := Tr.trans hr39 ht59
        replace hB := Nat.le_trans hB ht59.ex.size
        replace hA := ht59.new
        refine V_to (fun _ _ => rfl) ?_
        refine C_seq ?_
        refine C_region ?_
        refine V_y (Y_move rfl) rfl rfl rfl ?_
        refine V_y (Y_move rfl) rfl rfl rfl ?_
        refine V_to (fun _ _ => rfl) ?_
        obtain ⟨o60, ho60, ho37⟩ := Option.bind_eq_some_iff.1 ho37
        refine C_cutG (ι := (((List Int) × Int) × Value × (Nat → Prop))) (fun ⟨s61, v68, A70⟩ => [(1, .int .i64 slots), (2, v_plan), (7, v68), (13, v_forms), (14, .int .i64 (forms.length : Int)), (15, .int .i64 (k14 : Int))]) (fun ⟨s61, v68, A70⟩ => fun w' => o60 = .fin s61 ∧ Hp w.heap.size A70 w' (obS (α := Int) 3 v68 s61.1 :: []) ∧ Tr w.heap.size A26 w55 A70 w') ?_ ?_
        · refine C_block ?_
          refine C_while ho60 (fun s72 a w' => ∃ i : (Value × (Nat → Prop)), Has ⟨50, [], none⟩ a ([(1, .int .i64 slots), (2, v_plan), (7, i.1), (8, .int .i64 (k14 : Int)), (9, .pointer (some ⟨b52, 0, none⟩)), (13, v_forms), (14, .int .i64 (forms.length : Int)), (15, .int .i64 (k14 : Int)), (20, .int .i64 slots), (21, .int .i64 s72.2)]) ∧ Hp w.heap.size i.2 w' (obS (α := Int) 3 i.1 s72.1 :: []) ∧ Tr w.heap.size A26 w55 i.2 w') (fun a ha => ⟨(v24, A26), ha.sub ⟨rfl, rfl, rfl, rfl, rfl, rfl, rfl, rfl, rfl, rfl, trivial⟩, ⟨hH, Tr.refl hA⟩⟩) ?_
          rintro K s72 a w73 ⟨⟨v74, A76⟩, ha137, hH77, hr62⟩ K84
          refine C_of ?_ ha137
          replace h_plan := Sl.tr h_plan hr62
          replace h_forms := Sl.tr h_forms hr62
          replace h57 := El.tr h57 hr62
          replace hK := Tr.trans hK hr62
          replace hr13 := Tr.trans hr13 hr62
          replace hr39 := Tr.trans hr39 hr62
          replace hB := Nat.le_trans hB hr62.ex.size
          replace hA := hr62.new
          replace hH : Hp w.heap.size A76 w73 (obS (α := Int) 3 v74 s72.1 :: []) := hH77
          obtain ⟨x78, h79, h80⟩ := K84
          refine C_seq ?_
          refine C_region ?_
          refine V_y (Y_lss rfl rfl) rfl rfl rfl ?_
          refine V_to (fun _ _ => rfl) ?_
          refine C_seq ?_
          refine C_cond rfl (fun hc85 => ?_) (fun hc85 => ?_)
          · rw [if_pos hc85] at h79
            refine C_skip_to (fun _ _ => rfl) ?_
            refine C_seq ?_
            obtain ⟨s87, ho86, h79⟩ := Option.bind_eq_some_iff.1 h79
            refine C_cutG (ι := (Value × (Nat → Prop))) (fun ⟨v89, A94⟩ => [(1, .int .i64 slots), (2, v_plan), (7, v89), (8, .int .i64 (k14 : Int)), (9, .pointer (some ⟨b52, 0, none⟩)), (13, v_forms), (14, .int .i64 (forms.length : Int)), (15, .int .i64 (k14 : Int)), (20, .int .i64 slots), (21, .int .i64 s72.2)]) (fun ⟨v89, A94⟩ => fun w' => Hp w.heap.size A94 w' (obS (α := Int) 3 v89 s87 :: []) ∧ Tr w.heap.size A76 w73 A94 w') ?_ ?_
            · have hr88 : Tr w.heap.size A76 w73 A76 w73 := Tr.refl hA
              refine C_block ?_
              refine C_seq ?_
              refine C_region ?_
              refine V_y (Y_move rfl) rfl rfl rfl ?_
              refine V_y (Y_assign rfl) rfl rfl rfl ?_
              refine V_to (fun _ _ => rfl) ?_
              refine C_seq ?_
              refine C_region ?_
              refine V_y (Y_move rfl) rfl rfl rfl ?_
              have h96 := El_staff_Form_0 h57
              refine V_y (Y_fieldAddr Try.underlying65 rfl Try.sizeOf3 (by decide) rfl) rfl rfl rfl ?_
              refine V_y (Y_load (El.int h96) Try.isAgg3 rfl) rfl rfl rfl ?_
              refine V_y (Y_geq rfl rfl) rfl rfl rfl ?_
              refine V_y (Y_move rfl) rfl rfl rfl ?_
              refine V_cut 8 (fun _ : Unit => [(1, .int .i64 slots), (2, v_plan), (7, v74), (8, .int .i64 (k14 : Int)), (9, .pointer (some ⟨b52, 0, none⟩)), (10, .int .i64 s72.2), (13, v_forms), (14, .int .i64 (forms.length : Int)), (15, .int .i64 (k14 : Int)), (20, .int .i64 slots), (21, .int .i64 s72.2), (36, .bool ((decide (x47.from_ ≤ s72.2)) && (decide (s72.2 < (w64 (x47.from_ + x47.slots))))))]) (fun _ w' => w73 = w') ?_ ?_
              · simp only [List.take, List.drop]
                rcases Bool.eq_false_or_eq_true (decide (x47.from_ ≤ s72.2)) with hc97 | hc97
                · refine V_ge rfl rfl rfl hc97 ?_
                  refine V_y (Y_move rfl) rfl rfl rfl ?_
                  refine V_ge rfl rfl rfl hc97 ?_
                  have h99 := El_staff_Form_0 h57
                  refine V_y (Y_fieldAddr Try.underlying65 rfl Try.sizeOf3 (by decide) rfl) rfl rfl rfl ?_
                  refine V_ge rfl rfl rfl hc97 ?_
                  refine V_y (Y_load (El.int h99) Try.isAgg3 rfl) rfl rfl rfl ?_
                  refine V_ge rfl rfl rfl hc97 ?_
                  have h100 := El_staff_Form_1 h57
                  refine V_y (Y_fieldAddr Try.underlying65 rfl Try.sizeOf3 (by decide) rfl) rfl rfl rfl ?_
                  refine V_ge rfl rfl rfl hc97 ?_
                  refine V_y (Y_load (El.int h100) Try.isAgg3 rfl) rfl rfl rfl ?_
                  refine V_ge rfl rfl rfl hc97 ?_
                  refine V_y (Y_addI rfl rfl) rfl rfl rfl ?_
                  refine V_ge rfl rfl rfl hc97 ?_
                  refine V_y (Y_lss rfl rfl) rfl rfl rfl ?_
                  refine V_y (Y_pick_te rfl hc97 rfl) rfl rfl rfl ?_
                  exact V_end fun a ha => ⟨(), ha.sub ⟨rfl, rfl, rfl, rfl, rfl, rfl, rfl, rfl, rfl, rfl, rfl, (by rw [hc97]; rfl), trivial⟩, rfl⟩
                · refine V_gn rfl rfl rfl hc97 rfl rfl rfl ?_
                  refine V_gn rfl rfl rfl hc97 rfl rfl rfl ?_
                  refine V_gn rfl rfl rfl hc97 rfl rfl rfl ?_
                  refine V_gn rfl rfl rfl hc97 rfl rfl rfl ?_
                  refine V_gn rfl rfl rfl hc97 rfl rfl rfl ?_
                  refine V_gn rfl rfl rfl hc97 rfl rfl rfl ?_
                  refine V_gn rfl rfl rfl hc97 rfl rfl rfl ?_
                  refine V_y (Y_pick_fe rfl hc97 rfl) rfl rfl rfl ?_
                  exact V_end fun a ha => ⟨(), ha.sub ⟨rfl, rfl, rfl, rfl, rfl, rfl, rfl, rfl, rfl, rfl, rfl, (by rw [hc97]; rfl), trivial⟩, rfl⟩
              simp only [List.take, List.drop]
              rintro _ _ rfl
              refine V_to (fun _ _ => rfl) ?_
              obtain ⟨s102, ho101, ho86⟩ := Option.bind_eq_some_iff.1 ho86
              refine C_cutG (ι := (Value × (Nat → Prop))) (fun ⟨v104, A109⟩ => [(1, .int .i64 slots), (2, v_plan), (7, v104), (8, .int .i64 (k14 : Int)), (9, .pointer (some ⟨b52, 0, none⟩)), (13, v_forms), (14, .int .i64 (forms.length : Int)), (15, .int .i64 (k14 : Int)), (20, .int .i64 slots), (21, .int .i64 s72.2)]) (fun ⟨v104, A109⟩ => fun w' => Hp w.heap.size A109 w' (obS (α := Int) 3 v104 s102 :: []) ∧ Tr w.heap.size A76 w73 A109 w') ?_ ?_
              · have hr103 : Tr w.heap.size A76 w73 A76 w73 := Tr.refl hA
                refine C_cond rfl (fun hc111 => ?_) (fun hc111 => ?_)
                · rw [if_pos hc111] at ho101
                  refine C_region_qt 10 Try_mixed (by kernel_rfl) ?_
                  simp only [List.take, List.drop]
                  refine VQ_y (fun w' hw' => Y_move rfl) rfl rfl rfl ?_
                  refine VQ_y (fun w' hw' => Y_move rfl) rfl rfl rfl ?_
                  obtain ⟨x112, hx112, ho101⟩ := Option.bind_eq_some_iff.1 ho101
                  refine VQ_indexAddrH (α := Int) (e := 3) (v := v74) (l := s72.1) hH (i := 0) rfl hx112 Try.underlying22 Try.sizeOf3 rfl rfl rfl ?_
                  intro b113 o114 h115 hl116
                  refine VQ_y (fun w' hw' => Y_load (El.int (El.kp h115 hw')) Try.isAgg3 rfl) rfl rfl rfl ?_
                  refine VQ_y (fun w' hw' => Y_move rfl) rfl rfl rfl ?_
                  refine VQ_y (fun w' hw' => Y_move rfl) rfl rfl rfl ?_
                  obtain ⟨x117, hx117, ho101⟩ := Option.bind_eq_some_iff.1 ho101
                  refine VQ_indexAddr h_plan hx117 Try.underlying22 Try.sizeOf3 rfl rfl rfl ?_
                  intro b118 o119 h120
                  refine VQ_y (fun w' hw' => Y_load (El.int (El.kp h120 hw')) Try.isAgg3 rfl) rfl rfl rfl ?_
                  refine VQ_y (fun w' hw' => Y_addI rfl rfl) rfl rfl rfl ?_
                  refine VQ_indexAddrH (α := Int) (e := 3) (v := v74) (l := s72.1) hH (i := 0) rfl hx112 Try.underlying22 Try.sizeOf3 rfl rfl rfl ?_
                  intro b121 o122 h123 hl124
                  refine VQ_tail (fun w125 hk126 => ?_)
                  try simp only [List.take, List.drop]
                  have ht127 := Kp.tr hk126 hA hB
                  replace hH := Hp.kp hH hk126
                  replace h_plan := Sl.tr h_plan ht127
                  replace h_forms := Sl.tr h_forms ht127
                  replace h57 := El.tr h57 ht127
                  replace h115 := El.kp h115 hk126
                  replace h120 := El.tr h120 ht127
                  replace h123 := El.kp h123 hk126
                  replace hK := Tr.trans hK ht127
                  replace hr13 := Tr.trans hr13 ht127
                  replace hr39 := Tr.trans hr39 ht127
                  replace hr62 := Tr.trans hr62 ht127
                  replace hr88 := Tr.trans hr88 ht127
                  replace hr103 := Tr.trans hr103 ht127
                  replace hB := Nat.le_trans hB ht127.ex.size
                  replace hA := ht127.new
                  obtain ⟨x128, hx128, ho101⟩ := Option.bind_eq_some_iff.1 ho101
                  refine V_storeH (α := Int) (e := 3) (v := v74) (l := s72.1) hH (i := 0) rfl hl124 hx128 rfl Try.sizeOf3 rfl hB hA rfl rfl ?_
                  intro w129 hH130 ht131
                  replace h_plan := Sl.tr h_plan ht131
                  replace h_forms := Sl.tr h_forms ht131
                  replace h57 := El.tr h57 ht131
                  replace h120 := El.tr h120 ht131
                  replace hK := Tr.trans hK ht131
                  replace hr13 := Tr.trans hr13 ht131
                  replace hr39 := Tr.trans hr39 ht131
                  replace hr62 := Tr.trans hr62 ht131
                  replace hr88 := Tr.trans hr88 ht131
                  replace hr103 := Tr.trans hr103 ht131
                  replace hB := Nat.le_trans hB ht131.ex.size
                  replace hA := ht131.new
                  replace hH : Hp w.heap.size A76 w129 (obS (α := Int) 3 v74 x128 :: []) := hH130
                  obtain rfl := Option.some.inj ho101
                  refine V_end (fun a ha132 => ?_)
                  exact ⟨(v74, A76), ha132.sub ⟨rfl, rfl, rfl, rfl, rfl, rfl, rfl, rfl, rfl, rfl, trivial⟩, ⟨hH, hr103⟩⟩
                · rw [if_neg (nt hc111)] at ho101
                  obtain rfl := Option.some.inj ho101
                  refine C_skip (fun a ha133 => ?_)
                  exact ⟨(v74, A76), ha133.sub ⟨rfl, rfl, rfl, rfl, rfl, rfl, rfl, rfl, rfl, rfl, trivial⟩, ⟨hH, hr103⟩⟩
              rintro ⟨v104, A109⟩ w106 ⟨hH110, hk107⟩ a ha108
              replace h_plan := Sl.tr h_plan hk107
              replace h_forms := Sl.tr h_forms hk107
              replace h57 := El.tr h57 hk107
              replace hK := Tr.trans hK hk107
              replace hr13 := Tr.trans hr13 hk107
              replace hr39 := Tr.trans hr39 hk107
              replace hr62 := Tr.trans hr62 hk107
              replace hr88 := Tr.trans hr88 hk107
              replace hB := Nat.le_trans hB hk107.ex.size
              replace hA := hk107.new
              replace hH : Hp w.heap.size A109 w106 (obS (α := Int) 3 v104 s102 :: []) := hH110
              obtain rfl := Option.some.inj ho86
              exact ⟨(v104, A109), ha108.sub ⟨rfl, rfl, rfl, rfl, rfl, rfl, rfl, rfl, rfl, rfl, trivial⟩, ⟨hH, hr88⟩⟩
            rintro ⟨v89, A94⟩ w91 ⟨hH95, hk92⟩ a ha93
            replace h_plan := Sl.tr h_plan hk92
            replace h_forms := Sl.tr h_forms hk92
            replace h57 := El.tr h57 hk92
            replace hK := Tr.trans hK hk92
            replace hr13 := Tr.trans hr13 hk92
            replace hr39 := Tr.trans hr39 hk92
            replace hr62 := Tr.trans hr62 hk92
            replace hB := Nat.le_trans hB hk92.ex.size
            replace hA := hk92.new
            replace hH : Hp w.heap.size A94 w91 (obS (α := Int) 3 v89 s87 :: []) := hH95
            refine C_at (n := ⟨50, [], none⟩) (fun _ _ => rfl) ?_ ha93
            refine C_region ?_
            refine V_y (Y_addI rfl rfl) rfl rfl rfl ?_
            refine V_y (Y_move rfl) rfl rfl rfl ?_
            obtain rfl := Option.some.inj h79
            refine V_end (fun a ha135 => ?_)
            exact ⟨(s87, w64 (s72.2 + 1)), h80, ⟨(v89, A94), ha135.sub ⟨rfl, rfl, rfl, rfl, rfl, rfl, rfl, rfl, rfl, rfl, trivial⟩, ⟨hH, hr62⟩⟩⟩
          · rw [if_neg (nt hc85)] at h79
            obtain rfl := Option.some.inj h79
            refine C_exit (fun a ha136 => ?_)
            exact ⟨((s72.1, s72.2), v74, A76), ha136.sub ⟨rfl, rfl, rfl, rfl, rfl, rfl, trivial⟩, ⟨h80.symm, hH, hr62⟩⟩
        rintro ⟨s61, v68, A70⟩ w65 ⟨rfl, hH71, hk66⟩ a ha67
        rw [Lp.andThen_fin] at ho37
        replace h_plan := Sl.tr h_plan hk66
        replace h_forms := Sl.tr h_forms hk66
        replace hK := Tr.trans hK hk66
        replace hr13 := Tr.trans hr13 hk66
        replace hr39 := Tr.trans hr39 hk66
        replace hB := Nat.le_trans hB hk66.ex.size
        replace hA := hk66.new
        replace hH : Hp w.heap.size A70 w65 (obS (α := Int) 3 v68 s61.1 :: []) := hH71
        obtain rfl := Option.some.inj ho37
        exact ⟨(v68, A70), ha67.sub ⟨rfl, rfl, rfl, rfl, rfl, rfl, trivial⟩, ⟨hH, hr39⟩⟩
      rintro ⟨v40, A45⟩ w42 ⟨hH46, hk43⟩ a ha44
      replace h_plan := Sl.tr h_plan hk43
      replace h_forms := Sl.tr h_forms hk43
      replace hK := Tr.trans hK hk43
      replace hr13 := Tr.trans hr13 hk43
      replace hB := Nat.le_trans hB hk43.ex.size
      replace hA := hk43.new
      replace hH : Hp w.heap.size A45 w42 (obS (α := Int) 3 v40 s38 :: []) := hH46
      refine C_at (n := ⟨50, [], none⟩) (fun _ _ => rfl) ?_ ha44
      refine C_region ?_
      refine V_y (Y_addI rfl rfl) rfl rfl rfl ?_
      refine V_y (Y_move rfl) rfl rfl rfl ?_
      obtain rfl := Option.some.inj h29
      refine V_end (fun a ha139 => ?_)
      exact ⟨s38, hlt32, h30, ⟨(v40, A45), ha139.sub ⟨rfl, rfl, rfl, rfl, rfl, (congrArg (fun z => some (Value.int .i64 z)) (w64_succ hlt32 hn35)), trivial⟩, ⟨hH, hr13⟩⟩⟩
    · refine C_exit (fun a ha140 => ?_)
      exact ⟨(s22, v24, A26), ha140.sub ⟨rfl, trivial⟩, ⟨(h33 (eq_of_dec hle31 hc36)).symm, hH, hr13⟩⟩
  rintro ⟨s12, v18, A20⟩ w15 ⟨rfl, hH21, hk16⟩ a ha17
  rw [Lp.andThen_fin] at hm
  replace hK := Tr.trans hK hk16
  replace hB := Nat.le_trans hB hk16.ex.size
  replace hA := hk16.new
  replace hH : Hp w.heap.size A20 w15 (obS (α := Int) 3 v18 s12 :: []) := hH21
  refine C_at (n := ⟨50, [], none⟩) (fun _ _ => rfl) ?_ ha17
  refine C_seq ?_
  refine C_region ?_
  refine V_y (Y_move rfl) rfl rfl rfl ?_
  refine V_y (Y_assign rfl) rfl rfl rfl ?_
  refine V_to (fun _ _ => rfl) ?_
  obtain rfl := Option.some.inj hm
  refine C_ret ?_
  try simp only [↓inBlock_ret, ↓then_ret]
  exact retQ rfl (Res.one Try.results43 rfl) ⟨v18, rfl, (Hp.ownd hH (i := 0) rfl), hK.kp⟩

set_option maxRecDepth 4000 in
set_option maxHeartbeats 4000000 in
theorem portref2_PlanOf_c (w : World) {A : Nat → Prop} (hA : ∀ b, w.heap.size ≤ b → A b) (forms : (List staff_Form)) (v_forms : Value) (h_forms : Sl A w v_forms forms) (demand : (List Int)) (v_demand : Value) (h_demand : Sl A w v_demand demand) {r : ((List Int) × Int)} (hm : portref2_PlanOf forms demand = some r) : Ret Try.prog 13 #[v_forms, v_demand] w fun v w' => ∃ s0, v = .tuple #[s0, .int .i64 r.2] ∧ Ownd 3 w w' s0 r.1 ∧ Kp w w' := by
  unfold portref2_PlanOf at hm
  refine enter Try.func13 rfl Try.ntmps13 rfl ?_
  have hA0 := hA
  have hB := Nat.le_refl w.heap.size
  have hK : Tr w.heap.size A w A w := Tr.refl hA
  have hH : Hp w.heap.size A w [] := Hp.nil
  refine C_seq ?_
  refine C_region ?_
  refine V_y (Y_assign rfl) rfl rfl rfl ?_
  refine V_y (Y_assign rfl) rfl rfl rfl ?_
  refine V_to (fun _ _ => rfl) ?_
  refine C_seq ?_
  refine C_seq ?_
  refine C_region ?_
  refine V_y (Y_move rfl) rfl rfl rfl ?_
  obtain ⟨x5, hx5, hm⟩ := Option.bind_eq_some_iff.1 hm
  refine V_call Try.call20 rfl rfl rfl rfl (portref2_FormsFault_c w hA forms v_forms h_forms hx5) ?_
  rintro _ w6 ⟨rfl, hk7⟩
  have ht8 := Kp.tr hk7 hA hB
  replace hH := Hp.kp hH hk7
  replace h_forms := Sl.tr h_forms ht8
  replace h_demand := Sl.tr h_demand ht8
  replace hK := Tr.trans hK ht8
  replace hB := Nat.le_trans hB ht8.ex.size
  replace hA := ht8.new
  refine V_y (Y_assign rfl) rfl rfl rfl ?_
  refine V_to (fun _ _ => rfl) ?_
  refine C_seq ?_
  refine C_region ?_
  refine V_y (Y_move rfl) rfl rfl rfl ?_
  refine V_y (Y_neq rfl rfl) rfl rfl rfl ?_
  refine V_to (fun _ _ => rfl) ?_
  refine C_cond rfl (fun hc9 => ?_) (fun hc9 => ?_)
  · rw [if_pos hc9] at hm
    refine C_seq ?_
    refine C_region ?_
    refine V_y (Y_move rfl) rfl rfl rfl ?_
    refine V_y (Y_assign rfl) rfl rfl rfl ?_
    refine V_y (Y_assign rfl) rfl rfl rfl ?_
    refine V_to (fun _ _ => rfl) ?_
    obtain rfl := Option.some.inj hm
    replace hH : Hp w.heap.size A w6 (obS (α := Int) 3 (.slice none 0 0) ([] : (List Int)) :: []) := Hp.addNil (α := Int) (e := 3) hH
    refine C_ret ?_
    try simp only [↓inBlock_ret, ↓then_ret]
    exact retQ rfl (Res.two Try.results13 rfl rfl) ⟨.slice none 0 0, rfl, (Hp.ownd hH (i := 0) rfl), hK.kp⟩
  · rw [if_neg (nt hc9)] at hm
    refine C_skip_to (fun _ _ => rfl) ?_
    refine C_seq ?_
    refine C_seq ?_
    refine C_region ?_
    refine V_y (Y_move rfl) rfl rfl rfl ?_
    obtain ⟨x10, hx10, hm⟩ := Option.bind_eq_some_iff.1 hm
    refine V_call Try.call39 rfl rfl rfl rfl (portref2_demandFault_c w6 hA demand v_demand h_demand 60 hx10) ?_
    rintro _ w11 ⟨rfl, hk12⟩
    have ht13 := Kp.tr hk12 hA hB
    replace hH := Hp.kp hH hk12
    replace h_forms := Sl.tr h_forms ht13
    replace h_demand := Sl.tr h_demand ht13
    replace hK := Tr.trans hK ht13
    replace hB := Nat.le_trans hB ht13.ex.size
    replace hA := ht13.new
    refine V_y (Y_assign rfl) rfl rfl rfl ?_
    refine V_to (fun _ _ => rfl) ?_
    refine C_seq ?_
    refine C_region ?_
    refine V_y (Y_move rfl) rfl rfl rfl ?_
    refine V_y (Y_neq rfl rfl) rfl rfl rfl ?_
    refine V_to (fun _ _ => rfl) ?_
    refine C_cond rfl (fun hc14 => ?_) (fun hc14 => ?_)
    · rw [if_pos hc14] at hm
      refine C_seq ?_
      refine C_region ?_
      refine V_y (Y_move rfl) rfl rfl rfl ?_
      refine V_y (Y_assign rfl) rfl rfl rfl ?_
      refine V_y (Y_assign rfl) rfl rfl rfl ?_
      refine V_to (fun _ _ => rfl) ?_
      obtain rfl := Option.some.inj hm
      replace hH : Hp w.heap.size A w11 (obS (α := Int) 3 (.slice none 0 0) ([] : (List Int)) :: []) := Hp.addNil (α := Int) (e := 3) hH
      refine C_ret ?_
      try simp only [↓inBlock_ret, ↓then_ret]
      exact retQ rfl (Res.two Try.results13 rfl rfl) ⟨.slice none 0 0, rfl, (Hp.ownd hH (i := 0) rfl), hK.kp⟩
    · rw [if_neg (nt hc14)] at hm
      refine C_skip_to (fun _ _ => rfl) ?_
      refine C_seq ?_
      refine C_region ?_
      refine V_alloc Try.zeroValue66 rfl ?_
      intro b15 w17 h18
      refine V_storeNew h18 Try.sizeOf66 rfl rfl rfl rfl (by simp [Value.cells, Value.oneCell']) ?_
      intro w19 h20
      have hk21 := h20.kp
      have h22 : Vb A w19 b15 (.func (.func 40) #[] #[]) := h20.vb hA rfl
      have ht23 := Kp.tr hk21 hA hB
      replace hH := Hp.kp hH hk21
      replace h_forms := Sl.tr h_forms ht23
      replace h_demand := Sl.tr h_demand ht23
      replace hK := Tr.trans hK ht23
      replace hB := Nat.le_trans hB ht23.ex.size
      replace hA := ht23.new
      refine V_to (fun _ _ => rfl) ?_
      refine C_seq ?_
      refine C_seq ?_
      refine C_region ?_
      refine V_y (Y_move rfl) rfl rfl rfl ?_
      refine V_y (Y_lenSl h_demand rfl Try.underlying22 rfl) rfl rfl rfl ?_
      refine V_y (Y_move rfl) rfl rfl rfl ?_
      refine V_to (fun _ _ => rfl) ?_
      have hn44 := Sl.le h_demand
      obtain ⟨o24, ho24, hm⟩ := Option.bind_eq_some_iff.1 hm
      refine C_cutG (ι := (Unit × (Nat → Prop))) (fun ⟨s25, A31⟩ => [(0, v_forms), (1, v_demand), (8, .pointer (some ⟨b15, 0, none⟩))]) (fun ⟨s25, A31⟩ => fun w' => o24 = .fin s25 ∧ Hp w.heap.size A31 w' ([]) ∧ Tr w.heap.size A w19 A31 w') ?_ ?_
      · refine C_block ?_
        refine C_range ho24 (fun k27 _ a w' => ∃ i : (Nat → Prop), Has ⟨109, [], none⟩ a ([(0, v_forms), (1, v_demand), (8, .pointer (some ⟨b15, 0, none⟩)), (27, v_demand), (28, .int .i64 (demand.length : Int)), (29, .int .i64 (k27 : Int))]) ∧ Hp w.heap.size i w' ([]) ∧ Tr w.heap.size A w19 i w') (fun a ha => ⟨A, ha.sub ⟨rfl, rfl, rfl, rfl, rfl, rfl, trivial⟩, ⟨hH, Tr.refl hA⟩⟩) ?_
        rintro K k27 _ a w34 ⟨A35, ha99, hH36, hr26⟩ hle40 K43 h42
        refine C_of ?_ ha99
        replace h_forms := Sl.tr h_forms hr26
        replace h_demand := Sl.tr h_demand hr26
        replace h22 := Vb.tr h22 hr26
        replace hK := Tr.trans hK hr26
        replace hB := Nat.le_trans hB hr26.ex.size
        replace hA := hr26.new
        replace hH : Hp w.heap.size A35 w34 ([]) := hH36
        refine C_seq (C_region (V_y (Y_lss rfl rfl) rfl rfl rfl (V_to (fun _ _ => rfl) ?_)))
        refine C_seq ?_
        refine C_cond rfl (fun hc45 => ?_) (fun hc45 => ?_)
        · have hlt41 := lt_of_dec hc45
          obtain ⟨x37, h38, h39⟩ := K43 hlt41
          refine C_skip_to (fun _ _ => rfl) ?_
          refine C_seq ?_
          refine C_block ?_
          refine C_seq ?_
          refine C_region ?_
          refine V_y (Y_move rfl) rfl rfl rfl ?_
          obtain ⟨x46, hx46, h38⟩ := Option.bind_eq_some_iff.1 h38
          refine V_indexAddr h_demand hx46 Try.underlying22 Try.sizeOf3 rfl rfl rfl ?_
          intro b47 o48 h49
          refine V_y (Y_load (El.int h49) Try.isAgg3 rfl) rfl rfl rfl ?_
          refine V_alloc Try.zeroValue3 rfl ?_
          intro b50 w51 h52
          refine V_storeNew h52 Try.sizeOf3 rfl rfl rfl rfl (by simp [Value.cells, Value.oneCell']) ?_
          intro w53 h54
          have hk56 := h54.kp
          have h55 : El (α := Int) A35 w53 b50 0 (k27 : Int) := h54.el hA rfl
          have ht57 := Kp.tr hk56 hA hB
          replace hH := Hp.kp hH hk56
          replace h_forms := Sl.tr h_forms ht57
          replace h_demand := Sl.tr h_demand ht57
          replace h22 := Vb.tr h22 ht57
          replace h49 := El.tr h49 ht57
          replace hK := Tr.trans hK ht57
          replace hr26 := Tr.trans hr26 ht57
          replace hB := Nat.le_trans hB ht57.ex.size
          replace hA := ht57.new
          refine V_y (Y_assign rfl) rfl rfl rfl ?_
          refine V_to (fun _ _ => rfl) ?_
          refine C_seq ?_
          obtain ⟨s59, ho58, h38⟩ := Option.bind_eq_some_iff.1 h38
          refine C_cutG (ι := (Nat → Prop)) (fun (A64 : (Nat → Prop)) => [(0, v_forms), (1, v_demand), (8, .pointer (some ⟨b15, 0, none⟩)), (27, v_demand), (28, .int .i64 (demand.length : Int)), (29, .int .i64 (k27 : Int)), (41, .bool s59)]) (fun (A64 : (Nat → Prop)) => fun w' => Hp w.heap.size A64 w' ([]) ∧ Tr w.heap.size A35 w53 A64 w') ?_ ?_
          · have hr60 : Tr w.heap.size A35 w53 A35 w53 := Tr.refl hA
            refine C_region ?_
            refine V_y (Y_move rfl) rfl rfl rfl ?_
            refine V_y (Y_gtr rfl rfl) rfl rfl rfl ?_
            refine V_y (Y_move rfl) rfl rfl rfl ?_
            rcases Bool.eq_false_or_eq_true (decide ((0 : Int) < x46)) with hc66 | hc66
            · rw [if_pos hc66] at ho58
              refine V_ge rfl rfl rfl hc66 ?_
              refine V_y (Y_move rfl) rfl rfl rfl ?_
              refine V_ge rfl rfl rfl hc66 ?_
              refine V_y (Y_makeFunc rfl rfl) rfl rfl rfl ?_
              refine V_ge rfl rfl rfl hc66 ?_
              obtain ⟨x70, hx70, ho58⟩ := Option.bind_eq_some_iff.1 ho58
              refine V_call Try.call41 rfl rfl rfl rfl (slices_ContainsFunc_Lstaff_Form_staff_Form_c w53 hA forms v_forms h_forms (fun y88 => portref2_PlanOf_2 y88 (fun y89 y90 => portref2_PlanOf_1 y89 y90) (k27 : Int)) 42 #[] #[.pointer (some ⟨b15, 0, none⟩), .pointer (some ⟨b50, 0, none⟩)] Try.call42 (fun w74 A75 ht76 h77 y71 r72 h73 => (portref2_PlanOf_2_c w74 h77 y71 (fun y86 y87 => portref2_PlanOf_1 y86 y87) 40 #[] #[] Try.call40 (fun w82 A83 ht84 h85 y78 y79 r80 h81 => (portref2_PlanOf_1_c w82 h85 y78 y79  h81).mono (fun _ _ h => ⟨h.1, h.2⟩)) b15 (Vb.tr h22 ht76) (k27 : Int) b50 (El.tr h55 ht76) h73).mono (fun _ _ h => ⟨h.1, h.2⟩)) hx70) ?_
              rintro _ w91 ⟨rfl, hk92⟩
              have ht93 := Kp.tr hk92 hA hB
              replace hH := Hp.kp hH hk92
              replace h_forms := Sl.tr h_forms ht93
              replace h_demand := Sl.tr h_demand ht93
              replace h22 := Vb.tr h22 ht93
              replace h55 := El.tr h55 ht93
              replace hK := Tr.trans hK ht93
              replace hr26 := Tr.trans hr26 ht93
              replace hr60 := Tr.trans hr60 ht93
              replace hB := Nat.le_trans hB ht93.ex.size
              replace hA := ht93.new
              refine V_ge rfl rfl rfl hc66 ?_
              refine V_y (Y_not rfl) rfl rfl rfl ?_
              refine V_y (Y_pick_te rfl hc66 rfl) rfl rfl rfl ?_
              obtain rfl := Option.some.inj ho58
              refine V_end (fun a ha94 => ?_)
              exact ⟨A35, ha94.sub ⟨rfl, rfl, rfl, rfl, rfl, rfl, rfl, trivial⟩, ⟨hH, hr60⟩⟩
            · rw [if_neg (nt hc66)] at ho58
              refine V_gn rfl rfl rfl hc66 rfl rfl rfl ?_
              refine V_gn rfl rfl rfl hc66 rfl rfl rfl ?_
              refine V_gn rfl rfl rfl hc66 rfl rfl rfl ?_
              refine V_gn rfl rfl rfl hc66 rfl rfl rfl ?_
              refine V_y (Y_pick_fe rfl hc66 rfl) rfl rfl rfl ?_
              obtain rfl := Option.some.inj ho58
              refine V_end (fun a ha95 => ?_)
              exact ⟨A35, ha95.sub ⟨rfl, rfl, rfl, rfl, rfl, rfl, rfl, trivial⟩, ⟨hH, hr60⟩⟩
          rintro A64 w61 ⟨hH65, hk62⟩ a ha63
          replace h_forms := Sl.tr h_forms hk62
          replace h_demand := Sl.tr h_demand hk62
          replace h22 := Vb.tr h22 hk62
          replace hK := Tr.trans hK hk62
          replace hr26 := Tr.trans hr26 hk62
          replace hB := Nat.le_trans hB hk62.ex.size
          replace hA := hk62.new
          replace hH : Hp w.heap.size A64 w61 ([]) := hH65
          refine C_at (n := ⟨109, [], none⟩) (fun _ _ => rfl) ?_ ha63
          refine C_cond rfl (fun hc96 => ?_) (fun hc96 => ?_)
          · rw [if_pos hc96] at h38
            refine C_seq ?_
            refine C_region ?_
            refine V_y (Y_assign rfl) rfl rfl rfl ?_
            refine V_y (Y_assign rfl) rfl rfl rfl ?_
            refine V_to (fun _ _ => rfl) ?_
            obtain rfl := Option.some.inj h38
            obtain rfl := (h39 : Lp.rt _ = _)
            rw [Lp.andThen_rt] at hm
            obtain rfl := Option.some.inj hm
            replace hH : Hp w.heap.size A64 w61 (obS (α := Int) 3 (.slice none 0 0) ([] : (List Int)) :: []) := Hp.addNil (α := Int) (e := 3) hH
            refine C_ret ?_
            try simp only [↓inBlock_ret, ↓then_ret]
            exact retQ rfl (Res.two Try.results13 rfl rfl) ⟨.slice none 0 0, rfl, (Hp.ownd hH (i := 0) rfl), hK.kp⟩
          · rw [if_neg (nt hc96)] at h38
            refine C_skip_to (fun _ _ => rfl) ?_
            refine C_region ?_
            refine V_y (Y_addI rfl rfl) rfl rfl rfl ?_
            refine V_y (Y_move rfl) rfl rfl rfl ?_
            obtain rfl := Option.some.inj h38
            refine V_end (fun a ha97 => ?_)
            exact ⟨(), hlt41, h39, ⟨A64, ha97.sub ⟨rfl, rfl, rfl, rfl, rfl, (congrArg (fun z => some (Value.int .i64 z)) (w64_succ hlt41 hn44)), trivial⟩, ⟨hH, hr26⟩⟩⟩
        · refine C_exit (fun a ha98 => ?_)
          exact ⟨((), A35), ha98.sub ⟨rfl, rfl, rfl, trivial⟩, ⟨(h42 (eq_of_dec hle40 hc45)).symm, hH, hr26⟩⟩
      rintro ⟨s25, A31⟩ w28 ⟨rfl, hH32, hk29⟩ a ha30
      rw [Lp.andThen_fin] at hm
      replace h_forms := Sl.tr h_forms hk29
      replace h_demand := Sl.tr h_demand hk29
      replace h22 := Vb.tr h22 hk29
      replace hK := Tr.trans hK hk29
      replace hB := Nat.le_trans hB hk29.ex.size
      replace hA := hk29.new
      replace hH : Hp w.heap.size A31 w28 ([]) := hH32
      refine C_at (n := ⟨109, [], none⟩) (fun _ _ => rfl) ?_ ha30
      refine C_seq ?_
      refine C_region ?_
      refine V_y (Y_move rfl) rfl rfl rfl ?_
      refine V_y (Y_lenSl h_forms rfl Try.underlying27 rfl) rfl rfl rfl ?_
      obtain ⟨x100, hx100, hm⟩ := Option.bind_eq_some_iff.1 hm
      refine V_makeH (e := 3) (ti := Try.t3) hH hx100 (fun _ _ => rfl) Try.underlying22 Try_info3 rfl rfl rfl (by decide) (by decide) hB hA rfl rfl rfl ?_
      intro v101 w102 A103 hH104 ht105
      replace h_forms := Sl.tr h_forms ht105
      replace h_demand := Sl.tr h_demand ht105
      replace h22 := Vb.tr h22 ht105
      replace hK := Tr.trans hK ht105
      replace hB := Nat.le_trans hB ht105.ex.size
      replace hA := ht105.new
      replace hH : Hp w.heap.size A103 w102 (obS (α := Int) 3 v101 x100 :: []) := hH104
      refine V_y (Y_assign rfl) rfl rfl rfl ?_
      refine V_to (fun _ _ => rfl) ?_
      refine C_seq ?_
      refine C_seq ?_
      refine C_region ?_
      refine V_y (Y_move rfl) rfl rfl rfl ?_
      refine V_y (Y_lenSl h_demand rfl Try.underlying22 rfl) rfl rfl rfl ?_
      refine V_y (Y_move rfl) rfl rfl rfl ?_
      refine V_to (fun _ _ => rfl) ?_
      have hn130 := Sl.le h_demand
      obtain ⟨o106, ho106, hm⟩ := Option.bind_eq_some_iff.1 hm
      refine C_cutG (ι := ((List Int) × Value × (Nat → Prop))) (fun ⟨s107, v113, A115⟩ => [(11, v113)]) (fun ⟨s107, v113, A115⟩ => fun w' => o106 = .fin s107 ∧ Hp w.heap.size A115 w' (obS (α := Int) 3 v113 s107 :: []) ∧ Tr w.heap.size A103 w102 A115 w') ?_ ?_
      · refine C_block ?_
        refine C_range ho106 (fun k109 s117 a w' => ∃ i : (Value × (Nat → Prop)), Has ⟨109, [], none⟩ a ([(0, v_forms), (8, .pointer (some ⟨b15, 0, none⟩)), (11, i.1), (46, v_demand), (47, .int .i64 (demand.length : Int)), (48, .int .i64 (k109 : Int))]) ∧ Hp w.heap.size i.2 w' (obS (α := Int) 3 i.1 s117 :: []) ∧ Tr w.heap.size A103 w102 i.2 w') (fun a ha => ⟨(v101, A103), ha.sub ⟨rfl, rfl, rfl, rfl, rfl, rfl, trivial⟩, ⟨hH, Tr.refl hA⟩⟩) ?_
        rintro K k109 s117 a w118 ⟨⟨v119, A121⟩, ha279, hH122, hr108⟩ hle126 K129 h128
        refine C_of ?_ ha279
        replace h_forms := Sl.tr h_forms hr108
        replace h22 := Vb.tr h22 hr108
        replace h_demand := Sl.tr h_demand hr108
        replace hK := Tr.trans hK hr108
        replace hB := Nat.le_trans hB hr108.ex.size
        replace hA := hr108.new
        replace hH : Hp w.heap.size A121 w118 (obS (α := Int) 3 v119 s117 :: []) := hH122
        refine C_seq (C_region (V_y (Y_lss rfl rfl) rfl rfl rfl (V_to (fun _ _ => rfl) ?_)))
        refine C_seq ?_
        refine C_cond rfl (fun hc131 => ?_) (fun hc131 => ?_)
        · have hlt127 := lt_of_dec hc131
          obtain ⟨x123, h124, h125⟩ := K129 hlt127
          refine C_skip_to (fun _ _ => rfl) ?_
          refine C_seq ?_
          obtain ⟨s133, ho132, h124⟩ := Option.bind_eq_some_iff.1 h124
          refine C_cutG (ι := (Value × (Nat → Prop))) (fun ⟨v135, A140⟩ => [(0, v_forms), (8, .pointer (some ⟨b15, 0, none⟩)), (11, v135), (46, v_demand), (47, .int .i64 (demand.length : Int)), (48, .int .i64 (k109 : Int))]) (fun ⟨v135, A140⟩ => fun w' => Hp w.heap.size A140 w' (obS (α := Int) 3 v135 s133 :: []) ∧ Tr w.heap.size A121 w118 A140 w') ?_ ?_
          · have hr134 : Tr w.heap.size A121 w118 A121 w118 := Tr.refl hA
            refine C_block ?_
            refine C_seq ?_
            refine C_region ?_
            refine V_y (Y_move rfl) rfl rfl rfl ?_
            obtain ⟨x142, hx142, ho132⟩ := Option.bind_eq_some_iff.1 ho132
            refine V_indexAddr h_demand hx142 Try.underlying22 Try.sizeOf3 rfl rfl rfl ?_
            intro b143 o144 h145
            refine V_y (Y_load (El.int h145) Try.isAgg3 rfl) rfl rfl rfl ?_
            refine V_y (Y_assign rfl) rfl rfl rfl ?_
            refine V_y (Y_assign rfl) rfl rfl rfl ?_
            refine V_to (fun _ _ => rfl) ?_
            obtain ⟨o146, ho146, ho132⟩ := Option.bind_eq_some_iff.1 ho132
            refine C_cutG (ι := ((List Int) × Value × (Nat → Prop))) (fun ⟨s147, v153, A155⟩ => [(0, v_forms), (8, .pointer (some ⟨b15, 0, none⟩)), (11, v153), (46, v_demand), (47, .int .i64 (demand.length : Int)), (48, .int .i64 (k109 : Int))]) (fun ⟨s147, v153, A155⟩ => fun w' => o146 = .fin s147 ∧ Hp w.heap.size A155 w' (obS (α := Int) 3 v153 s147 :: []) ∧ Tr w.heap.size A121 w118 A155 w') ?_ ?_
            · refine C_block ?_
              refine C_while ho146 (fun s157 a w' => ∃ i : (Value × (Nat → Prop)), Has ⟨109, [], none⟩ a ([(0, v_forms), (8, .pointer (some ⟨b15, 0, none⟩)), (11, i.1), (12, .int .i64 (k109 : Int)), (13, .int .i64 x142), (46, v_demand), (47, .int .i64 (demand.length : Int)), (48, .int .i64 (k109 : Int))]) ∧ Hp w.heap.size i.2 w' (obS (α := Int) 3 i.1 s157 :: []) ∧ Tr w.heap.size A121 w118 i.2 w') (fun a ha => ⟨(v119, A121), ha.sub ⟨rfl, rfl, rfl, rfl, rfl, rfl, rfl, rfl, trivial⟩, ⟨hH, Tr.refl hA⟩⟩) ?_
              rintro K s157 a w158 ⟨⟨v159, A161⟩, ha275, hH162, hr148⟩ K169
              refine C_of ?_ ha275
              replace h_forms := Sl.tr h_forms hr148
              replace h22 := Vb.tr h22 hr148
              replace h_demand := Sl.tr h_demand hr148
              replace hK := Tr.trans hK hr148
              replace hr108 := Tr.trans hr108 hr148
              replace hr134 := Tr.trans hr134 hr148
              replace hB := Nat.le_trans hB hr148.ex.size
              replace hA := hr148.new
              replace hH : Hp w.heap.size A161 w158 (obS (α := Int) 3 v159 s157 :: []) := hH162
              obtain ⟨x163, h164, h165⟩ := K169
              refine C_seq ?_
              refine C_seq ?_
              refine C_region ?_
              refine V_y (Y_move rfl) rfl rfl rfl ?_
              refine V_y (Y_move rfl) rfl rfl rfl ?_
              refine V_y (Y_addI rfl rfl) rfl rfl rfl ?_
              refine V_y (Y_move rfl) rfl rfl rfl ?_
              obtain ⟨x170, hx170, h164⟩ := Option.bind_eq_some_iff.1 h164
              refine V_call Try.call43 rfl rfl rfl rfl (portref2_cover_c w158 (A := fun _ => True) (fun _ _ => trivial) forms v_forms (Sl.any h_forms) (w64 ((k109 : Int) + 1)) s157 v159 (Hp.any (α := Int) (e := 3) (v := v159) (l := s157) hH (i := 0) rfl) hx170) ?_
              rintro v171 w173 ⟨_, rfl, h172, hk174⟩
              obtain ⟨A175, ht176, hH177⟩ := Hp.addOwnd hH hB hA hk174 h172
              replace h_forms := Sl.tr h_forms ht176
              replace h22 := Vb.tr h22 ht176
              replace h_demand := Sl.tr h_demand ht176
              replace hK := Tr.trans hK ht176
              replace hr108 := Tr.trans hr108 ht176
              replace hr134 := Tr.trans hr134 ht176
              replace hr148 := Tr.trans hr148 ht176
              replace hB := Nat.le_trans hB ht176.ex.size
              replace hA := ht176.new
              replace hH : Hp w.heap.size A175 w173 (obS (α := Int) 3 v171 x170 :: obS (α := Int) 3 v159 s157 :: []) := hH177
              refine V_y (Y_move rfl) rfl rfl rfl ?_
              obtain ⟨x178, hx178, h164⟩ := Option.bind_eq_some_iff.1 h164
              refine V_indexAddrH (α := Int) (e := 3) (v := v171) (l := x170) hH (i := 0) rfl hx178 Try.underlying22 Try.sizeOf3 rfl rfl rfl ?_
              intro b179 o180 h181 hl182
              refine V_y (Y_load (El.int h181) Try.isAgg3 rfl) rfl rfl rfl ?_
              refine V_y (Y_move rfl) rfl rfl rfl ?_
              refine V_y (Y_lss rfl rfl) rfl rfl rfl ?_
              refine V_to (fun _ _ => rfl) ?_
              refine C_cond rfl (fun hc183 => ?_) (fun hc183 => ?_)
              · rw [if_pos hc183] at h164
                refine C_skip_to (fun _ _ => rfl) ?_
                refine C_block ?_
                refine C_seq ?_
                refine C_region ?_
                refine V_y (Y_assign rfl) rfl rfl rfl ?_
                refine V_to (fun _ _ => rfl) ?_
                refine C_seq ?_
                refine C_seq ?_
                refine C_region ?_
                refine V_y (Y_move rfl) rfl rfl rfl ?_
                refine V_y (Y_lenSl h_forms rfl Try.underlying27 rfl) rfl rfl rfl ?_
                refine V_y (Y_move rfl) rfl rfl rfl ?_
                refine V_to (fun _ _ => rfl) ?_
                have hn204 := Sl.le h_forms
                obtain ⟨o184, ho184, h164⟩ := Option.bind_eq_some_iff.1 h164
                refine C_cutG (ι := (Int × (Nat → Prop))) (fun ⟨s185, A191⟩ => [(0, v_forms), (8, .pointer (some ⟨b15, 0, none⟩)), (11, v159), (12, .int .i64 (k109 : Int)), (13, .int .i64 x142), (14, .int .i64 s185), (46, v_demand), (47, .int .i64 (demand.length : Int)), (48, .int .i64 (k109 : Int))]) (fun ⟨s185, A191⟩ => fun w' => o184 = .fin s185 ∧ Hp w.heap.size A191 w' (obS (α := Int) 3 v171 x170 :: obS (α := Int) 3 v159 s157 :: []) ∧ Tr w.heap.size A175 w173 A191 w') ?_ ?_
                · refine C_block ?_
                  refine C_range ho184 (fun k187 s193 a w' => ∃ i : (Nat → Prop), Has ⟨109, [], none⟩ a ([(0, v_forms), (8, .pointer (some ⟨b15, 0, none⟩)), (11, v159), (12, .int .i64 (k109 : Int)), (13, .int .i64 x142), (14, .int .i64 s193), (46, v_demand), (47, .int .i64 (demand.length : Int)), (48, .int .i64 (k109 : Int)), (63, v_forms), (64, .int .i64 (forms.length : Int)), (65, .int .i64 (k187 : Int))]) ∧ Hp w.heap.size i w' (obS (α := Int) 3 v171 x170 :: obS (α := Int) 3 v159 s157 :: []) ∧ Tr w.heap.size A175 w173 i w') (fun a ha => ⟨A175, ha.sub ⟨rfl, rfl, rfl, rfl, rfl, rfl, rfl, rfl, rfl, rfl, rfl, rfl, trivial⟩, ⟨hH, Tr.refl hA⟩⟩) ?_
                  rintro K k187 s193 a w194 ⟨A195, ha259, hH196, hr186⟩ hle200 K203 h202
                  refine C_of ?_ ha259
                  replace h_forms := Sl.tr h_forms hr186
                  replace h22 := Vb.tr h22 hr186
                  replace h_demand := Sl.tr h_demand hr186
                  replace hK := Tr.trans hK hr186
                  replace hr108 := Tr.trans hr108 hr186
                  replace hr134 := Tr.trans hr134 hr186
                  replace hr148 := Tr.trans hr148 hr186
                  replace hB := Nat.le_trans hB hr186.ex.size
                  replace hA := hr186.new
                  replace hH : Hp w.heap.size A195 w194 (obS (α := Int) 3 v171 x170 :: obS (α := Int) 3 v159 s157 :: []) := hH196
                  refine C_seq (C_region (V_y (Y_lss rfl rfl) rfl rfl rfl (V_to (fun _ _ => rfl) ?_)))
                  refine C_seq ?_
                  refine C_cond rfl (fun hc205 => ?_) (fun hc205 => ?_)
                  · have hlt201 := lt_of_dec hc205
                    obtain ⟨x197, h198, h199⟩ := K203 hlt201
                    refine C_skip_to (fun _ _ => rfl) ?_
                    refine C_seq ?_
                    obtain ⟨s207, ho206, h198⟩ := Option.bind_eq_some_iff.1 h198
                    refine C_cutG (ι := (Nat → Prop)) (fun (A212 : (Nat → Prop)) => [(0, v_forms), (8, .pointer (some ⟨b15, 0, none⟩)), (11, v159), (12, .int .i64 (k109 : Int)), (13, .int .i64 x142), (14, .int .i64 s207), (46, v_demand), (47, .int .i64 (demand.length : Int)), (48, .int .i64 (k109 : Int)), (63, v_forms), (64, .int .i64 (forms.length : Int)), (65, .int .i64 (k187 : Int))]) (fun (A212 : (Nat → Prop)) => fun w' => Hp w.heap.size A212 w' (obS (α := Int) 3 v171 x170 :: obS (α := Int) 3 v159 s157 :: []) ∧ Tr w.heap.size A195 w194 A212 w') ?_ ?_
                    · have hr208 : Tr w.heap.size A195 w194 A195 w194 := Tr.refl hA
                      refine C_block ?_
                      refine C_seq ?_
                      refine C_region ?_
                      refine V_y (Y_move rfl) rfl rfl rfl ?_
                      obtain ⟨x214, hx214, ho206⟩ := Option.bind_eq_some_iff.1 ho206
                      refine V_indexAddr h_forms hx214 Try.underlying27 Try.sizeOf65 rfl rfl rfl ?_
                      intro b215 o216 h217
                      obtain ⟨h218, _⟩ := El_staff_Form h217
                      refine V_y (Y_loadA h218 Try.isAgg65 Try.sizeOf65 rfl) rfl rfl rfl ?_
                      refine V_alloc Try.zeroValue65 rfl ?_
                      intro b219 w220 h221
                      refine V_y (Y_assign rfl) rfl rfl rfl ?_
                      refine V_storeNew h221 Try.sizeOf65 rfl rfl rfl rfl (by exact (List.forall_mem_cons.2 ⟨rfl, (List.forall_mem_cons.2 ⟨rfl, (fun _ h => nomatch h)⟩)⟩)) ?_
                      intro w222 h223
                      have hk225 := h223.kp
                      have h224 : El (α := staff_Form) A195 w222 b219 0 x214 := h223.el hA ⟨[.int .i64 x214.from_], _, rfl, rfl, rfl⟩
                      have ht226 := Kp.tr hk225 hA hB
                      replace hH := Hp.kp hH hk225
                      replace h_forms := Sl.tr h_forms ht226
                      replace h22 := Vb.tr h22 ht226
                      replace h_demand := Sl.tr h_demand ht226
                      replace h217 := El.tr h217 ht226
                      replace hK := Tr.trans hK ht226
                      replace hr108 := Tr.trans hr108 ht226
                      replace hr134 := Tr.trans hr134 ht226
                      replace hr148 := Tr.trans hr148 ht226
                      replace hr186 := Tr.trans hr186 ht226
                      replace hr208 := Tr.trans hr208 ht226
                      replace hB := Nat.le_trans hB ht226.ex.size
                      replace hA := ht226.new
                      refine V_to (fun _ _ => rfl) ?_
                      refine C_seq ?_
                      refine C_region_q Try_mixed (by kernel_rfl) ?_
                      refine VQ_y (fun w' hw' => Y_load ((Vb.kp h22 hw').2.2) Try.isAgg66 rfl) rfl rfl rfl ?_
                      obtain ⟨h227, _⟩ := El_staff_Form h224
                      refine VQ_y (fun w' hw' => Y_loadA (At.kp h227 hw' h224.2.1) Try.isAgg65 Try.sizeOf65 rfl) rfl rfl rfl ?_
                      refine VQ_y (fun w' hw' => Y_move rfl) rfl rfl rfl ?_
                      obtain ⟨x228, hx228, ho206⟩ := Option.bind_eq_some_iff.1 ho206
                      refine VQ_call (.bool x228) Try.call40 rfl rfl rfl rfl (fun w' hw' => (portref2_PlanOf_1_c w' (fun b hb => hA b (Nat.le_trans hw'.size hb)) x214 (k109 : Int) hx228).mono (fun _ _ h => ⟨h.1, Kp.trans hw' h.2⟩)) ?_
                      refine VQ_y (fun w' hw' => Y_move rfl) rfl rfl rfl ?_
                      obtain ⟨s230, hs230, ho206⟩ := Option.bind_eq_some_iff.1 ho206
                      refine VQ_cut 22 (fun _ : Unit => [(0, v_forms), (8, .pointer (some ⟨b15, 0, none⟩)), (11, v159), (12, .int .i64 (k109 : Int)), (13, .int .i64 x142), (14, .int .i64 s193), (15, .int .i64 (k187 : Int)), (46, v_demand), (47, .int .i64 (demand.length : Int)), (48, .int .i64 (k109 : Int)), (63, v_forms), (64, .int .i64 (forms.length : Int)), (65, .int .i64 (k187 : Int)), (96, .bool s230)]) (fun _ => True) ?_ ?_
                      · simp only [List.take, List.drop]
                        rcases Bool.eq_false_or_eq_true (x228) with hc229 | hc229
                        · rw [if_pos hc229] at hs230
                          refine VQ_ge rfl rfl rfl hc229 ?_
                          refine VQ_y (fun w' hw' => Y_move rfl) rfl rfl rfl ?_
                          refine VQ_ge rfl rfl rfl hc229 ?_
                          refine VQ_y (fun w' hw' => Y_lss rfl rfl) rfl rfl rfl ?_
                          refine VQ_ge rfl rfl rfl hc229 ?_
                          refine VQ_y (fun w' hw' => Y_move rfl) rfl rfl rfl ?_
                          obtain ⟨s232, hs232, hs230⟩ := Option.bind_eq_some_iff.1 hs230
                          refine VQ_cut 18 (fun _ : Unit => [(0, v_forms), (8, .pointer (some ⟨b15, 0, none⟩)), (11, v159), (12, .int .i64 (k109 : Int)), (13, .int .i64 x142), (14, .int .i64 s193), (15, .int .i64 (k187 : Int)), (46, v_demand), (47, .int .i64 (demand.length : Int)), (48, .int .i64 (k109 : Int)), (63, v_forms), (64, .int .i64 (forms.length : Int)), (65, .int .i64 (k187 : Int)), (74, .bool x228), (95, .bool s232)]) (fun _ => True) ?_ ?_
                          · simp only [List.take, List.drop]
                            rcases Bool.eq_false_or_eq_true (decide (s193 < 0)) with hc231 | hc231
                            · rw [if_pos hc231] at hs232
                              refine VQ_gn rfl rfl rfl hc231 rfl rfl rfl ?_
                              refine VQ_gn rfl rfl rfl hc231 rfl rfl rfl ?_
                              refine VQ_gn rfl rfl rfl hc231 rfl rfl rfl ?_
                              refine VQ_gn rfl rfl rfl hc231 rfl rfl rfl ?_
                              refine VQ_gn rfl rfl rfl hc231 rfl rfl rfl ?_
                              refine VQ_gn rfl rfl rfl hc231 rfl rfl rfl ?_
                              refine VQ_gn rfl rfl rfl hc231 rfl rfl rfl ?_
                              refine VQ_gn rfl rfl rfl hc231 rfl rfl rfl ?_
                              refine VQ_gn rfl rfl rfl hc231 rfl rfl rfl ?_
                              refine VQ_gn rfl rfl rfl hc231 rfl rfl rfl ?_
                              refine VQ_gn rfl rfl rfl hc231 rfl rfl rfl ?_
                              refine VQ_gn rfl rfl rfl hc231 rfl rfl rfl ?_
                              refine VQ_gn rfl rfl rfl hc231 rfl rfl rfl ?_
                              refine VQ_gn rfl rfl rfl hc231 rfl rfl rfl ?_
                              refine VQ_gn rfl rfl rfl hc231 rfl rfl rfl ?_
                              refine VQ_gn rfl rfl rfl hc231 rfl rfl rfl ?_
                              refine VQ_gn rfl rfl rfl hc231 rfl rfl rfl ?_
                              refine VQ_ge rfl rfl rfl hc229 ?_
                              refine VQ_y (fun _ _ => Y_pick_te rfl hc231 rfl) rfl rfl rfl ?_
                              obtain rfl := Option.some.inj hs232
                              exact VQ_end fun a ha => ⟨(), ha.sub ⟨rfl, rfl, rfl, rfl, rfl, rfl, rfl, rfl, rfl, rfl, rfl, rfl, rfl, rfl, rfl, trivial⟩, trivial⟩
                            · rw [if_neg (nt hc231)] at hs232
                              refine VQ_ge rfl rfl rfl hc231 ?_
                              have h233 := El_staff_Form_0 h224
                              refine VQ_y (fun w' hw' => Y_fieldAddr Try.underlying65 rfl Try.sizeOf3 (by decide) rfl) rfl rfl rfl ?_
                              refine VQ_ge rfl rfl rfl hc231 ?_
                              refine VQ_y (fun w' hw' => Y_load (El.int (El.kp h233 hw')) Try.isAgg3 rfl) rfl rfl rfl ?_
                              refine VQ_ge rfl rfl rfl hc231 ?_
                              have h234 := El_staff_Form_1 h224
                              refine VQ_y (fun w' hw' => Y_fieldAddr Try.underlying65 rfl Try.sizeOf3 (by decide) rfl) rfl rfl rfl ?_
                              refine VQ_ge rfl rfl rfl hc231 ?_
                              refine VQ_y (fun w' hw' => Y_load (El.int (El.kp h234 hw')) Try.isAgg3 rfl) rfl rfl rfl ?_
                              refine VQ_ge rfl rfl rfl hc231 ?_
                              refine VQ_y (fun w' hw' => Y_addI rfl rfl) rfl rfl rfl ?_
                              refine VQ_ge rfl rfl rfl hc231 ?_
                              refine VQ_y (fun w' hw' => Y_move rfl) rfl rfl rfl ?_
                              refine VQ_ge rfl rfl rfl hc231 ?_
                              refine VQ_y (fun w' hw' => Y_move rfl) rfl rfl rfl ?_
                              refine VQ_ge rfl rfl rfl hc231 ?_
                              obtain ⟨x235, hx235, hs232⟩ := Option.bind_eq_some_iff.1 hs232
                              refine VQ_indexAddr h_forms hx235 Try.underlying27 Try.sizeOf65 rfl rfl rfl ?_
                              intro b236 o237 h238
                              refine VQ_ge rfl rfl rfl hc231 ?_
                              have h239 := El_staff_Form_0 h238
                              refine VQ_y (fun w' hw' => Y_fieldAddr Try.underlying65 rfl Try.sizeOf3 (by decide) rfl) rfl rfl rfl ?_
                              refine VQ_ge rfl rfl rfl hc231 ?_
                              refine VQ_y (fun w' hw' => Y_load (El.int (El.kp h239 hw')) Try.isAgg3 rfl) rfl rfl rfl ?_
                              refine VQ_ge rfl rfl rfl hc231 ?_
                              refine VQ_y (fun w' hw' => Y_move rfl) rfl rfl rfl ?_
                              refine VQ_ge rfl rfl rfl hc231 ?_
                              refine VQ_y (fun w' hw' => Y_move rfl) rfl rfl rfl ?_
                              refine VQ_ge rfl rfl rfl hc231 ?_
                              refine VQ_indexAddr h_forms hx235 Try.underlying27 Try.sizeOf65 rfl rfl rfl ?_
                              intro b240 o241 h242
                              refine VQ_ge rfl rfl rfl hc231 ?_
                              have h243 := El_staff_Form_1 h242
                              refine VQ_y (fun w' hw' => Y_fieldAddr Try.underlying65 rfl Try.sizeOf3 (by decide) rfl) rfl rfl rfl ?_
                              refine VQ_ge rfl rfl rfl hc231 ?_
                              refine VQ_y (fun w' hw' => Y_load (El.int (El.kp h243 hw')) Try.isAgg3 rfl) rfl rfl rfl ?_
                              refine VQ_ge rfl rfl rfl hc231 ?_
                              refine VQ_y (fun w' hw' => Y_addI rfl rfl) rfl rfl rfl ?_
                              refine VQ_ge rfl rfl rfl hc231 ?_
                              refine VQ_y (fun w' hw' => Y_gtr rfl rfl) rfl rfl rfl ?_
                              refine VQ_ge rfl rfl rfl hc229 ?_
                              refine VQ_y (fun _ _ => Y_pick_fe rfl hc231 rfl) rfl rfl rfl ?_
                              obtain rfl := Option.some.inj hs232
                              exact VQ_end fun a ha => ⟨(), ha.sub ⟨rfl, rfl, rfl, rfl, rfl, rfl, rfl, rfl, rfl, rfl, rfl, rfl, rfl, rfl, rfl, trivial⟩, trivial⟩
                          simp only [List.take, List.drop]
                          rintro _ _
                          refine VQ_y (fun _ _ => Y_pick_te rfl hc229 rfl) rfl rfl rfl ?_
                          obtain rfl := Option.some.inj hs230
                          exact VQ_end fun a ha => ⟨(), ha.sub ⟨rfl, rfl, rfl, rfl, rfl, rfl, rfl, rfl, rfl, rfl, rfl, rfl, rfl, rfl, trivial⟩, trivial⟩
                        · rw [if_neg (nt hc229)] at hs230
                          refine VQ_gn rfl rfl rfl hc229 rfl rfl rfl ?_
                          refine VQ_gn rfl rfl rfl hc229 rfl rfl rfl ?_
                          refine VQ_gn rfl rfl rfl hc229 rfl rfl rfl ?_
                          refine VQ_gu rfl rfl rfl rfl rfl ?_
                          refine VQ_gu rfl rfl rfl rfl rfl ?_
                          refine VQ_gu rfl rfl rfl rfl rfl ?_
                          refine VQ_gu rfl rfl rfl rfl rfl ?_
                          refine VQ_gu rfl rfl rfl rfl rfl ?_
                          refine VQ_gu rfl rfl rfl rfl rfl ?_
                          refine VQ_gu rfl rfl rfl rfl rfl ?_
                          refine VQ_gu rfl rfl rfl rfl rfl ?_
                          refine VQ_gu rfl rfl rfl rfl rfl ?_
                          refine VQ_gu rfl rfl rfl rfl rfl ?_
                          refine VQ_gu rfl rfl rfl rfl rfl ?_
                          refine VQ_gu rfl rfl rfl rfl rfl ?_
                          refine VQ_gu rfl rfl rfl rfl rfl ?_
                          refine VQ_gu rfl rfl rfl rfl rfl ?_
                          refine VQ_gu rfl rfl rfl rfl rfl ?_
                          refine VQ_gu rfl rfl rfl rfl rfl ?_
                          refine VQ_gu rfl rfl rfl rfl rfl ?_
                          refine VQ_gn rfl rfl rfl hc229 rfl rfl rfl ?_
                          refine VQ_y (fun _ _ => Y_pick_fe rfl hc229 rfl) rfl rfl rfl ?_
                          obtain rfl := Option.some.inj hs230
                          exact VQ_end fun a ha => ⟨(), ha.sub ⟨rfl, rfl, rfl, rfl, rfl, rfl, rfl, rfl, rfl, rfl, rfl, rfl, rfl, rfl, trivial⟩, trivial⟩
                      simp only [List.take, List.drop]
                      rintro _ _
                      refine VQ_to (fun _ _ => rfl) (fun w244 hk245 => ?_)
                      have ht246 := Kp.tr hk245 hA hB
                      replace hH := Hp.kp hH hk245
                      replace h_forms := Sl.tr h_forms ht246
                      replace h22 := Vb.tr h22 ht246
                      replace h_demand := Sl.tr h_demand ht246
                      replace hK := Tr.trans hK ht246
                      replace hr108 := Tr.trans hr108 ht246
                      replace hr134 := Tr.trans hr134 ht246
                      replace hr148 := Tr.trans hr148 ht246
                      replace hr186 := Tr.trans hr186 ht246
                      replace hr208 := Tr.trans hr208 ht246
                      replace hB := Nat.le_trans hB ht246.ex.size
                      replace hA := ht246.new
                      obtain ⟨s248, ho247, ho206⟩ := Option.bind_eq_some_iff.1 ho206
                      refine C_cutG (ι := Unit) (fun (_ : Unit) => [(0, v_forms), (8, .pointer (some ⟨b15, 0, none⟩)), (11, v159), (12, .int .i64 (k109 : Int)), (13, .int .i64 x142), (14, .int .i64 s248), (46, v_demand), (47, .int .i64 (demand.length : Int)), (48, .int .i64 (k109 : Int)), (63, v_forms), (64, .int .i64 (forms.length : Int)), (65, .int .i64 (k187 : Int))]) (fun (_ : Unit) => fun w' => w244 = w') ?_ ?_
                      · refine C_cond rfl (fun hc253 => ?_) (fun hc253 => ?_)
                        · rw [if_pos hc253] at ho247
                          refine C_region ?_
                          refine V_y (Y_move rfl) rfl rfl rfl ?_
                          refine V_y (Y_assign rfl) rfl rfl rfl ?_
                          obtain rfl := Option.some.inj ho247
                          refine V_end (fun a ha254 => ?_)
                          exact ⟨(), ha254.sub ⟨rfl, rfl, rfl, rfl, rfl, rfl, rfl, rfl, rfl, rfl, rfl, rfl, trivial⟩, rfl⟩
                        · rw [if_neg (nt hc253)] at ho247
                          obtain rfl := Option.some.inj ho247
                          refine C_skip (fun a ha255 => ?_)
                          exact ⟨(), ha255.sub ⟨rfl, rfl, rfl, rfl, rfl, rfl, rfl, rfl, rfl, rfl, rfl, rfl, trivial⟩, rfl⟩
                      rintro _ _ rfl a ha252
                      obtain rfl := Option.some.inj ho206
                      exact ⟨A195, ha252.sub ⟨rfl, rfl, rfl, rfl, rfl, rfl, rfl, rfl, rfl, rfl, rfl, rfl, trivial⟩, ⟨hH, hr208⟩⟩
                    rintro A212 w209 ⟨hH213, hk210⟩ a ha211
                    replace h_forms := Sl.tr h_forms hk210
                    replace h22 := Vb.tr h22 hk210
                    replace h_demand := Sl.tr h_demand hk210
                    replace hK := Tr.trans hK hk210
                    replace hr108 := Tr.trans hr108 hk210
                    replace hr134 := Tr.trans hr134 hk210
                    replace hr148 := Tr.trans hr148 hk210
                    replace hr186 := Tr.trans hr186 hk210
                    replace hB := Nat.le_trans hB hk210.ex.size
                    replace hA := hk210.new
                    replace hH : Hp w.heap.size A212 w209 (obS (α := Int) 3 v171 x170 :: obS (α := Int) 3 v159 s157 :: []) := hH213
                    refine C_at (n := ⟨109, [], none⟩) (fun _ _ => rfl) ?_ ha211
                    refine C_region ?_
                    refine V_y (Y_addI rfl rfl) rfl rfl rfl ?_
                    refine V_y (Y_move rfl) rfl rfl rfl ?_
                    obtain rfl := Option.some.inj h198
                    refine V_end (fun a ha257 => ?_)
                    exact ⟨s207, hlt201, h199, ⟨A212, ha257.sub ⟨rfl, rfl, rfl, rfl, rfl, rfl, rfl, rfl, rfl, rfl, rfl, (congrArg (fun z => some (Value.int .i64 z)) (w64_succ hlt201 hn204)), trivial⟩, ⟨hH, hr186⟩⟩⟩
                  · refine C_exit (fun a ha258 => ?_)
                    exact ⟨(s193, A195), ha258.sub ⟨rfl, rfl, rfl, rfl, rfl, rfl, rfl, rfl, rfl, trivial⟩, ⟨(h202 (eq_of_dec hle200 hc205)).symm, hH, hr186⟩⟩
                rintro ⟨s185, A191⟩ w188 ⟨rfl, hH192, hk189⟩ a ha190
                rw [Lp.andThen_fin] at h164
                replace h_forms := Sl.tr h_forms hk189
                replace h22 := Vb.tr h22 hk189
                replace h_demand := Sl.tr h_demand hk189
                replace hK := Tr.trans hK hk189
                replace hr108 := Tr.trans hr108 hk189
                replace hr134 := Tr.trans hr134 hk189
                replace hr148 := Tr.trans hr148 hk189
                replace hB := Nat.le_trans hB hk189.ex.size
                replace hA := hk189.new
                replace hH : Hp w.heap.size A191 w188 (obS (α := Int) 3 v171 x170 :: obS (α := Int) 3 v159 s157 :: []) := hH192
                refine C_at (n := ⟨109, [], none⟩) (fun _ _ => rfl) ?_ ha190
                refine C_region ?_
                refine V_y (Y_move rfl) rfl rfl rfl ?_
                refine V_y (Y_move rfl) rfl rfl rfl ?_
                obtain ⟨x260, hx260, h164⟩ := Option.bind_eq_some_iff.1 h164
                refine V_indexAddrH (α := Int) (e := 3) (v := v159) (l := s157) hH (i := 1) rfl hx260 Try.underlying22 Try.sizeOf3 rfl rfl rfl ?_
                intro b261 o262 h263 hl264
                refine V_y (Y_load (El.int h263) Try.isAgg3 rfl) rfl rfl rfl ?_
                refine V_y (Y_addI rfl rfl) rfl rfl rfl ?_
                refine V_indexAddrH (α := Int) (e := 3) (v := v159) (l := s157) hH (i := 1) rfl hx260 Try.underlying22 Try.sizeOf3 rfl rfl rfl ?_
                intro b265 o266 h267 hl268
                obtain ⟨x269, hx269, h164⟩ := Option.bind_eq_some_iff.1 h164
                refine V_storeH (α := Int) (e := 3) (v := v159) (l := s157) hH (i := 1) rfl hl268 hx269 rfl Try.sizeOf3 rfl hB hA rfl rfl ?_
                intro w270 hH271 ht272
                replace h_forms := Sl.tr h_forms ht272
                replace h22 := Vb.tr h22 ht272
                replace h_demand := Sl.tr h_demand ht272
                replace hK := Tr.trans hK ht272
                replace hr108 := Tr.trans hr108 ht272
                replace hr134 := Tr.trans hr134 ht272
                replace hr148 := Tr.trans hr148 ht272
                replace hB := Nat.le_trans hB ht272.ex.size
                replace hA := ht272.new
                replace hH : Hp w.heap.size A191 w270 (obS (α := Int) 3 v171 x170 :: obS (α := Int) 3 v159 x269 :: []) := hH271
                obtain rfl := Option.some.inj h164
                refine V_end (fun a ha273 => ?_)
                replace hH : Hp w.heap.size A191 w270 (obS (α := Int) 3 v159 x269 :: obS (α := Int) 3 v171 x170 :: []) := Hp.front hH (i := 1) rfl
                replace hH : Hp w.heap.size A191 w270 (obS (α := Int) 3 v159 x269 :: []) := Hp.drop hH (i := 1) rfl
                exact ⟨x269, h165, ⟨(v159, A191), ha273.sub ⟨rfl, rfl, rfl, rfl, rfl, rfl, rfl, rfl, trivial⟩, ⟨hH, hr148⟩⟩⟩
              · rw [if_neg (nt hc183)] at h164
                obtain rfl := Option.some.inj h164
                refine C_exit (fun a ha274 => ?_)
                replace hH : Hp w.heap.size A175 w173 (obS (α := Int) 3 v159 s157 :: obS (α := Int) 3 v171 x170 :: []) := Hp.front hH (i := 1) rfl
                replace hH : Hp w.heap.size A175 w173 (obS (α := Int) 3 v159 s157 :: []) := Hp.drop hH (i := 1) rfl
                exact ⟨(s157, v159, A175), ha274.sub ⟨rfl, rfl, rfl, rfl, rfl, rfl, trivial⟩, ⟨h165.symm, hH, hr148⟩⟩
            rintro ⟨s147, v153, A155⟩ w150 ⟨rfl, hH156, hk151⟩ a ha152
            rw [Lp.andThen_fin] at ho132
            replace h_forms := Sl.tr h_forms hk151
            replace h22 := Vb.tr h22 hk151
            replace h_demand := Sl.tr h_demand hk151
            replace hK := Tr.trans hK hk151
            replace hr108 := Tr.trans hr108 hk151
            replace hr134 := Tr.trans hr134 hk151
            replace hB := Nat.le_trans hB hk151.ex.size
            replace hA := hk151.new
            replace hH : Hp w.heap.size A155 w150 (obS (α := Int) 3 v153 s147 :: []) := hH156
            obtain rfl := Option.some.inj ho132
            exact ⟨(v153, A155), ha152.sub ⟨rfl, rfl, rfl, rfl, rfl, rfl, trivial⟩, ⟨hH, hr134⟩⟩
          rintro ⟨v135, A140⟩ w137 ⟨hH141, hk138⟩ a ha139
          replace h_forms := Sl.tr h_forms hk138
          replace h22 := Vb.tr h22 hk138
          replace h_demand := Sl.tr h_demand hk138
          replace hK := Tr.trans hK hk138
          replace hr108 := Tr.trans hr108 hk138
          replace hB := Nat.le_trans hB hk138.ex.size
          replace hA := hk138.new
          replace hH : Hp w.heap.size A140 w137 (obS (α := Int) 3 v135 s133 :: []) := hH141
          refine C_at (n := ⟨109, [], none⟩) (fun _ _ => rfl) ?_ ha139
          refine C_region ?_
          refine V_y (Y_addI rfl rfl) rfl rfl rfl ?_
          refine V_y (Y_move rfl) rfl rfl rfl ?_
          obtain rfl := Option.some.inj h124
          refine V_end (fun a ha277 => ?_)
          exact ⟨s133, hlt127, h125, ⟨(v135, A140), ha277.sub ⟨rfl, rfl, rfl, rfl, rfl, (congrArg (fun z => some (Value.int .i64 z)) (w64_succ hlt127 hn130)), trivial⟩, ⟨hH, hr108⟩⟩⟩
        · refine C_exit (fun a ha278 => ?_)
          exact ⟨(s117, v119, A121), ha278.sub ⟨rfl, trivial⟩, ⟨(h128 (eq_of_dec hle126 hc131)).symm, hH, hr108⟩⟩
      rintro ⟨s107, v113, A115⟩ w110 ⟨rfl, hH116, hk111⟩ a ha112
      rw [Lp.andThen_fin] at hm
      replace hK := Tr.trans hK hk111
      replace hB := Nat.le_trans hB hk111.ex.size
      replace hA := hk111.new
      replace hH : Hp w.heap.size A115 w110 (obS (α := Int) 3 v113 s107 :: []) := hH116
      refine C_at (n := ⟨109, [], none⟩) (fun _ _ => rfl) ?_ ha112
      refine C_seq ?_
      refine C_seq ?_
      refine C_region ?_
      refine V_y (Y_move rfl) rfl rfl rfl ?_
      obtain ⟨x280, hx280, hm⟩ := Option.bind_eq_some_iff.1 hm
      refine V_call Try.call44 rfl rfl rfl rfl (portref2_outside_c w110 (A := fun _ => True) (fun _ _ => trivial) s107 v113 (Hp.any (α := Int) (e := 3) (v := v113) (l := s107) hH (i := 0) rfl) 60 hx280) ?_
      rintro _ w281 ⟨rfl, hk282⟩
      have ht283 := Kp.tr hk282 hA hB
      replace hH := Hp.kp hH hk282
      replace hK := Tr.trans hK ht283
      replace hB := Nat.le_trans hB ht283.ex.size
      replace hA := ht283.new
      refine V_to (fun _ _ => rfl) ?_
      refine C_cond rfl (fun hc284 => ?_) (fun hc284 => ?_)
      · rw [if_pos hc284] at hm
        refine C_seq ?_
        refine C_region ?_
        refine V_y (Y_assign rfl) rfl rfl rfl ?_
        refine V_y (Y_assign rfl) rfl rfl rfl ?_
        refine V_to (fun _ _ => rfl) ?_
        obtain rfl := Option.some.inj hm
        replace hH : Hp w.heap.size A115 w281 (obS (α := Int) 3 (.slice none 0 0) ([] : (List Int)) :: obS (α := Int) 3 v113 s107 :: []) := Hp.addNil (α := Int) (e := 3) hH
        refine C_ret ?_
        try simp only [↓inBlock_ret, ↓then_ret]
        exact retQ rfl (Res.two Try.results13 rfl rfl) ⟨.slice none 0 0, rfl, (Hp.ownd hH (i := 0) rfl), hK.kp⟩
      · rw [if_neg (nt hc284)] at hm
        refine C_skip_to (fun _ _ => rfl) ?_
        refine C_seq ?_
        refine C_region ?_
        refine V_y (Y_move rfl) rfl rfl rfl ?_
        refine V_y (Y_assign rfl) rfl rfl rfl ?_
        refine V_y (Y_assign rfl) rfl rfl rfl ?_
        refine V_to (fun _ _ => rfl) ?_
        obtain rfl := Option.some.inj hm
        refine C_ret ?_
        try simp only [↓inBlock_ret, ↓then_ret]
        exact retQ rfl (Res.two Try.results13 rfl rfl) ⟨v113, rfl, (Hp.ownd hH (i := 0) rfl), hK.kp⟩

set_option maxRecDepth 4000 in
set_option maxHeartbeats 4000000 in
theorem slices_Equal_Lint_int_c (w : World) {A : Nat → Prop} (hA : ∀ b, w.heap.size ≤ b → A b) (s1 : (List Int)) (v_s1 : Value) (h_s1 : Sl A w v_s1 s1) (s2 : (List Int)) (v_s2 : Value) (h_s2 : Sl A w v_s2 s2) {r : Bool} (hm : slices_Equal_Lint_int s1 s2 = some r) : Ret Try.prog 14 #[v_s1, v_s2] w fun v w' => v = .bool r ∧ Kp w w' := by
  unfold slices_Equal_Lint_int at hm
  refine enter Try.func14 rfl Try.ntmps14 rfl ?_
  have hA0 := hA
  have hB := Nat.le_refl w.heap.size
  have hK : Tr w.heap.size A w A w := Tr.refl hA
  have hH : Hp w.heap.size A w [] := Hp.nil
  refine C_seq ?_
  refine C_region ?_
  refine V_y (Y_assign rfl) rfl rfl rfl ?_
  refine V_to (fun _ _ => rfl) ?_
  refine C_seq ?_
  refine C_seq ?_
  refine C_region ?_
  refine V_y (Y_move rfl) rfl rfl rfl ?_
  refine V_y (Y_lenSl h_s1 rfl Try.underlying22 rfl) rfl rfl rfl ?_
  refine V_y (Y_move rfl) rfl rfl rfl ?_
  refine V_y (Y_lenSl h_s2 rfl Try.underlying22 rfl) rfl rfl rfl ?_
  refine V_y (Y_neq rfl rfl) rfl rfl rfl ?_
  refine V_to (fun _ _ => rfl) ?_
  refine C_cond rfl (fun hc5 => ?_) (fun hc5 => ?_)
  · rw [if_pos hc5] at hm
    refine C_seq ?_
    refine C_region ?_
    refine V_y (Y_assign rfl) rfl rfl rfl ?_
    refine V_to (fun _ _ => rfl) ?_
    obtain rfl := Option.some.inj hm
    refine C_ret ?_
    try simp only [↓inBlock_ret, ↓then_ret]
    exact retQ rfl (Res.one Try.results14 rfl) ⟨rfl, hK.kp⟩
  · rw [if_neg (nt hc5)] at hm
    refine C_skip_to (fun _ _ => rfl) ?_
    refine C_seq ?_
    refine C_seq ?_
    refine C_region ?_
    refine V_y (Y_move rfl) rfl rfl rfl ?_
    refine V_y (Y_lenSl h_s1 rfl Try.underlying22 rfl) rfl rfl rfl ?_
    refine V_y (Y_move rfl) rfl rfl rfl ?_
    refine V_to (fun _ _ => rfl) ?_
    have hn27 := Sl.le h_s1
    obtain ⟨o6, ho6, hm⟩ := Option.bind_eq_some_iff.1 hm
    refine C_cutG (ι := (Unit × (Nat → Prop))) (fun ⟨s7, A13⟩ => []) (fun ⟨s7, A13⟩ => fun w' => o6 = .fin s7 ∧ Hp w.heap.size A13 w' ([]) ∧ Tr w.heap.size A w A13 w') ?_ ?_
    · refine C_block ?_
      refine C_range ho6 (fun k9 _ a w' => ∃ i : (Nat → Prop), Has ⟨26, [], none⟩ a ([(0, v_s1), (1, v_s2), (12, .int .i64 (s1.length : Int)), (13, .int .i64 (k9 : Int))]) ∧ Hp w.heap.size i w' ([]) ∧ Tr w.heap.size A w i w') (fun a ha => ⟨A, ha.sub ⟨rfl, rfl, rfl, rfl, trivial⟩, ⟨hH, Tr.refl hA⟩⟩) ?_
      rintro K k9 _ a w17 ⟨A18, ha43, hH19, hr8⟩ hle23 K26 h25
      refine C_of ?_ ha43
      replace h_s1 := Sl.tr h_s1 hr8
      replace h_s2 := Sl.tr h_s2 hr8
      replace hK := Tr.trans hK hr8
      replace hB := Nat.le_trans hB hr8.ex.size
      replace hA := hr8.new
      replace hH : Hp w.heap.size A18 w17 ([]) := hH19
      refine C_seq (C_region (V_y (Y_lss rfl rfl) rfl rfl rfl (V_to (fun _ _ => rfl) ?_)))
      refine C_seq ?_
      refine C_cond rfl (fun hc28 => ?_) (fun hc28 => ?_)
      · have hlt24 := lt_of_dec hc28
        obtain ⟨x20, h21, h22⟩ := K26 hlt24
        refine C_skip_to (fun _ _ => rfl) ?_
        refine C_seq ?_
        refine C_block ?_
        refine C_seq ?_
        refine C_region ?_
        refine V_y (Y_move rfl) rfl rfl rfl ?_
        refine V_y (Y_assign rfl) rfl rfl rfl ?_
        refine V_to (fun _ _ => rfl) ?_
        refine C_seq ?_
        refine C_region_q Try_mixed (by kernel_rfl) ?_
        refine VQ_y (fun w' hw' => Y_move rfl) rfl rfl rfl ?_
        refine VQ_y (fun w' hw' => Y_move rfl) rfl rfl rfl ?_
        obtain ⟨x29, hx29, h21⟩ := Option.bind_eq_some_iff.1 h21
        refine VQ_indexAddr h_s1 hx29 Try.underlying22 Try.sizeOf3 rfl rfl rfl ?_
        intro b30 o31 h32
        refine VQ_y (fun w' hw' => Y_load (El.int (El.kp h32 hw')) Try.isAgg3 rfl) rfl rfl rfl ?_
        refine VQ_y (fun w' hw' => Y_move rfl) rfl rfl rfl ?_
        refine VQ_y (fun w' hw' => Y_move rfl) rfl rfl rfl ?_
        obtain ⟨x33, hx33, h21⟩ := Option.bind_eq_some_iff.1 h21
        refine VQ_indexAddr h_s2 hx33 Try.underlying22 Try.sizeOf3 rfl rfl rfl ?_
        intro b34 o35 h36
        refine VQ_y (fun w' hw' => Y_load (El.int (El.kp h36 hw')) Try.isAgg3 rfl) rfl rfl rfl ?_
        refine VQ_y (fun w' hw' => Y_neq rfl rfl) rfl rfl rfl ?_
        refine VQ_to (fun _ _ => rfl) (fun w37 hk38 => ?_)
        have ht39 := Kp.tr hk38 hA hB
        replace hH := Hp.kp hH hk38
        replace h_s1 := Sl.tr h_s1 ht39
        replace h_s2 := Sl.tr h_s2 ht39
        replace hK := Tr.trans hK ht39
        replace hr8 := Tr.trans hr8 ht39
        replace hB := Nat.le_trans hB ht39.ex.size
        replace hA := ht39.new
        refine C_cond rfl (fun hc40 => ?_) (fun hc40 => ?_)
        · rw [if_pos hc40] at h21
          refine C_seq ?_
          refine C_region ?_
          refine V_y (Y_assign rfl) rfl rfl rfl ?_
          refine V_to (fun _ _ => rfl) ?_
          obtain rfl := Option.some.inj h21
          obtain rfl := (h22 : Lp.rt _ = _)
          rw [Lp.andThen_rt] at hm
          obtain rfl := Option.some.inj hm
          refine C_ret ?_
          try simp only [↓inBlock_ret, ↓then_ret]
          exact retQ rfl (Res.one Try.results14 rfl) ⟨rfl, hK.kp⟩
        · rw [if_neg (nt hc40)] at h21
          refine C_skip_to (fun _ _ => rfl) ?_
          refine C_region ?_
          refine V_y (Y_addI rfl rfl) rfl rfl rfl ?_
          refine V_y (Y_move rfl) rfl rfl rfl ?_
          obtain rfl := Option.some.inj h21
          refine V_end (fun a ha41 => ?_)
          exact ⟨(), hlt24, h22, ⟨A18, ha41.sub ⟨rfl, rfl, rfl, (congrArg (fun z => some (Value.int .i64 z)) (w64_succ hlt24 hn27)), trivial⟩, ⟨hH, hr8⟩⟩⟩
      · refine C_exit (fun a ha42 => ?_)
        exact ⟨((), A18), ha42.sub trivial, ⟨(h25 (eq_of_dec hle23 hc28)).symm, hH, hr8⟩⟩
    rintro ⟨s7, A13⟩ w10 ⟨rfl, hH14, hk11⟩ a ha12
    rw [Lp.andThen_fin] at hm
    replace hK := Tr.trans hK hk11
    replace hB := Nat.le_trans hB hk11.ex.size
    replace hA := hk11.new
    replace hH : Hp w.heap.size A13 w10 ([]) := hH14
    refine C_at (n := ⟨26, [], none⟩) (fun _ _ => rfl) ?_ ha12
    refine C_seq ?_
    refine C_region ?_
    refine V_y (Y_assign rfl) rfl rfl rfl ?_
    refine V_to (fun _ _ => rfl) ?_
    obtain rfl := Option.some.inj hm
    refine C_ret ?_
    try simp only [↓inBlock_ret, ↓then_ret]
    exact retQ rfl (Res.one Try.results14 rfl) ⟨rfl, hK.kp⟩

set_option maxRecDepth 4000 in
set_option maxHeartbeats 4000000 in
theorem portlaw2_PlanMakes_c (w : World) {A : Nat → Prop} (hA : ∀ b, w.heap.size ≤ b → A b) (forms : (List staff_Form)) (v_forms : Value) (h_forms : Sl A w v_forms forms) (demand : (List Int)) (v_demand : Value) (h_demand : Sl A w v_demand demand) {r : Bool} (hm : portlaw2_PlanMakes forms demand = some r) : Ret Try.prog 4 #[v_forms, v_demand] w fun v w' => v = .bool r ∧ Kp w w' := by
  unfold portlaw2_PlanMakes at hm
  refine enter Try.func4 rfl Try.ntmps4 rfl ?_
  have hA0 := hA
  have hB := Nat.le_refl w.heap.size
  have hK : Tr w.heap.size A w A w := Tr.refl hA
  have hH : Hp w.heap.size A w [] := Hp.nil
  refine C_seq ?_
  refine C_region ?_
  refine V_y (Y_assign rfl) rfl rfl rfl ?_
  refine V_to (fun _ _ => rfl) ?_
  refine C_seq ?_
  refine C_region ?_
  refine V_y (Y_move rfl) rfl rfl rfl ?_
  refine V_y (Y_move rfl) rfl rfl rfl ?_
  obtain ⟨x5, hx5, hm⟩ := Option.bind_eq_some_iff.1 hm
  refine V_call Try.call12 rfl rfl rfl rfl (staff_Plan_c w hA forms v_forms h_forms demand v_demand h_demand hx5) ?_
  rintro _ w9 ⟨v6, rfl, h7, hk10⟩
  obtain ⟨A11, ht12, hH13⟩ := Hp.addOwnd hH hB hA hk10 h7
  replace h_forms := Sl.tr h_forms ht12
  replace h_demand := Sl.tr h_demand ht12
  replace hK := Tr.trans hK ht12
  replace hB := Nat.le_trans hB ht12.ex.size
  replace hA := ht12.new
  replace hH : Hp w.heap.size A11 w9 (obS (α := Int) 3 v6 x5.1 :: []) := hH13
  refine V_y (Y_move rfl) rfl rfl rfl ?_
  refine V_y (Y_extract rfl rfl) rfl rfl rfl ?_
  refine V_y (Y_extract rfl rfl) rfl rfl rfl ?_
  refine V_y (Y_assign rfl) rfl rfl rfl ?_
  refine V_y (Y_assign rfl) rfl rfl rfl ?_
  refine V_to (fun _ _ => rfl) ?_
  refine C_seq ?_
  refine C_region ?_
  refine V_y (Y_move rfl) rfl rfl rfl ?_
  refine V_y (Y_move rfl) rfl rfl rfl ?_
  obtain ⟨x14, hx14, hm⟩ := Option.bind_eq_some_iff.1 hm
  refine V_call Try.call13 rfl rfl rfl rfl (portref2_PlanOf_c w9 hA forms v_forms h_forms demand v_demand h_demand hx14) ?_
  rintro _ w17 ⟨v15, rfl, h16, hk18⟩
  obtain ⟨A19, ht20, hH21⟩ := Hp.addOwnd hH hB hA hk18 h16
  replace h_forms := Sl.tr h_forms ht20
  replace h_demand := Sl.tr h_demand ht20
  replace hK := Tr.trans hK ht20
  replace hB := Nat.le_trans hB ht20.ex.size
  replace hA := ht20.new
  replace hH : Hp w.heap.size A19 w17 (obS (α := Int) 3 v15 x14.1 :: obS (α := Int) 3 v6 x5.1 :: []) := hH21
  refine V_y (Y_move rfl) rfl rfl rfl ?_
  refine V_y (Y_extract rfl rfl) rfl rfl rfl ?_
  refine V_y (Y_extract rfl rfl) rfl rfl rfl ?_
  refine V_y (Y_assign rfl) rfl rfl rfl ?_
  refine V_y (Y_assign rfl) rfl rfl rfl ?_
  refine V_to (fun _ _ => rfl) ?_
  refine C_seq ?_
  obtain ⟨s23, ho22, hm⟩ := Option.bind_eq_some_iff.1 hm
  refine C_cutG (ι := (Nat → Prop)) (fun (A28 : (Nat → Prop)) => [(4, .bool s23)]) (fun (A28 : (Nat → Prop)) => fun w' => Hp w.heap.size A28 w' (obS (α := Int) 3 v15 x14.1 :: obS (α := Int) 3 v6 x5.1 :: []) ∧ Tr w.heap.size A19 w17 A28 w') ?_ ?_
  · have hr24 : Tr w.heap.size A19 w17 A19 w17 := Tr.refl hA
    refine C_region ?_
    refine V_y (Y_move rfl) rfl rfl rfl ?_
    refine V_y (Y_move rfl) rfl rfl rfl ?_
    refine V_y (Y_eql rfl rfl) rfl rfl rfl ?_
    refine V_y (Y_move rfl) rfl rfl rfl ?_
    rcases Bool.eq_false_or_eq_true (x5.2 == x14.2) with hc30 | hc30
    · rw [if_pos hc30] at ho22
      refine V_ge rfl rfl rfl hc30 ?_
      refine V_y (Y_move rfl) rfl rfl rfl ?_
      refine V_ge rfl rfl rfl hc30 ?_
      refine V_y (Y_move rfl) rfl rfl rfl ?_
      refine V_ge rfl rfl rfl hc30 ?_
      obtain ⟨x31, hx31, ho22⟩ := Option.bind_eq_some_iff.1 ho22
      refine V_call Try.call14 rfl rfl rfl rfl (slices_Equal_Lint_int_c w17 (A := fun _ => True) (fun _ _ => trivial) x5.1 v6 (Hp.any (α := Int) (e := 3) (v := v6) (l := x5.1) hH (i := 1) rfl) x14.1 v15 (Hp.any (α := Int) (e := 3) (v := v15) (l := x14.1) hH (i := 0) rfl) hx31) ?_
      rintro _ w33 ⟨rfl, hk34⟩
      have ht35 := Kp.tr hk34 hA hB
      replace hH := Hp.kp hH hk34
      replace hK := Tr.trans hK ht35
      replace hr24 := Tr.trans hr24 ht35
      replace hB := Nat.le_trans hB ht35.ex.size
      replace hA := ht35.new
      refine V_y (Y_pick_te rfl hc30 rfl) rfl rfl rfl ?_
      refine V_y (Y_assign rfl) rfl rfl rfl ?_
      obtain rfl := Option.some.inj ho22
      refine V_end (fun a ha36 => ?_)
      exact ⟨A19, ha36.sub ⟨rfl, trivial⟩, ⟨hH, hr24⟩⟩
    · rw [if_neg (nt hc30)] at ho22
      refine V_gn rfl rfl rfl hc30 rfl rfl rfl ?_
      refine V_gn rfl rfl rfl hc30 rfl rfl rfl ?_
      refine V_gn rfl rfl rfl hc30 rfl rfl rfl ?_
      refine V_y (Y_pick_fe rfl hc30 rfl) rfl rfl rfl ?_
      refine V_y (Y_assign rfl) rfl rfl rfl ?_
      obtain rfl := Option.some.inj ho22
      refine V_end (fun a ha37 => ?_)
      exact ⟨A19, ha37.sub ⟨rfl, trivial⟩, ⟨hH, hr24⟩⟩
  rintro A28 w25 ⟨hH29, hk26⟩ a ha27
  replace hK := Tr.trans hK hk26
  replace hB := Nat.le_trans hB hk26.ex.size
  replace hA := hk26.new
  replace hH : Hp w.heap.size A28 w25 (obS (α := Int) 3 v15 x14.1 :: obS (α := Int) 3 v6 x5.1 :: []) := hH29
  refine C_at (n := ⟨29, [], none⟩) (fun _ _ => rfl) ?_ ha27
  obtain rfl := Option.some.inj hm
  refine C_ret ?_
  try simp only [↓inBlock_ret, ↓then_ret]
  exact retQ rfl (Res.one Try.results4 rfl) ⟨rfl, hK.kp⟩

end Go.Proofs.Ytlclnbcjebpfkaa.W
