/-
  Written by program (gen.py) from the IR of the dump: each function computes its model.
-/
import Derived.Test.YtcokjipcmpfgbaaDoorKnowChecksW0
namespace Go.Proofs.YtcokjipcmpfgbaaDoor.W
open Go Go.RowKit Go.Pu Go.Gw Go.Proofs Go.Proofs.YtcokjipcmpfgbaaDoor.M
set_option linter.unusedVariables false
set_option linter.unusedSimpArgs false

set_option maxRecDepth 4000 in
set_option maxHeartbeats 4000000 in
theorem portref2_ArticlesFault_c (w : World) {A : Nat → Prop} (hA : ∀ b, w.heap.size ≤ b → A b) (hT : Mx Tryd.prog 2 A w) (l : (List know_Article)) (v_l : Value) (h_l : Sl A w v_l l) {r : Int} (hm : portref2_ArticlesFault l = some r) : Ret Tryd.prog 14 #[v_l] w fun v w' => v = .int .i64 r ∧ Kp w w' := by
  unfold portref2_ArticlesFault at hm
  refine enter Tryd.func14 rfl Tryd.ntmps14 rfl ?_
  have hA0 := hA
  have hB := Nat.le_refl w.heap.size
  have hK : Tr w.heap.size A w A w := Tr.refl hA
  have hH : Hp w.heap.size A w [] := Hp.nil
  refine C_seq ?_
  refine C_region ?_
  refine V_y (Y_assign rfl) rfl rfl rfl ?_
  refine V_to (fun _ _ => rfl) ?_
  refine C_seq ?_
  refine C_seq ?_
  refine C_region ?_
  refine V_y (Y_move rfl) rfl rfl rfl ?_
  refine V_y (Y_lenSl h_l rfl Tryd.underlying27 rfl) rfl rfl rfl ?_
  refine V_y (Y_gtr rfl rfl) rfl rfl rfl ?_
  refine V_to (fun _ _ => rfl) ?_
  refine C_cond rfl (fun hc3 => ?_) (fun hc3 => ?_)
  · rw [if_pos hc3] at hm
    refine C_seq ?_
    refine C_region ?_
    refine V_y (Y_assign rfl) rfl rfl rfl ?_
    refine V_to (fun _ _ => rfl) ?_
    obtain rfl := Option.some.inj hm
    refine C_ret ?_
    try simp only [↓inBlock_ret, ↓then_ret]
    exact retQ rfl (Res.one Tryd.results14 rfl) ⟨rfl, hK.kp⟩
  · rw [if_neg (nt hc3)] at hm
    refine C_skip_to (fun _ _ => rfl) ?_
    refine C_seq ?_
    refine C_seq ?_
    refine C_region ?_
    refine V_y (Y_move rfl) rfl rfl rfl ?_
    refine V_y (Y_lenSl h_l rfl Tryd.underlying27 rfl) rfl rfl rfl ?_
    refine V_y (Y_move rfl) rfl rfl rfl ?_
    refine V_to (fun _ _ => rfl) ?_
    have hn25 := Sl.le h_l
    obtain ⟨o4, ho4, hm⟩ := Option.bind_eq_some_iff.1 hm
    refine C_cutG (ι := (Unit × (Nat → Prop))) (fun ⟨s5, A12⟩ => []) (fun ⟨s5, A12⟩ => fun w' => o4 = .fin s5 ∧ Hp w.heap.size A12 w' ([]) ∧ Tr w.heap.size A w A12 w') ?_ ?_
    · refine C_block ?_
      refine C_range ho4 (fun k7 _ a w' => ∃ i : (Nat → Prop), Has ⟨94, [], none⟩ a ([(0, v_l), (11, v_l), (12, .int .i64 (l.length : Int)), (13, .int .i64 (k7 : Int))]) ∧ Hp w.heap.size i w' ([]) ∧ Tr w.heap.size A w i w') (fun a ha => ⟨A, ha.sub ⟨rfl, rfl, rfl, rfl, trivial⟩, ⟨hH, Tr.refl hA⟩⟩) ?_
      rintro K k7 _ a w15 ⟨A16, ha155, hH17, hr6⟩ hle21 K24 h23
      refine C_of ?_ ha155
      replace h_l := Sl.tr h_l hr6
      replace hK := Tr.trans hK hr6
      replace hB := Nat.le_trans hB hr6.ex.size
      replace hA := hr6.new
      replace hH : Hp w.heap.size A16 w15 ([]) := hH17
      refine C_seq (C_region (V_y (Y_lss rfl rfl) rfl rfl rfl (V_to (fun _ _ => rfl) ?_)))
      refine C_seq ?_
      refine C_cond rfl (fun hc26 => ?_) (fun hc26 => ?_)
      · have hlt22 := lt_of_dec hc26
        obtain ⟨x18, h19, h20⟩ := K24 hlt22
        refine C_skip_to (fun _ _ => rfl) ?_
        refine C_seq ?_
        obtain ⟨o27, ho27, h19⟩ := Option.bind_eq_some_iff.1 h19
        refine C_cutG (ι := (Unit × (Nat → Prop))) (fun ⟨s28, A33⟩ => [(0, v_l), (11, v_l), (12, .int .i64 (l.length : Int)), (13, .int .i64 (k7 : Int))]) (fun ⟨s28, A33⟩ => fun w' => o27 = .fin s28 ∧ Hp w.heap.size A33 w' ([]) ∧ Tr w.heap.size A16 w15 A33 w') ?_ ?_
        · have hr29 : Tr w.heap.size A16 w15 A16 w15 := Tr.refl hA
          refine C_block ?_
          refine C_seq ?_
          refine C_region ?_
          refine V_y (Y_move rfl) rfl rfl rfl ?_
          obtain ⟨x35, hx35, ho27⟩ := Option.bind_eq_some_iff.1 ho27
          refine V_indexAddr h_l hx35 Tryd.underlying27 Tryd.sizeOf69 rfl rfl rfl ?_
          intro b36 o37 h38
          obtain ⟨v39, h41, h40⟩ := El_know_Article h38
          refine V_y (Y_loadA h41 Tryd.isAgg69 Tryd.sizeOf69 rfl) rfl rfl rfl ?_
          refine V_alloc Tryd.zeroValue69 rfl ?_
          intro b42 w43 h44
          refine V_y (Y_assign rfl) rfl rfl rfl ?_
          have h49 : (v39).oneCell' = true := by obtain ⟨_, _, e, _⟩ := Sl.form h40; rw [e]; rfl
          refine V_storeNew h44 Tryd.sizeOf69 rfl rfl rfl rfl (by exact (List.forall_mem_cons.2 ⟨rfl, (List.forall_mem_cons.2 ⟨rfl, (List.forall_mem_cons.2 ⟨h49, (fun _ h => nomatch h)⟩)⟩)⟩)) ?_
          intro w45 h46
          have hk51 := h46.kp
          have h50 : El (α := know_Article) A16 w45 b42 0 x35 := h46.el hA ⟨[.int .i64 x35.id], _, rfl, rfl, ⟨[.int .i64 x35.group], _, rfl, rfl, ⟨_, rfl, h40⟩⟩⟩
          have ht52 := Kp.tr hk51 hA hB
          replace hH := Hp.kp hH hk51
          replace h_l := Sl.tr h_l ht52
          replace h38 := El.tr h38 ht52
          replace h40 := Sl.tr h40 ht52
          replace hK := Tr.trans hK ht52
          replace hr6 := Tr.trans hr6 ht52
          replace hr29 := Tr.trans hr29 ht52
          replace hB := Nat.le_trans hB ht52.ex.size
          replace hA := ht52.new
          refine V_to (fun _ _ => rfl) ?_
          refine C_seq ?_
          refine C_block ?_
          refine C_seq ?_
          refine C_region ?_
          have h53 := El_know_Article_0 h50
          refine V_y (Y_fieldAddr Tryd.underlying69 rfl Tryd.sizeOf3 (by decide) rfl) rfl rfl rfl ?_
          refine V_y (Y_load (El.int h53) Tryd.isAgg3 rfl) rfl rfl rfl ?_
          refine V_y (Y_lss rfl rfl) rfl rfl rfl ?_
          refine V_y (Y_move rfl) rfl rfl rfl ?_
          refine V_cut 4 (fun _ : Unit => [(0, v_l), (3, .int .i64 (k7 : Int)), (4, .pointer (some ⟨b42, 0, none⟩)), (11, v_l), (12, .int .i64 (l.length : Int)), (13, .int .i64 (k7 : Int)), (26, .bool ((decide (x35.id < 1)) || (decide ((3000000 : Int) < x35.id))))]) (fun _ w' => w45 = w') ?_ ?_
          · simp only [List.take, List.drop]
            rcases Bool.eq_false_or_eq_true (decide (x35.id < 1)) with hc54 | hc54
            · refine V_gn rfl rfl rfl hc54 rfl rfl rfl ?_
              refine V_gn rfl rfl rfl hc54 rfl rfl rfl ?_
              refine V_gn rfl rfl rfl hc54 rfl rfl rfl ?_
              refine V_y (Y_pick_te rfl hc54 rfl) rfl rfl rfl ?_
              exact V_end fun a ha => ⟨(), ha.sub ⟨rfl, rfl, rfl, rfl, rfl, rfl, (by rw [hc54]; rfl), trivial⟩, rfl⟩
            · refine V_ge rfl rfl rfl hc54 ?_
              have h56 := El_know_Article_0 h50
              refine V_y (Y_fieldAddr Tryd.underlying69 rfl Tryd.sizeOf3 (by decide) rfl) rfl rfl rfl ?_
              refine V_ge rfl rfl rfl hc54 ?_
              refine V_y (Y_load (El.int h56) Tryd.isAgg3 rfl) rfl rfl rfl ?_
              refine V_ge rfl rfl rfl hc54 ?_
              refine V_y (Y_gtr rfl rfl) rfl rfl rfl ?_
              refine V_y (Y_pick_fe rfl hc54 rfl) rfl rfl rfl ?_
              exact V_end fun a ha => ⟨(), ha.sub ⟨rfl, rfl, rfl, rfl, rfl, rfl, (by rw [hc54]; rfl), trivial⟩, rfl⟩
          simp only [List.take, List.drop]
          rintro _ _ rfl
          refine V_y (Y_assign rfl) rfl rfl rfl ?_
          refine V_to (fun _ _ => rfl) ?_
          refine C_cond rfl (fun hc57 => ?_) (fun hc57 => ?_)
          · rw [if_pos hc57] at ho27
            refine C_seq ?_
            refine C_region ?_
            refine V_y (Y_assign rfl) rfl rfl rfl ?_
            refine V_to (fun _ _ => rfl) ?_
            obtain rfl := Option.some.inj ho27
            rw [Lp.andThen_rt] at h19
            obtain rfl := Option.some.inj h19
            obtain rfl := (h20 : Lp.rt _ = _)
            rw [Lp.andThen_rt] at hm
            obtain rfl := Option.some.inj hm
            refine C_ret ?_
            try simp only [↓inBlock_ret, ↓then_ret]
            exact retQ rfl (Res.one Tryd.results14 rfl) ⟨rfl, hK.kp⟩
          · rw [if_neg (nt hc57)] at ho27
            refine C_seq ?_
            refine C_region_q Tryd_mixed (by kernel_rfl) ?_
            refine VQ_y (fun w' hw' => Y_move rfl) rfl rfl rfl ?_
            refine VQ_y (fun w' hw' => Y_gtr rfl rfl) rfl rfl rfl ?_
            refine VQ_y (fun w' hw' => Y_move rfl) rfl rfl rfl ?_
            obtain ⟨s59, hs59, ho27⟩ := Option.bind_eq_some_iff.1 ho27
            refine VQ_cut 10 (fun _ : Unit => [(0, v_l), (4, .pointer (some ⟨b42, 0, none⟩)), (11, v_l), (12, .int .i64 (l.length : Int)), (13, .int .i64 (k7 : Int)), (40, .bool s59)]) (fun _ => True) ?_ ?_
            · simp only [List.take, List.drop]
              rcases Bool.eq_false_or_eq_true (decide ((0 : Int) < (k7 : Int))) with hc58 | hc58
              · rw [if_pos hc58] at hs59
                refine VQ_ge rfl rfl rfl hc58 ?_
                have h60 := El_know_Article_0 h50
                refine VQ_y (fun w' hw' => Y_fieldAddr Tryd.underlying69 rfl Tryd.sizeOf3 (by decide) rfl) rfl rfl rfl ?_
                refine VQ_ge rfl rfl rfl hc58 ?_
                refine VQ_y (fun w' hw' => Y_load (El.int (El.kp h60 hw')) Tryd.isAgg3 rfl) rfl rfl rfl ?_
                refine VQ_ge rfl rfl rfl hc58 ?_
                refine VQ_y (fun w' hw' => Y_move rfl) rfl rfl rfl ?_
                refine VQ_ge rfl rfl rfl hc58 ?_
                refine VQ_y (fun w' hw' => Y_move rfl) rfl rfl rfl ?_
                refine VQ_ge rfl rfl rfl hc58 ?_
                refine VQ_y (fun w' hw' => Y_subI rfl rfl) rfl rfl rfl ?_
                refine VQ_ge rfl rfl rfl hc58 ?_
                obtain ⟨x61, hx61, hs59⟩ := Option.bind_eq_some_iff.1 hs59
                refine VQ_indexAddr h_l hx61 Tryd.underlying27 Tryd.sizeOf69 rfl rfl rfl ?_
                intro b62 o63 h64
                refine VQ_ge rfl rfl rfl hc58 ?_
                have h65 := El_know_Article_0 h64
                refine VQ_y (fun w' hw' => Y_fieldAddr Tryd.underlying69 rfl Tryd.sizeOf3 (by decide) rfl) rfl rfl rfl ?_
                refine VQ_ge rfl rfl rfl hc58 ?_
                refine VQ_y (fun w' hw' => Y_load (El.int (El.kp h65 hw')) Tryd.isAgg3 rfl) rfl rfl rfl ?_
                refine VQ_ge rfl rfl rfl hc58 ?_
                refine VQ_y (fun w' hw' => Y_leq rfl rfl) rfl rfl rfl ?_
                refine VQ_y (fun _ _ => Y_pick_te rfl hc58 rfl) rfl rfl rfl ?_
                obtain rfl := Option.some.inj hs59
                exact VQ_end fun a ha => ⟨(), ha.sub ⟨rfl, rfl, rfl, rfl, rfl, rfl, trivial⟩, trivial⟩
              · rw [if_neg (nt hc58)] at hs59
                refine VQ_gn rfl rfl rfl hc58 rfl rfl rfl ?_
                refine VQ_gn rfl rfl rfl hc58 rfl rfl rfl ?_
                refine VQ_gn rfl rfl rfl hc58 rfl rfl rfl ?_
                refine VQ_gn rfl rfl rfl hc58 rfl rfl rfl ?_
                refine VQ_gn rfl rfl rfl hc58 rfl rfl rfl ?_
                refine VQ_gn rfl rfl rfl hc58 rfl rfl rfl ?_
                refine VQ_gn rfl rfl rfl hc58 rfl rfl rfl ?_
                refine VQ_gn rfl rfl rfl hc58 rfl rfl rfl ?_
                refine VQ_gn rfl rfl rfl hc58 rfl rfl rfl ?_
                refine VQ_y (fun _ _ => Y_pick_fe rfl hc58 rfl) rfl rfl rfl ?_
                obtain rfl := Option.some.inj hs59
                exact VQ_end fun a ha => ⟨(), ha.sub ⟨rfl, rfl, rfl, rfl, rfl, rfl, trivial⟩, trivial⟩
            simp only [List.take, List.drop]
            rintro _ _
            refine VQ_y (fun w' hw' => Y_assign rfl) rfl rfl rfl ?_
            refine VQ_to (fun _ _ => rfl) (fun w66 hk67 => ?_)
            have ht68 := Kp.tr hk67 hA hB
            replace hH := Hp.kp hH hk67
            replace h_l := Sl.tr h_l ht68
            replace h50 := El.tr h50 ht68
            replace hK := Tr.trans hK ht68
            replace hr6 := Tr.trans hr6 ht68
            replace hr29 := Tr.trans hr29 ht68
            replace hB := Nat.le_trans hB ht68.ex.size
            replace hA := ht68.new
            refine C_cond rfl (fun hc69 => ?_) (fun hc69 => ?_)
            · rw [if_pos hc69] at ho27
              refine C_seq ?_
              refine C_region ?_
              refine V_y (Y_assign rfl) rfl rfl rfl ?_
              refine V_to (fun _ _ => rfl) ?_
              obtain rfl := Option.some.inj ho27
              rw [Lp.andThen_rt] at h19
              obtain rfl := Option.some.inj h19
              obtain rfl := (h20 : Lp.rt _ = _)
              rw [Lp.andThen_rt] at hm
              obtain rfl := Option.some.inj hm
              refine C_ret ?_
              try simp only [↓inBlock_ret, ↓then_ret]
              exact retQ rfl (Res.one Tryd.results14 rfl) ⟨rfl, hK.kp⟩
            · rw [if_neg (nt hc69)] at ho27
              refine C_seq ?_
              refine C_region ?_
              have h70 := El_know_Article_1 h50
              refine V_y (Y_fieldAddr Tryd.underlying69 rfl Tryd.sizeOf3 (by decide) rfl) rfl rfl rfl ?_
              refine V_y (Y_load (El.int h70) Tryd.isAgg3 rfl) rfl rfl rfl ?_
              refine V_y (Y_lss rfl rfl) rfl rfl rfl ?_
              refine V_y (Y_move rfl) rfl rfl rfl ?_
              refine V_cut 4 (fun _ : Unit => [(0, v_l), (4, .pointer (some ⟨b42, 0, none⟩)), (11, v_l), (12, .int .i64 (l.length : Int)), (13, .int .i64 (k7 : Int)), (49, .bool ((decide (x35.group < 0)) || (decide ((40 : Int) < x35.group))))]) (fun _ w' => w66 = w') ?_ ?_
              · simp only [List.take, List.drop]
                rcases Bool.eq_false_or_eq_true (decide (x35.group < 0)) with hc71 | hc71
                · refine V_gn rfl rfl rfl hc71 rfl rfl rfl ?_
                  refine V_gn rfl rfl rfl hc71 rfl rfl rfl ?_
                  refine V_gn rfl rfl rfl hc71 rfl rfl rfl ?_
                  refine V_y (Y_pick_te rfl hc71 rfl) rfl rfl rfl ?_
                  exact V_end fun a ha => ⟨(), ha.sub ⟨rfl, rfl, rfl, rfl, rfl, (by rw [hc71]; rfl), trivial⟩, rfl⟩
                · refine V_ge rfl rfl rfl hc71 ?_
                  have h73 := El_know_Article_1 h50
                  refine V_y (Y_fieldAddr Tryd.underlying69 rfl Tryd.sizeOf3 (by decide) rfl) rfl rfl rfl ?_
                  refine V_ge rfl rfl rfl hc71 ?_
                  refine V_y (Y_load (El.int h73) Tryd.isAgg3 rfl) rfl rfl rfl ?_
                  refine V_ge rfl rfl rfl hc71 ?_
                  refine V_y (Y_gtr rfl rfl) rfl rfl rfl ?_
                  refine V_y (Y_pick_fe rfl hc71 rfl) rfl rfl rfl ?_
                  exact V_end fun a ha => ⟨(), ha.sub ⟨rfl, rfl, rfl, rfl, rfl, (by rw [hc71]; rfl), trivial⟩, rfl⟩
              simp only [List.take, List.drop]
              rintro _ _ rfl
              refine V_y (Y_assign rfl) rfl rfl rfl ?_
              refine V_to (fun _ _ => rfl) ?_
              refine C_cond rfl (fun hc74 => ?_) (fun hc74 => ?_)
              · rw [if_pos hc74] at ho27
                refine C_seq ?_
                refine C_region ?_
                refine V_y (Y_assign rfl) rfl rfl rfl ?_
                refine V_to (fun _ _ => rfl) ?_
                obtain rfl := Option.some.inj ho27
                rw [Lp.andThen_rt] at h19
                obtain rfl := Option.some.inj h19
                obtain rfl := (h20 : Lp.rt _ = _)
                rw [Lp.andThen_rt] at hm
                obtain rfl := Option.some.inj hm
                refine C_ret ?_
                try simp only [↓inBlock_ret, ↓then_ret]
                exact retQ rfl (Res.one Tryd.results14 rfl) ⟨rfl, hK.kp⟩
              · rw [if_neg (nt hc74)] at ho27
                refine C_seq ?_
                refine C_region ?_
                have h75 := El_know_Article_2 h50
                refine V_y (Y_fieldAddr Tryd.underlying69 rfl Tryd.sizeOf63 (by decide) rfl) rfl rfl rfl ?_
                obtain ⟨v76, h77, h78⟩ := El.list h75
                refine V_y (Y_load h77 Tryd.isAgg63 rfl) rfl rfl rfl ?_
                refine V_y (Y_lenSl h78 rfl Tryd.underlying63 rfl) rfl rfl rfl ?_
                refine V_y (Y_lss rfl rfl) rfl rfl rfl ?_
                refine V_y (Y_move rfl) rfl rfl rfl ?_
                refine V_cut 5 (fun _ : Unit => [(0, v_l), (4, .pointer (some ⟨b42, 0, none⟩)), (11, v_l), (12, .int .i64 (l.length : Int)), (13, .int .i64 (k7 : Int)), (60, .bool ((decide ((x35.versions.length : Int) < 1)) || (decide ((40 : Int) < (x35.versions.length : Int)))))]) (fun _ w' => w66 = w') ?_ ?_
                · simp only [List.take, List.drop]
                  rcases Bool.eq_false_or_eq_true (decide ((x35.versions.length : Int) < 1)) with hc79 | hc79
                  · refine V_gn rfl rfl rfl hc79 rfl rfl rfl ?_
                    refine V_gn rfl rfl rfl hc79 rfl rfl rfl ?_
                    refine V_gn rfl rfl rfl hc79 rfl rfl rfl ?_
                    refine V_gn rfl rfl rfl hc79 rfl rfl rfl ?_
                    refine V_y (Y_pick_te rfl hc79 rfl) rfl rfl rfl ?_
                    exact V_end fun a ha => ⟨(), ha.sub ⟨rfl, rfl, rfl, rfl, rfl, (by rw [hc79]; rfl), trivial⟩, rfl⟩
                  · refine V_ge rfl rfl rfl hc79 ?_
                    have h81 := El_know_Article_2 h50
                    refine V_y (Y_fieldAddr Tryd.underlying69 rfl Tryd.sizeOf63 (by decide) rfl) rfl rfl rfl ?_
                    refine V_ge rfl rfl rfl hc79 ?_
                    obtain ⟨v82, h83, h84⟩ := El.list h81
                    refine V_y (Y_load h83 Tryd.isAgg63 rfl) rfl rfl rfl ?_
                    refine V_ge rfl rfl rfl hc79 ?_
                    refine V_y (Y_lenSl h84 rfl Tryd.underlying63 rfl) rfl rfl rfl ?_
                    refine V_ge rfl rfl rfl hc79 ?_
                    refine V_y (Y_gtr rfl rfl) rfl rfl rfl ?_
                    refine V_y (Y_pick_fe rfl hc79 rfl) rfl rfl rfl ?_
                    exact V_end fun a ha => ⟨(), ha.sub ⟨rfl, rfl, rfl, rfl, rfl, (by rw [hc79]; rfl), trivial⟩, rfl⟩
                simp only [List.take, List.drop]
                rintro _ _ rfl
                refine V_y (Y_assign rfl) rfl rfl rfl ?_
                refine V_to (fun _ _ => rfl) ?_
                refine C_cond rfl (fun hc85 => ?_) (fun hc85 => ?_)
                · rw [if_pos hc85] at ho27
                  refine C_seq ?_
                  refine C_region ?_
                  refine V_y (Y_assign rfl) rfl rfl rfl ?_
                  refine V_to (fun _ _ => rfl) ?_
                  obtain rfl := Option.some.inj ho27
                  rw [Lp.andThen_rt] at h19
                  obtain rfl := Option.some.inj h19
                  obtain rfl := (h20 : Lp.rt _ = _)
                  rw [Lp.andThen_rt] at hm
                  obtain rfl := Option.some.inj hm
                  refine C_ret ?_
                  try simp only [↓inBlock_ret, ↓then_ret]
                  exact retQ rfl (Res.one Tryd.results14 rfl) ⟨rfl, hK.kp⟩
                · rw [if_neg (nt hc85)] at ho27
                  refine C_skip_to (fun _ _ => rfl) ?_
                  refine C_seq ?_
                  refine C_region ?_
                  have h86 := El_know_Article_2 h50
                  refine V_y (Y_fieldAddr Tryd.underlying69 rfl Tryd.sizeOf63 (by decide) rfl) rfl rfl rfl ?_
                  obtain ⟨v87, h88, h89⟩ := El.list h86
                  refine V_y (Y_load h88 Tryd.isAgg63 rfl) rfl rfl rfl ?_
                  refine V_y (Y_lenSl h89 rfl Tryd.underlying63 rfl) rfl rfl rfl ?_
                  refine V_y (Y_move rfl) rfl rfl rfl ?_
                  refine V_to (fun _ _ => rfl) ?_
                  have hn110 := Sl.le h89
                  obtain ⟨o90, ho90, ho27⟩ := Option.bind_eq_some_iff.1 ho27
                  refine C_cutG (ι := (Unit × (Nat → Prop))) (fun ⟨s91, A97⟩ => [(0, v_l), (11, v_l), (12, .int .i64 (l.length : Int)), (13, .int .i64 (k7 : Int))]) (fun ⟨s91, A97⟩ => fun w' => o90 = .fin s91 ∧ Hp w.heap.size A97 w' ([]) ∧ Tr w.heap.size A16 w66 A97 w') ?_ ?_
                  · refine C_block ?_
                    refine C_range ho90 (fun k93 _ a w' => ∃ i : (Nat → Prop), Has ⟨94, [], none⟩ a ([(0, v_l), (4, .pointer (some ⟨b42, 0, none⟩)), (11, v_l), (12, .int .i64 (l.length : Int)), (13, .int .i64 (k7 : Int)), (62, v87), (63, .int .i64 (x35.versions.length : Int)), (64, .int .i64 (k93 : Int))]) ∧ Hp w.heap.size i w' ([]) ∧ Tr w.heap.size A16 w66 i w') (fun a ha => ⟨A16, ha.sub ⟨rfl, rfl, rfl, rfl, rfl, rfl, rfl, rfl, trivial⟩, ⟨hH, Tr.refl hA⟩⟩) ?_
                    rintro K k93 _ a w100 ⟨A101, ha151, hH102, hr92⟩ hle106 K109 h108
                    refine C_of ?_ ha151
                    replace h_l := Sl.tr h_l hr92
                    replace h50 := El.tr h50 hr92
                    replace h89 := Sl.tr h89 hr92
                    replace hK := Tr.trans hK hr92
                    replace hr6 := Tr.trans hr6 hr92
                    replace hr29 := Tr.trans hr29 hr92
                    replace hB := Nat.le_trans hB hr92.ex.size
                    replace hA := hr92.new
                    replace hH : Hp w.heap.size A101 w100 ([]) := hH102
                    refine C_seq (C_region (V_y (Y_lss rfl rfl) rfl rfl rfl (V_to (fun _ _ => rfl) ?_)))
                    refine C_seq ?_
                    refine C_cond rfl (fun hc111 => ?_) (fun hc111 => ?_)
                    · have hlt107 := lt_of_dec hc111
                      obtain ⟨x103, h104, h105⟩ := K109 hlt107
                      refine C_skip_to (fun _ _ => rfl) ?_
                      refine C_seq ?_
                      refine C_block ?_
                      refine C_seq ?_
                      refine C_region ?_
                      refine V_y (Y_move rfl) rfl rfl rfl ?_
                      obtain ⟨x112, hx112, h104⟩ := Option.bind_eq_some_iff.1 h104
                      refine V_indexAddr h89 hx112 Tryd.underlying63 Tryd.sizeOf71 rfl rfl rfl ?_
                      intro b113 o114 h115
                      obtain ⟨h116, _⟩ := El_know_Version h115
                      refine V_y (Y_loadA h116 Tryd.isAgg71 Tryd.sizeOf71 rfl) rfl rfl rfl ?_
                      refine V_alloc Tryd.zeroValue71 rfl ?_
                      intro b117 w118 h119
                      refine V_y (Y_assign rfl) rfl rfl rfl ?_
                      refine V_storeNew h119 Tryd.sizeOf71 rfl rfl rfl rfl (by exact (List.forall_mem_cons.2 ⟨rfl, (List.forall_mem_cons.2 ⟨rfl, (List.forall_mem_cons.2 ⟨rfl, (fun _ h => nomatch h)⟩)⟩)⟩)) ?_
                      intro w120 h121
                      have hk123 := h121.kp
                      have h122 : El (α := know_Version) A101 w120 b117 0 x112 := h121.el hA ⟨[.int .i64 x112.at_], _, rfl, rfl, ⟨[.string x112.title], _, rfl, rfl, rfl⟩⟩
                      have ht124 := Kp.tr hk123 hA hB
                      replace hH := Hp.kp hH hk123
                      replace h_l := Sl.tr h_l ht124
                      replace h50 := El.tr h50 ht124
                      replace h89 := Sl.tr h89 ht124
                      replace h115 := El.tr h115 ht124
                      replace hK := Tr.trans hK ht124
                      replace hr6 := Tr.trans hr6 ht124
                      replace hr29 := Tr.trans hr29 ht124
                      replace hr92 := Tr.trans hr92 ht124
                      replace hB := Nat.le_trans hB ht124.ex.size
                      replace hA := ht124.new
                      refine V_to (fun _ _ => rfl) ?_
                      refine C_seq ?_
                      refine C_seq ?_
                      refine C_region ?_
                      have h125 := El_know_Version_0 h122
                      refine V_y (Y_fieldAddr Tryd.underlying71 rfl Tryd.sizeOf3 (by decide) rfl) rfl rfl rfl ?_
                      refine V_y (Y_load (El.int h125) Tryd.isAgg3 rfl) rfl rfl rfl ?_
                      refine V_call Tryd.call37 rfl rfl rfl rfl (portref2_IsMoment_c w120 x112.at_) ?_
                      rintro _ _ ⟨rfl, rfl⟩
                      refine V_y (Y_not rfl) rfl rfl rfl ?_
                      refine V_to (fun _ _ => rfl) ?_
                      refine C_cond rfl (fun hc126 => ?_) (fun hc126 => ?_)
                      · rw [if_pos hc126] at h104
                        refine C_seq ?_
                        refine C_region ?_
                        refine V_y (Y_assign rfl) rfl rfl rfl ?_
                        refine V_to (fun _ _ => rfl) ?_
                        obtain rfl := Option.some.inj h104
                        obtain rfl := (h105 : Lp.rt _ = _)
                        rw [Lp.andThen_rt] at ho27
                        obtain rfl := Option.some.inj ho27
                        rw [Lp.andThen_rt] at h19
                        obtain rfl := Option.some.inj h19
                        obtain rfl := (h20 : Lp.rt _ = _)
                        rw [Lp.andThen_rt] at hm
                        obtain rfl := Option.some.inj hm
                        refine C_ret ?_
                        try simp only [↓inBlock_ret, ↓then_ret]
                        exact retQ rfl (Res.one Tryd.results14 rfl) ⟨rfl, hK.kp⟩
                      · rw [if_neg (nt hc126)] at h104
                        refine C_skip_to (fun _ _ => rfl) ?_
                        refine C_seq ?_
                        refine C_seq ?_
                        refine C_region_q Tryd_mixed (by kernel_rfl) ?_
                        refine VQ_y (fun w' hw' => Y_move rfl) rfl rfl rfl ?_
                        refine VQ_y (fun w' hw' => Y_gtr rfl rfl) rfl rfl rfl ?_
                        refine VQ_y (fun w' hw' => Y_move rfl) rfl rfl rfl ?_
                        obtain ⟨s128, hs128, h104⟩ := Option.bind_eq_some_iff.1 h104
                        refine VQ_cut 11 (fun _ : Unit => [(0, v_l), (4, .pointer (some ⟨b42, 0, none⟩)), (6, .pointer (some ⟨b117, 0, none⟩)), (11, v_l), (12, .int .i64 (l.length : Int)), (13, .int .i64 (k7 : Int)), (62, v87), (63, .int .i64 (x35.versions.length : Int)), (64, .int .i64 (k93 : Int)), (86, .bool s128)]) (fun _ => True) ?_ ?_
                        · simp only [List.take, List.drop]
                          rcases Bool.eq_false_or_eq_true (decide ((0 : Int) < (k93 : Int))) with hc127 | hc127
                          · rw [if_pos hc127] at hs128
                            refine VQ_ge rfl rfl rfl hc127 ?_
                            have h129 := El_know_Version_0 h122
                            refine VQ_y (fun w' hw' => Y_fieldAddr Tryd.underlying71 rfl Tryd.sizeOf3 (by decide) rfl) rfl rfl rfl ?_
                            refine VQ_ge rfl rfl rfl hc127 ?_
                            refine VQ_y (fun w' hw' => Y_load (El.int (El.kp h129 hw')) Tryd.isAgg3 rfl) rfl rfl rfl ?_
                            refine VQ_ge rfl rfl rfl hc127 ?_
                            have h130 := El_know_Article_2 h50
                            refine VQ_y (fun w' hw' => Y_fieldAddr Tryd.underlying69 rfl Tryd.sizeOf63 (by decide) rfl) rfl rfl rfl ?_
                            refine VQ_ge rfl rfl rfl hc127 ?_
                            obtain ⟨v131, h132, h133⟩ := El.list h130
                            refine VQ_y (fun w' hw' => Y_load ((World.cell?_of_block (hw'.block _ (World.block_lt_of_cell? _ _ h132))).trans h132) Tryd.isAgg63 rfl) rfl rfl rfl ?_
                            refine VQ_ge rfl rfl rfl hc127 ?_
                            refine VQ_y (fun w' hw' => Y_move rfl) rfl rfl rfl ?_
                            refine VQ_ge rfl rfl rfl hc127 ?_
                            refine VQ_y (fun w' hw' => Y_subI rfl rfl) rfl rfl rfl ?_
                            refine VQ_ge rfl rfl rfl hc127 ?_
                            obtain ⟨x134, hx134, hs128⟩ := Option.bind_eq_some_iff.1 hs128
                            refine VQ_indexAddr h133 hx134 Tryd.underlying63 Tryd.sizeOf71 rfl rfl rfl ?_
                            intro b135 o136 h137
                            refine VQ_ge rfl rfl rfl hc127 ?_
                            have h138 := El_know_Version_0 h137
                            refine VQ_y (fun w' hw' => Y_fieldAddr Tryd.underlying71 rfl Tryd.sizeOf3 (by decide) rfl) rfl rfl rfl ?_
                            refine VQ_ge rfl rfl rfl hc127 ?_
                            refine VQ_y (fun w' hw' => Y_load (El.int (El.kp h138 hw')) Tryd.isAgg3 rfl) rfl rfl rfl ?_
                            refine VQ_ge rfl rfl rfl hc127 ?_
                            refine VQ_y (fun w' hw' => Y_lss rfl rfl) rfl rfl rfl ?_
                            refine VQ_y (fun _ _ => Y_pick_te rfl hc127 rfl) rfl rfl rfl ?_
                            obtain rfl := Option.some.inj hs128
                            exact VQ_end fun a ha => ⟨(), ha.sub ⟨rfl, rfl, rfl, rfl, rfl, rfl, rfl, rfl, rfl, rfl, trivial⟩, trivial⟩
                          · rw [if_neg (nt hc127)] at hs128
                            refine VQ_gn rfl rfl rfl hc127 rfl rfl rfl ?_
                            refine VQ_gn rfl rfl rfl hc127 rfl rfl rfl ?_
                            refine VQ_gn rfl rfl rfl hc127 rfl rfl rfl ?_
                            refine VQ_gn rfl rfl rfl hc127 rfl rfl rfl ?_
                            refine VQ_gn rfl rfl rfl hc127 rfl rfl rfl ?_
                            refine VQ_gn rfl rfl rfl hc127 rfl rfl rfl ?_
                            refine VQ_gn rfl rfl rfl hc127 rfl rfl rfl ?_
                            refine VQ_gn rfl rfl rfl hc127 rfl rfl rfl ?_
                            refine VQ_gn rfl rfl rfl hc127 rfl rfl rfl ?_
                            refine VQ_gn rfl rfl rfl hc127 rfl rfl rfl ?_
                            refine VQ_y (fun _ _ => Y_pick_fe rfl hc127 rfl) rfl rfl rfl ?_
                            obtain rfl := Option.some.inj hs128
                            exact VQ_end fun a ha => ⟨(), ha.sub ⟨rfl, rfl, rfl, rfl, rfl, rfl, rfl, rfl, rfl, rfl, trivial⟩, trivial⟩
                        simp only [List.take, List.drop]
                        rintro _ _
                        refine VQ_to (fun _ _ => rfl) (fun w139 hk140 => ?_)
                        have ht141 := Kp.tr hk140 hA hB
                        replace hH := Hp.kp hH hk140
                        replace h_l := Sl.tr h_l ht141
                        replace h50 := El.tr h50 ht141
                        replace h89 := Sl.tr h89 ht141
                        replace h122 := El.tr h122 ht141
                        replace hK := Tr.trans hK ht141
                        replace hr6 := Tr.trans hr6 ht141
                        replace hr29 := Tr.trans hr29 ht141
                        replace hr92 := Tr.trans hr92 ht141
                        replace hB := Nat.le_trans hB ht141.ex.size
                        replace hA := ht141.new
                        refine C_cond rfl (fun hc142 => ?_) (fun hc142 => ?_)
                        · rw [if_pos hc142] at h104
                          refine C_seq ?_
                          refine C_region ?_
                          refine V_y (Y_assign rfl) rfl rfl rfl ?_
                          refine V_to (fun _ _ => rfl) ?_
                          obtain rfl := Option.some.inj h104
                          obtain rfl := (h105 : Lp.rt _ = _)
                          rw [Lp.andThen_rt] at ho27
                          obtain rfl := Option.some.inj ho27
                          rw [Lp.andThen_rt] at h19
                          obtain rfl := Option.some.inj h19
                          obtain rfl := (h20 : Lp.rt _ = _)
                          rw [Lp.andThen_rt] at hm
                          obtain rfl := Option.some.inj hm
                          refine C_ret ?_
                          try simp only [↓inBlock_ret, ↓then_ret]
                          exact retQ rfl (Res.one Tryd.results14 rfl) ⟨rfl, hK.kp⟩
                        · rw [if_neg (nt hc142)] at h104
                          refine C_skip_to (fun _ _ => rfl) ?_
                          refine C_seq ?_
                          refine C_region ?_
                          obtain ⟨h143, _⟩ := El_know_Version h122
                          refine V_y (Y_loadA h143 Tryd.isAgg71 Tryd.sizeOf71 rfl) rfl rfl rfl ?_
                          obtain ⟨x144, hx144, h104⟩ := Option.bind_eq_some_iff.1 h104
                          refine V_call Tryd.call40 rfl rfl rfl rfl (portref2_versionFault_c w139 hA (Mx.tr hT hK) x112 hx144) ?_
                          rintro _ w145 ⟨rfl, hk146⟩
                          have ht147 := Kp.tr hk146 hA hB
                          replace hH := Hp.kp hH hk146
                          replace h_l := Sl.tr h_l ht147
                          replace h50 := El.tr h50 ht147
                          replace h89 := Sl.tr h89 ht147
                          replace h122 := El.tr h122 ht147
                          replace hK := Tr.trans hK ht147
                          replace hr6 := Tr.trans hr6 ht147
                          replace hr29 := Tr.trans hr29 ht147
                          replace hr92 := Tr.trans hr92 ht147
                          replace hB := Nat.le_trans hB ht147.ex.size
                          replace hA := ht147.new
                          refine V_y (Y_assign rfl) rfl rfl rfl ?_
                          refine V_to (fun _ _ => rfl) ?_
                          refine C_seq ?_
                          refine C_region ?_
                          refine V_y (Y_move rfl) rfl rfl rfl ?_
                          refine V_y (Y_neq rfl rfl) rfl rfl rfl ?_
                          refine V_to (fun _ _ => rfl) ?_
                          refine C_cond rfl (fun hc148 => ?_) (fun hc148 => ?_)
                          · rw [if_pos hc148] at h104
                            refine C_seq ?_
                            refine C_region ?_
                            refine V_y (Y_move rfl) rfl rfl rfl ?_
                            refine V_y (Y_assign rfl) rfl rfl rfl ?_
                            refine V_to (fun _ _ => rfl) ?_
                            obtain rfl := Option.some.inj h104
                            obtain rfl := (h105 : Lp.rt _ = _)
                            rw [Lp.andThen_rt] at ho27
                            obtain rfl := Option.some.inj ho27
                            rw [Lp.andThen_rt] at h19
                            obtain rfl := Option.some.inj h19
                            obtain rfl := (h20 : Lp.rt _ = _)
                            rw [Lp.andThen_rt] at hm
                            obtain rfl := Option.some.inj hm
                            refine C_ret ?_
                            try simp only [↓inBlock_ret, ↓then_ret]
                            exact retQ rfl (Res.one Tryd.results14 rfl) ⟨rfl, hK.kp⟩
                          · rw [if_neg (nt hc148)] at h104
                            refine C_skip_to (fun _ _ => rfl) ?_
                            refine C_region ?_
                            refine V_y (Y_addI rfl rfl) rfl rfl rfl ?_
                            refine V_y (Y_move rfl) rfl rfl rfl ?_
                            obtain rfl := Option.some.inj h104
                            refine V_end (fun a ha149 => ?_)
                            exact ⟨(), hlt107, h105, ⟨A101, ha149.sub ⟨rfl, rfl, rfl, rfl, rfl, rfl, rfl, (congrArg (fun z => some (Value.int .i64 z)) (w64_succ hlt107 hn110)), trivial⟩, ⟨hH, hr92⟩⟩⟩
                    · refine C_exit (fun a ha150 => ?_)
                      exact ⟨((), A101), ha150.sub ⟨rfl, rfl, rfl, rfl, trivial⟩, ⟨(h108 (eq_of_dec hle106 hc111)).symm, hH, hr92⟩⟩
                  rintro ⟨s91, A97⟩ w94 ⟨rfl, hH98, hk95⟩ a ha96
                  rw [Lp.andThen_fin] at ho27
                  replace h_l := Sl.tr h_l hk95
                  replace hK := Tr.trans hK hk95
                  replace hr6 := Tr.trans hr6 hk95
                  replace hr29 := Tr.trans hr29 hk95
                  replace hB := Nat.le_trans hB hk95.ex.size
                  replace hA := hk95.new
                  replace hH : Hp w.heap.size A97 w94 ([]) := hH98
                  obtain rfl := Option.some.inj ho27
                  exact ⟨((), A97), ha96.sub ⟨rfl, rfl, rfl, rfl, trivial⟩, ⟨rfl, hH, hr29⟩⟩
        rintro ⟨s28, A33⟩ w30 ⟨rfl, hH34, hk31⟩ a ha32
        rw [Lp.andThen_fin] at h19
        replace h_l := Sl.tr h_l hk31
        replace hK := Tr.trans hK hk31
        replace hr6 := Tr.trans hr6 hk31
        replace hB := Nat.le_trans hB hk31.ex.size
        replace hA := hk31.new
        replace hH : Hp w.heap.size A33 w30 ([]) := hH34
        refine C_at (n := ⟨94, [], none⟩) (fun _ _ => rfl) ?_ ha32
        refine C_region ?_
        refine V_y (Y_addI rfl rfl) rfl rfl rfl ?_
        refine V_y (Y_move rfl) rfl rfl rfl ?_
        obtain rfl := Option.some.inj h19
        refine V_end (fun a ha153 => ?_)
        exact ⟨(), hlt22, h20, ⟨A33, ha153.sub ⟨rfl, rfl, rfl, (congrArg (fun z => some (Value.int .i64 z)) (w64_succ hlt22 hn25)), trivial⟩, ⟨hH, hr6⟩⟩⟩
      · refine C_exit (fun a ha154 => ?_)
        exact ⟨((), A16), ha154.sub trivial, ⟨(h23 (eq_of_dec hle21 hc26)).symm, hH, hr6⟩⟩
    rintro ⟨s5, A12⟩ w9 ⟨rfl, hH13, hk10⟩ a ha11
    rw [Lp.andThen_fin] at hm
    replace hK := Tr.trans hK hk10
    replace hB := Nat.le_trans hB hk10.ex.size
    replace hA := hk10.new
    replace hH : Hp w.heap.size A12 w9 ([]) := hH13
    refine C_at (n := ⟨94, [], none⟩) (fun _ _ => rfl) ?_ ha11
    refine C_seq ?_
    refine C_region ?_
    refine V_y (Y_assign rfl) rfl rfl rfl ?_
    refine V_to (fun _ _ => rfl) ?_
    obtain rfl := Option.some.inj hm
    refine C_ret ?_
    try simp only [↓inBlock_ret, ↓then_ret]
    exact retQ rfl (Res.one Tryd.results14 rfl) ⟨rfl, hK.kp⟩

set_option maxRecDepth 4000 in
set_option maxHeartbeats 4000000 in
theorem portref2_versionAt_c (w : World) {A : Nat → Prop} (hA : ∀ b, w.heap.size ≤ b → A b) (a_ : know_Article) (v_a_ : Value) (h_a_ : Sl A w v_a_ a_.versions) (m : Int) {r : (know_Version × Bool)} (hm : portref2_versionAt a_ m = some r) : Ret Tryd.prog 38 #[.agg #[.int .i64 a_.id, .int .i64 a_.group, v_a_], .int .i64 m] w fun v w' => v = .tuple #[.agg #[.int .i64 r.1.at_, .string r.1.title, .string r.1.body], .bool r.2] ∧ Kp w w' := by
  unfold portref2_versionAt at hm
  refine enter Tryd.func38 rfl Tryd.ntmps38 rfl ?_
  have hA0 := hA
  have hB := Nat.le_refl w.heap.size
  have hK : Tr w.heap.size A w A w := Tr.refl hA
  have hH : Hp w.heap.size A w [] := Hp.nil
  refine C_seq ?_
  refine C_region ?_
  refine V_box rfl rfl ?_
  intro b3 w4 h5
  have hk7 := h5.kp
  have h6 : El (α := know_Article) A w4 b3 0 a_ := h5.el hA ⟨[.int .i64 a_.id], _, rfl, rfl, ⟨[.int .i64 a_.group], _, rfl, rfl, ⟨_, rfl, h_a_⟩⟩⟩
  have ht8 := Kp.tr hk7 hA hB
  replace hH := Hp.kp hH hk7
  replace h_a_ := Sl.tr h_a_ ht8
  replace hK := Tr.trans hK ht8
  replace hB := Nat.le_trans hB ht8.ex.size
  replace hA := ht8.new
  refine V_allocH (B := w.heap.size) hH Tryd.zeroValue71 hB hA rfl ?_
  intro b9 w10 A11 hH12 ht13
  replace h_a_ := Sl.tr h_a_ ht13
  replace h6 := El.tr h6 ht13
  replace hK := Tr.trans hK ht13
  replace hB := Nat.le_trans hB ht13.ex.size
  replace hA := ht13.new
  replace hH : Hp w.heap.size A11 w10 (obC b9 [.int .i64 0, .string ByteArray.empty, .string ByteArray.empty] 71 :: []) := hH12
  refine V_y (Y_assign rfl) rfl rfl rfl ?_
  refine V_to (fun _ _ => rfl) ?_
  refine C_seq ?_
  refine C_region ?_
  refine V_allocH (B := w.heap.size) hH Tryd.zeroValue71 hB hA rfl ?_
  intro b14 w15 A16 hH17 ht18
  replace h6 := El.tr h6 ht18
  replace hK := Tr.trans hK ht18
  replace hB := Nat.le_trans hB ht18.ex.size
  replace hA := ht18.new
  replace hH : Hp w.heap.size A16 w15 (obC b14 [.int .i64 0, .string ByteArray.empty, .string ByteArray.empty] 71 :: obC b9 [.int .i64 0, .string ByteArray.empty, .string ByteArray.empty] 71 :: []) := hH17
  refine V_to (fun _ _ => rfl) ?_
  refine C_seq ?_
  refine C_region ?_
  refine V_y (Y_assign rfl) rfl rfl rfl ?_
  refine V_to (fun _ _ => rfl) ?_
  refine C_seq ?_
  refine C_seq ?_
  refine C_region ?_
  have h19 := El_know_Article_2 h6
  refine V_y (Y_fieldAddr Tryd.underlying69 rfl Tryd.sizeOf63 (by decide) rfl) rfl rfl rfl ?_
  obtain ⟨v20, h21, h22⟩ := El.list h19
  refine V_y (Y_load h21 Tryd.isAgg63 rfl) rfl rfl rfl ?_
  refine V_y (Y_lenSl h22 rfl Tryd.underlying63 rfl) rfl rfl rfl ?_
  refine V_y (Y_move rfl) rfl rfl rfl ?_
  refine V_to (fun _ _ => rfl) ?_
  have hn43 := Sl.le h22
  obtain ⟨o23, ho23, hm⟩ := Option.bind_eq_some_iff.1 hm
  refine C_cutG (ι := ((Bool × know_Version) × (Nat → Prop))) (fun ⟨s24, A30⟩ => [(4, .pointer (some ⟨b9, 0, none⟩)), (6, .pointer (some ⟨b14, 0, none⟩)), (7, .bool s24.1)]) (fun ⟨s24, A30⟩ => fun w' => o23 = .fin s24 ∧ Hp w.heap.size A30 w' (obC b14 [.int .i64 s24.2.at_, .string s24.2.title, .string s24.2.body] 71 :: obC b9 [.int .i64 0, .string ByteArray.empty, .string ByteArray.empty] 71 :: []) ∧ Tr w.heap.size A16 w15 A30 w') ?_ ?_
  · refine C_block ?_
    refine C_range ho23 (fun k26 s32 a w' => ∃ i : (Nat → Prop), Has ⟨30, [], none⟩ a ([(1, .int .i64 m), (4, .pointer (some ⟨b9, 0, none⟩)), (6, .pointer (some ⟨b14, 0, none⟩)), (7, .bool s32.1), (11, v20), (12, .int .i64 (a_.versions.length : Int)), (13, .int .i64 (k26 : Int))]) ∧ Hp w.heap.size i w' (obC b14 [.int .i64 s32.2.at_, .string s32.2.title, .string s32.2.body] 71 :: obC b9 [.int .i64 0, .string ByteArray.empty, .string ByteArray.empty] 71 :: []) ∧ Tr w.heap.size A16 w15 i w') (fun a ha => ⟨A16, ha.sub ⟨rfl, rfl, rfl, rfl, rfl, rfl, rfl, trivial⟩, ⟨hH, Tr.refl hA⟩⟩) ?_
    rintro K k26 s32 a w33 ⟨A34, ha85, hH35, hr25⟩ hle39 K42 h41
    refine C_of ?_ ha85
    replace h22 := Sl.tr h22 hr25
    replace hK := Tr.trans hK hr25
    replace hB := Nat.le_trans hB hr25.ex.size
    replace hA := hr25.new
    replace hH : Hp w.heap.size A34 w33 (obC b14 [.int .i64 s32.2.at_, .string s32.2.title, .string s32.2.body] 71 :: obC b9 [.int .i64 0, .string ByteArray.empty, .string ByteArray.empty] 71 :: []) := hH35
    refine C_seq (C_region (V_y (Y_lss rfl rfl) rfl rfl rfl (V_to (fun _ _ => rfl) ?_)))
    refine C_seq ?_
    refine C_cond rfl (fun hc44 => ?_) (fun hc44 => ?_)
    · have hlt40 := lt_of_dec hc44
      obtain ⟨x36, h37, h38⟩ := K42 hlt40
      refine C_skip_to (fun _ _ => rfl) ?_
      refine C_seq ?_
      obtain ⟨s46, ho45, h37⟩ := Option.bind_eq_some_iff.1 h37
      refine C_cutG (ι := (Nat → Prop)) (fun (A51 : (Nat → Prop)) => [(1, .int .i64 m), (4, .pointer (some ⟨b9, 0, none⟩)), (6, .pointer (some ⟨b14, 0, none⟩)), (7, .bool s46.1), (11, v20), (12, .int .i64 (a_.versions.length : Int)), (13, .int .i64 (k26 : Int))]) (fun (A51 : (Nat → Prop)) => fun w' => Hp w.heap.size A51 w' (obC b14 [.int .i64 s46.2.at_, .string s46.2.title, .string s46.2.body] 71 :: obC b9 [.int .i64 0, .string ByteArray.empty, .string ByteArray.empty] 71 :: []) ∧ Tr w.heap.size A34 w33 A51 w') ?_ ?_
      · have hr47 : Tr w.heap.size A34 w33 A34 w33 := Tr.refl hA
        refine C_block ?_
        refine C_seq ?_
        refine C_region ?_
        obtain ⟨x53, hx53, ho45⟩ := Option.bind_eq_some_iff.1 ho45
        refine V_indexAddr h22 hx53 Tryd.underlying63 Tryd.sizeOf71 rfl rfl rfl ?_
        intro b54 o55 h56
        obtain ⟨h57, _⟩ := El_know_Version h56
        refine V_y (Y_loadA h57 Tryd.isAgg71 Tryd.sizeOf71 rfl) rfl rfl rfl ?_
        refine V_alloc Tryd.zeroValue71 rfl ?_
        intro b58 w59 h60
        refine V_storeNew h60 Tryd.sizeOf71 rfl rfl rfl rfl (by exact (List.forall_mem_cons.2 ⟨rfl, (List.forall_mem_cons.2 ⟨rfl, (List.forall_mem_cons.2 ⟨rfl, (fun _ h => nomatch h)⟩)⟩)⟩)) ?_
        intro w61 h62
        have hk64 := h62.kp
        have h63 : El (α := know_Version) A34 w61 b58 0 x53 := h62.el hA ⟨[.int .i64 x53.at_], _, rfl, rfl, ⟨[.string x53.title], _, rfl, rfl, rfl⟩⟩
        have ht65 := Kp.tr hk64 hA hB
        replace hH := Hp.kp hH hk64
        replace h22 := Sl.tr h22 ht65
        replace h56 := El.tr h56 ht65
        replace hK := Tr.trans hK ht65
        replace hr25 := Tr.trans hr25 ht65
        replace hr47 := Tr.trans hr47 ht65
        replace hB := Nat.le_trans hB ht65.ex.size
        replace hA := ht65.new
        refine V_to (fun _ _ => rfl) ?_
        refine C_seq ?_
        refine C_region ?_
        have h66 := El_know_Version_0 h63
        refine V_y (Y_fieldAddr Tryd.underlying71 rfl Tryd.sizeOf3 (by decide) rfl) rfl rfl rfl ?_
        refine V_y (Y_load (El.int h66) Tryd.isAgg3 rfl) rfl rfl rfl ?_
        refine V_y (Y_move rfl) rfl rfl rfl ?_
        refine V_y (Y_leq rfl rfl) rfl rfl rfl ?_
        refine V_to (fun _ _ => rfl) ?_
        obtain ⟨s68, ho67, ho45⟩ := Option.bind_eq_some_iff.1 ho45
        refine C_cutG (ι := (Nat → Prop)) (fun (A73 : (Nat → Prop)) => [(1, .int .i64 m), (4, .pointer (some ⟨b9, 0, none⟩)), (6, .pointer (some ⟨b14, 0, none⟩)), (7, .bool s68.1), (11, v20), (12, .int .i64 (a_.versions.length : Int)), (13, .int .i64 (k26 : Int))]) (fun (A73 : (Nat → Prop)) => fun w' => Hp w.heap.size A73 w' (obC b14 [.int .i64 s68.2.at_, .string s68.2.title, .string s68.2.body] 71 :: obC b9 [.int .i64 0, .string ByteArray.empty, .string ByteArray.empty] 71 :: []) ∧ Tr w.heap.size A34 w61 A73 w') ?_ ?_
        · have hr69 : Tr w.heap.size A34 w61 A34 w61 := Tr.refl hA
          refine C_cond rfl (fun hc75 => ?_) (fun hc75 => ?_)
          · rw [if_pos hc75] at ho67
            refine C_region ?_
            obtain ⟨h76, _⟩ := El_know_Version h63
            refine V_y (Y_loadA h76 Tryd.isAgg71 Tryd.sizeOf71 rfl) rfl rfl rfl ?_
            refine V_storeC (off := 0) (ds := [.int .i64 x53.at_, .string x53.title, .string x53.body]) hH (i := 0) rfl Tryd.sizeOf71 rfl (Nat.le_of_ble_eq_true rfl) (by simp [Value.cells, Value.oneCell']) rfl hB hA rfl rfl ?_
            intro w77 hH78 ht79
            replace h22 := Sl.tr h22 ht79
            replace h63 := El.tr h63 ht79
            replace hK := Tr.trans hK ht79
            replace hr25 := Tr.trans hr25 ht79
            replace hr47 := Tr.trans hr47 ht79
            replace hr69 := Tr.trans hr69 ht79
            replace hB := Nat.le_trans hB ht79.ex.size
            replace hA := ht79.new
            replace hH : Hp w.heap.size A34 w77 (obC b14 [.int .i64 x53.at_, .string x53.title, .string x53.body] 71 :: obC b9 [.int .i64 0, .string ByteArray.empty, .string ByteArray.empty] 71 :: []) := hH78
            refine V_y (Y_assign rfl) rfl rfl rfl ?_
            obtain rfl := Option.some.inj ho67
            refine V_end (fun a ha80 => ?_)
            exact ⟨A34, ha80.sub ⟨rfl, rfl, rfl, rfl, rfl, rfl, rfl, trivial⟩, ⟨hH, hr69⟩⟩
          · rw [if_neg (nt hc75)] at ho67
            obtain rfl := Option.some.inj ho67
            refine C_skip (fun a ha81 => ?_)
            exact ⟨A34, ha81.sub ⟨rfl, rfl, rfl, rfl, rfl, rfl, rfl, trivial⟩, ⟨hH, hr69⟩⟩
        rintro A73 w70 ⟨hH74, hk71⟩ a ha72
        replace h22 := Sl.tr h22 hk71
        replace hK := Tr.trans hK hk71
        replace hr25 := Tr.trans hr25 hk71
        replace hr47 := Tr.trans hr47 hk71
        replace hB := Nat.le_trans hB hk71.ex.size
        replace hA := hk71.new
        replace hH : Hp w.heap.size A73 w70 (obC b14 [.int .i64 s68.2.at_, .string s68.2.title, .string s68.2.body] 71 :: obC b9 [.int .i64 0, .string ByteArray.empty, .string ByteArray.empty] 71 :: []) := hH74
        obtain rfl := Option.some.inj ho45
        exact ⟨A73, ha72.sub ⟨rfl, rfl, rfl, rfl, rfl, rfl, rfl, trivial⟩, ⟨hH, hr47⟩⟩
      rintro A51 w48 ⟨hH52, hk49⟩ a ha50
      replace h22 := Sl.tr h22 hk49
      replace hK := Tr.trans hK hk49
      replace hr25 := Tr.trans hr25 hk49
      replace hB := Nat.le_trans hB hk49.ex.size
      replace hA := hk49.new
      replace hH : Hp w.heap.size A51 w48 (obC b14 [.int .i64 s46.2.at_, .string s46.2.title, .string s46.2.body] 71 :: obC b9 [.int .i64 0, .string ByteArray.empty, .string ByteArray.empty] 71 :: []) := hH52
      refine C_at (n := ⟨30, [], none⟩) (fun _ _ => rfl) ?_ ha50
      refine C_region ?_
      refine V_y (Y_addI rfl rfl) rfl rfl rfl ?_
      refine V_y (Y_move rfl) rfl rfl rfl ?_
      obtain rfl := Option.some.inj h37
      refine V_end (fun a ha83 => ?_)
      exact ⟨(s46.1, s46.2), hlt40, h38, ⟨A51, ha83.sub ⟨rfl, rfl, rfl, rfl, rfl, rfl, (congrArg (fun z => some (Value.int .i64 z)) (w64_succ hlt40 hn43)), trivial⟩, ⟨hH, hr25⟩⟩⟩
    · refine C_exit (fun a ha84 => ?_)
      exact ⟨((s32.1, s32.2), A34), ha84.sub ⟨rfl, rfl, rfl, trivial⟩, ⟨(h41 (eq_of_dec hle39 hc44)).symm, hH, hr25⟩⟩
  rintro ⟨s24, A30⟩ w27 ⟨rfl, hH31, hk28⟩ a ha29
  rw [Lp.andThen_fin] at hm
  replace hK := Tr.trans hK hk28
  replace hB := Nat.le_trans hB hk28.ex.size
  replace hA := hk28.new
  replace hH : Hp w.heap.size A30 w27 (obC b14 [.int .i64 s24.2.at_, .string s24.2.title, .string s24.2.body] 71 :: obC b9 [.int .i64 0, .string ByteArray.empty, .string ByteArray.empty] 71 :: []) := hH31
  refine C_at (n := ⟨30, [], none⟩) (fun _ _ => rfl) ?_ ha29
  refine C_seq ?_
  obtain ⟨A86, ht87, h88, hH89⟩ := Hp.freezeC (α := know_Version) (x := s24.2) hH (i := 0) rfl hA (by exact ⟨[.int .i64 s24.2.at_], _, rfl, rfl, ⟨[.string s24.2.title], _, rfl, rfl, rfl⟩⟩)
  replace hK := Tr.trans hK ht87
  replace hB := Nat.le_trans hB ht87.ex.size
  replace hA := ht87.new
  replace hH : Hp w.heap.size A86 w27 (obC b9 [.int .i64 0, .string ByteArray.empty, .string ByteArray.empty] 71 :: []) := hH89
  refine C_region_ch A86 9 [(1, 0), (1, 1), (1, 2), (1, 3), (1, 4), (1, 5), (1, 6), (3, 7), (1, 8)] Tryd_mixed (by kernel_rfl) (fun w90 hk91 => ?_)
  have ht92 := Kp.tr hk91 hA hB
  replace hH := Hp.kp hH hk91
  replace h88 := El.tr h88 ht92
  replace hK := Tr.trans hK ht92
  replace hB := Nat.le_trans hB ht92.ex.size
  replace hA := ht92.new
  refine CH_q2 rfl ?_
  obtain ⟨h93, _⟩ := El_know_Version h88
  refine VQ_y (fun w' hw' => Y_loadA (At.same h93 (hw'.2 _ h88.2.1 h88.1)) Tryd.isAgg71 Tryd.sizeOf71 rfl) rfl rfl rfl ?_
  refine VQ_CH ?_
  refine CH_q2 rfl ?_
  refine VQ_y (fun w' hw' => Y_move rfl) rfl rfl rfl ?_
  refine VQ_CH ?_
  refine CH_q2 rfl ?_
  refine VQ_y (fun w' hw' => Y_move rfl) rfl rfl rfl ?_
  refine VQ_CH ?_
  rcases Bool.eq_false_or_eq_true (s24.1) with hc94 | hc94
  · rw [if_pos hc94] at hm
    refine CH_q2 rfl ?_
    refine VQ_ge rfl rfl rfl hc94 ?_
    have h95 := El_know_Version_1 h88
    refine VQ_y (fun w' hw' => Y_fieldAddr Tryd.underlying71 rfl Tryd.sizeOf9 (by decide) rfl) rfl rfl rfl ?_
    refine VQ_CH ?_
    refine CH_q2 rfl ?_
    refine VQ_ge rfl rfl rfl hc94 ?_
    refine VQ_y (fun w' hw' => Y_load (El.str (El.keep h95 (XA.ex hw'))) Tryd.isAgg9 rfl) rfl rfl rfl ?_
    refine VQ_CH ?_
    refine CH_q2 rfl ?_
    refine VQ_ge rfl rfl rfl hc94 ?_
    refine VQ_y (fun w' hw' => Y_sneq rfl rfl) rfl rfl rfl ?_
    refine VQ_CH ?_
    refine CH_q2 rfl ?_
    refine VQ_y (fun _ _ => Y_pick_te rfl hc94 rfl) rfl rfl rfl ?_
    refine VQ_CH ?_
    refine CH_l1 (k := 1) rfl ?_
    refine V_storeC (off := 0) (ds := [.int .i64 s24.2.at_, .string s24.2.title, .string s24.2.body]) hH (i := 0) rfl Tryd.sizeOf71 rfl (Nat.le_of_ble_eq_true rfl) (by simp [Value.cells, Value.oneCell']) rfl hB hA rfl rfl ?_
    intro w96 hH97 ht98
    replace h88 := El.tr h88 ht98
    replace h95 := El.tr h95 ht98
    replace hK := Tr.trans hK ht98
    replace hB := Nat.le_trans hB ht98.ex.size
    replace hA := ht98.new
    replace hH : Hp w.heap.size A86 w96 (obC b9 [.int .i64 s24.2.at_, .string s24.2.title, .string s24.2.body] 71 :: []) := hH97
    refine V_CHx (XA.tr ht98) ?_
    refine CH_q2 rfl ?_
    refine VQ_y (fun w' hw' => Y_assign rfl) rfl rfl rfl ?_
    refine VQ_CH ?_
    refine CH_tail ?_
    show V _ _ _ _ [] _ _
    refine V_to (fun _ _ => rfl) ?_
    obtain rfl := Option.some.inj hm
    refine C_ret ?_
    try simp only [↓inBlock_ret, ↓then_ret]
    exact retQ rfl (Res.l2 Tryd.results38 (RL.cell rfl (loadVar_agg (Hp.part (off := 0) (n := 3) (ds := [.int .i64 s24.2.at_, .string s24.2.title, .string s24.2.body]) hH (i := 0) rfl rfl) Tryd.isAgg71 Tryd.sizeOf71)) (RL.tmp rfl)) ⟨rfl, hK.kp⟩
  · rw [if_neg (nt hc94)] at hm
    refine CH_q2 rfl ?_
    refine VQ_gn rfl rfl rfl hc94 rfl rfl rfl ?_
    refine VQ_CH ?_
    refine CH_q2 rfl ?_
    refine VQ_gn rfl rfl rfl hc94 rfl rfl rfl ?_
    refine VQ_CH ?_
    refine CH_q2 rfl ?_
    refine VQ_gn rfl rfl rfl hc94 rfl rfl rfl ?_
    refine VQ_CH ?_
    refine CH_q2 rfl ?_
    refine VQ_y (fun _ _ => Y_pick_fe rfl hc94 rfl) rfl rfl rfl ?_
    refine VQ_CH ?_
    refine CH_l1 (k := 1) rfl ?_
    refine V_storeC (off := 0) (ds := [.int .i64 s24.2.at_, .string s24.2.title, .string s24.2.body]) hH (i := 0) rfl Tryd.sizeOf71 rfl (Nat.le_of_ble_eq_true rfl) (by simp [Value.cells, Value.oneCell']) rfl hB hA rfl rfl ?_
    intro w99 hH100 ht101
    replace h88 := El.tr h88 ht101
    replace hK := Tr.trans hK ht101
    replace hB := Nat.le_trans hB ht101.ex.size
    replace hA := ht101.new
    replace hH : Hp w.heap.size A86 w99 (obC b9 [.int .i64 s24.2.at_, .string s24.2.title, .string s24.2.body] 71 :: []) := hH100
    refine V_CHx (XA.tr ht101) ?_
    refine CH_q2 rfl ?_
    refine VQ_y (fun w' hw' => Y_assign rfl) rfl rfl rfl ?_
    refine VQ_CH ?_
    refine CH_tail ?_
    show V _ _ _ _ [] _ _
    refine V_to (fun _ _ => rfl) ?_
    obtain rfl := Option.some.inj hm
    refine C_ret ?_
    try simp only [↓inBlock_ret, ↓then_ret]
    exact retQ rfl (Res.l2 Tryd.results38 (RL.cell rfl (loadVar_agg (Hp.part (off := 0) (n := 3) (ds := [.int .i64 s24.2.at_, .string s24.2.title, .string s24.2.body]) hH (i := 0) rfl rfl) Tryd.isAgg71 Tryd.sizeOf71)) (RL.tmp rfl)) ⟨rfl, hK.kp⟩

set_option maxRecDepth 4000 in
set_option maxHeartbeats 4000000 in
theorem portref2_CurrentOf_c (w : World) {A : Nat → Prop} (hA : ∀ b, w.heap.size ≤ b → A b) (hT : Mx Tryd.prog 2 A w) (l : (List know_Article)) (v_l : Value) (h_l : Sl A w v_l l) (groups : (List Int)) (v_groups : Value) (h_groups : Sl A w v_groups groups) (m : Int) {r : ((List know_Entry) × Int)} (hm : portref2_CurrentOf l groups m = some r) : Ret Tryd.prog 11 #[v_l, v_groups, .int .i64 m] w fun v w' => ∃ s0, v = .tuple #[s0, .int .i64 r.2] ∧ Ownd 34 w w' s0 r.1 ∧ Kp w w' := by
  unfold portref2_CurrentOf at hm
  refine enter Tryd.func11 rfl Tryd.ntmps11 rfl ?_
  have hA0 := hA
  have hB := Nat.le_refl w.heap.size
  have hK : Tr w.heap.size A w A w := Tr.refl hA
  have hH : Hp w.heap.size A w [] := Hp.nil
  refine C_seq ?_
  refine C_region ?_
  refine V_y (Y_assign rfl) rfl rfl rfl ?_
  refine V_y (Y_assign rfl) rfl rfl rfl ?_
  refine V_to (fun _ _ => rfl) ?_
  refine C_seq ?_
  refine C_seq ?_
  refine C_region ?_
  refine V_y (Y_move rfl) rfl rfl rfl ?_
  obtain ⟨x5, hx5, hm⟩ := Option.bind_eq_some_iff.1 hm
  refine V_call Tryd.call14 rfl rfl rfl rfl (portref2_ArticlesFault_c w hA (Mx.tr hT hK) l v_l h_l hx5) ?_
  rintro _ w6 ⟨rfl, hk7⟩
  have ht8 := Kp.tr hk7 hA hB
  replace hH := Hp.kp hH hk7
  replace h_l := Sl.tr h_l ht8
  replace h_groups := Sl.tr h_groups ht8
  replace hK := Tr.trans hK ht8
  replace hB := Nat.le_trans hB ht8.ex.size
  replace hA := ht8.new
  refine V_y (Y_assign rfl) rfl rfl rfl ?_
  refine V_to (fun _ _ => rfl) ?_
  refine C_seq ?_
  refine C_region ?_
  refine V_y (Y_move rfl) rfl rfl rfl ?_
  refine V_y (Y_neq rfl rfl) rfl rfl rfl ?_
  refine V_to (fun _ _ => rfl) ?_
  refine C_cond rfl (fun hc9 => ?_) (fun hc9 => ?_)
  · rw [if_pos hc9] at hm
    refine C_seq ?_
    refine C_region ?_
    refine V_y (Y_move rfl) rfl rfl rfl ?_
    refine V_y (Y_assign rfl) rfl rfl rfl ?_
    refine V_y (Y_assign rfl) rfl rfl rfl ?_
    refine V_to (fun _ _ => rfl) ?_
    obtain rfl := Option.some.inj hm
    replace hH : Hp w.heap.size A w6 (obS (α := know_Entry) 34 (.slice none 0 0) ([] : (List know_Entry)) :: []) := Hp.addNil (α := know_Entry) (e := 34) hH
    refine C_ret ?_
    try simp only [↓inBlock_ret, ↓then_ret]
    exact retQ rfl (Res.two Tryd.results11 rfl rfl) ⟨.slice none 0 0, rfl, (Hp.ownd hH (i := 0) rfl), hK.kp⟩
  · rw [if_neg (nt hc9)] at hm
    refine C_skip_to (fun _ _ => rfl) ?_
    refine C_seq ?_
    refine C_seq ?_
    refine C_region ?_
    refine V_y (Y_move rfl) rfl rfl rfl ?_
    refine V_call Tryd.call37 rfl rfl rfl rfl (portref2_IsMoment_c w6 m) ?_
    rintro _ _ ⟨rfl, rfl⟩
    refine V_y (Y_not rfl) rfl rfl rfl ?_
    refine V_to (fun _ _ => rfl) ?_
    refine C_cond rfl (fun hc10 => ?_) (fun hc10 => ?_)
    · rw [if_pos hc10] at hm
      refine C_seq ?_
      refine C_region ?_
      refine V_y (Y_assign rfl) rfl rfl rfl ?_
      refine V_y (Y_assign rfl) rfl rfl rfl ?_
      refine V_to (fun _ _ => rfl) ?_
      obtain rfl := Option.some.inj hm
      replace hH : Hp w.heap.size A w6 (obS (α := know_Entry) 34 (.slice none 0 0) ([] : (List know_Entry)) :: []) := Hp.addNil (α := know_Entry) (e := 34) hH
      refine C_ret ?_
      try simp only [↓inBlock_ret, ↓then_ret]
      exact retQ rfl (Res.two Tryd.results11 rfl rfl) ⟨.slice none 0 0, rfl, (Hp.ownd hH (i := 0) rfl), hK.kp⟩
    · rw [if_neg (nt hc10)] at hm
      refine C_skip_to (fun _ _ => rfl) ?_
      refine C_seq ?_
      refine C_seq ?_
      refine C_region ?_
      refine V_y (Y_move rfl) rfl rfl rfl ?_
      refine V_y (Y_lenSl h_groups rfl Tryd.underlying28 rfl) rfl rfl rfl ?_
      refine V_y (Y_gtr rfl rfl) rfl rfl rfl ?_
      refine V_to (fun _ _ => rfl) ?_
      refine C_cond rfl (fun hc11 => ?_) (fun hc11 => ?_)
      · rw [if_pos hc11] at hm
        refine C_seq ?_
        refine C_region ?_
        refine V_y (Y_assign rfl) rfl rfl rfl ?_
        refine V_y (Y_assign rfl) rfl rfl rfl ?_
        refine V_to (fun _ _ => rfl) ?_
        obtain rfl := Option.some.inj hm
        replace hH : Hp w.heap.size A w6 (obS (α := know_Entry) 34 (.slice none 0 0) ([] : (List know_Entry)) :: []) := Hp.addNil (α := know_Entry) (e := 34) hH
        refine C_ret ?_
        try simp only [↓inBlock_ret, ↓then_ret]
        exact retQ rfl (Res.two Tryd.results11 rfl rfl) ⟨.slice none 0 0, rfl, (Hp.ownd hH (i := 0) rfl), hK.kp⟩
      · rw [if_neg (nt hc11)] at hm
        refine C_skip_to (fun _ _ => rfl) ?_
        refine C_seq ?_
        refine C_region ?_
        refine V_y (Y_assign rfl) rfl rfl rfl ?_
        refine V_to (fun _ _ => rfl) ?_
        refine C_seq ?_
        refine C_seq ?_
        refine C_region ?_
        refine V_y (Y_move rfl) rfl rfl rfl ?_
        refine V_y (Y_lenSl h_l rfl Tryd.underlying27 rfl) rfl rfl rfl ?_
        refine V_y (Y_move rfl) rfl rfl rfl ?_
        refine V_to (fun _ _ => rfl) ?_
        replace hH : Hp w.heap.size A w6 (obS (α := know_Entry) 34 (.slice none 0 0) ([] : (List know_Entry)) :: []) := Hp.addNil (α := know_Entry) (e := 34) hH
        have hn37 := Sl.le h_l
        obtain ⟨o12, ho12, hm⟩ := Option.bind_eq_some_iff.1 hm
        refine C_cutG (ι := ((List know_Entry) × Value × (Nat → Prop))) (fun ⟨s13, v20, A22⟩ => [(9, v20)]) (fun ⟨s13, v20, A22⟩ => fun w' => o12 = .fin s13 ∧ Hp w.heap.size A22 w' (obS (α := know_Entry) 34 v20 s13 :: []) ∧ Tr w.heap.size A w6 A22 w') ?_ ?_
        · refine C_block ?_
          refine C_range ho12 (fun k15 s24 a w' => ∃ i : (Value × (Nat → Prop)), Has ⟨56, [], none⟩ a ([(1, v_groups), (2, .int .i64 m), (9, i.1), (25, v_l), (26, .int .i64 (l.length : Int)), (27, .int .i64 (k15 : Int))]) ∧ Hp w.heap.size i.2 w' (obS (α := know_Entry) 34 i.1 s24 :: []) ∧ Tr w.heap.size A w6 i.2 w') (fun a ha => ⟨(.slice none 0 0, A), ha.sub ⟨rfl, rfl, rfl, rfl, rfl, rfl, trivial⟩, ⟨hH, Tr.refl hA⟩⟩) ?_
          rintro K k15 s24 a w25 ⟨⟨v26, A28⟩, ha116, hH29, hr14⟩ hle33 K36 h35
          refine C_of ?_ ha116
          replace h_groups := Sl.tr h_groups hr14
          replace h_l := Sl.tr h_l hr14
          replace hK := Tr.trans hK hr14
          replace hB := Nat.le_trans hB hr14.ex.size
          replace hA := hr14.new
          replace hH : Hp w.heap.size A28 w25 (obS (α := know_Entry) 34 v26 s24 :: []) := hH29
          refine C_seq (C_region (V_y (Y_lss rfl rfl) rfl rfl rfl (V_to (fun _ _ => rfl) ?_)))
          refine C_seq ?_
          refine C_cond rfl (fun hc38 => ?_) (fun hc38 => ?_)
          · have hlt34 := lt_of_dec hc38
            obtain ⟨x30, h31, h32⟩ := K36 hlt34
            refine C_skip_to (fun _ _ => rfl) ?_
            refine C_seq ?_
            obtain ⟨s40, ho39, h31⟩ := Option.bind_eq_some_iff.1 h31
            refine C_cutG (ι := (Value × (Nat → Prop))) (fun ⟨v42, A47⟩ => [(1, v_groups), (2, .int .i64 m), (9, v42), (25, v_l), (26, .int .i64 (l.length : Int)), (27, .int .i64 (k15 : Int))]) (fun ⟨v42, A47⟩ => fun w' => Hp w.heap.size A47 w' (obS (α := know_Entry) 34 v42 s40 :: []) ∧ Tr w.heap.size A28 w25 A47 w') ?_ ?_
            · have hr41 : Tr w.heap.size A28 w25 A28 w25 := Tr.refl hA
              refine C_block ?_
              refine C_seq ?_
              refine C_region ?_
              obtain ⟨x49, hx49, ho39⟩ := Option.bind_eq_some_iff.1 ho39
              refine V_indexAddr h_l hx49 Tryd.underlying27 Tryd.sizeOf69 rfl rfl rfl ?_
              intro b50 o51 h52
              obtain ⟨v53, h55, h54⟩ := El_know_Article h52
              refine V_y (Y_loadA h55 Tryd.isAgg69 Tryd.sizeOf69 rfl) rfl rfl rfl ?_
              refine V_alloc Tryd.zeroValue69 rfl ?_
              intro b56 w57 h58
              have h63 : (v53).oneCell' = true := by obtain ⟨_, _, e, _⟩ := Sl.form h54; rw [e]; rfl
              refine V_storeNew h58 Tryd.sizeOf69 rfl rfl rfl rfl (by exact (List.forall_mem_cons.2 ⟨rfl, (List.forall_mem_cons.2 ⟨rfl, (List.forall_mem_cons.2 ⟨h63, (fun _ h => nomatch h)⟩)⟩)⟩)) ?_
              intro w59 h60
              have hk65 := h60.kp
              have h64 : El (α := know_Article) A28 w59 b56 0 x49 := h60.el hA ⟨[.int .i64 x49.id], _, rfl, rfl, ⟨[.int .i64 x49.group], _, rfl, rfl, ⟨_, rfl, h54⟩⟩⟩
              have ht66 := Kp.tr hk65 hA hB
              replace hH := Hp.kp hH hk65
              replace h_groups := Sl.tr h_groups ht66
              replace h_l := Sl.tr h_l ht66
              replace h52 := El.tr h52 ht66
              replace h54 := Sl.tr h54 ht66
              replace hK := Tr.trans hK ht66
              replace hr14 := Tr.trans hr14 ht66
              replace hr41 := Tr.trans hr41 ht66
              replace hB := Nat.le_trans hB ht66.ex.size
              replace hA := ht66.new
              refine V_to (fun _ _ => rfl) ?_
              refine C_seq ?_
              refine C_region ?_
              obtain ⟨v67, h69, h68⟩ := El_know_Article h64
              refine V_y (Y_loadA h69 Tryd.isAgg69 Tryd.sizeOf69 rfl) rfl rfl rfl ?_
              refine V_y (Y_move rfl) rfl rfl rfl ?_
              obtain ⟨x70, hx70, ho39⟩ := Option.bind_eq_some_iff.1 ho39
              refine V_call Tryd.call38 rfl rfl rfl rfl (portref2_versionAt_c w59 hA x49 v67 h68 m hx70) ?_
              rintro _ w71 ⟨rfl, hk72⟩
              have ht73 := Kp.tr hk72 hA hB
              replace hH := Hp.kp hH hk72
              replace h_groups := Sl.tr h_groups ht73
              replace h_l := Sl.tr h_l ht73
              replace h64 := El.tr h64 ht73
              replace h68 := Sl.tr h68 ht73
              replace hK := Tr.trans hK ht73
              replace hr14 := Tr.trans hr14 ht73
              replace hr41 := Tr.trans hr41 ht73
              replace hB := Nat.le_trans hB ht73.ex.size
              replace hA := ht73.new
              refine V_y (Y_move rfl) rfl rfl rfl ?_
              refine V_y (Y_extract rfl rfl) rfl rfl rfl ?_
              refine V_y (Y_extract rfl rfl) rfl rfl rfl ?_
              refine V_alloc Tryd.zeroValue71 rfl ?_
              intro b74 w75 h76
              refine V_storeNew h76 Tryd.sizeOf71 rfl rfl rfl rfl (by exact (List.forall_mem_cons.2 ⟨rfl, (List.forall_mem_cons.2 ⟨rfl, (List.forall_mem_cons.2 ⟨rfl, (fun _ h => nomatch h)⟩)⟩)⟩)) ?_
              intro w77 h78
              have hk80 := h78.kp
              have h79 : El (α := know_Version) A28 w77 b74 0 x70.1 := h78.el hA ⟨[.int .i64 x70.1.at_], _, rfl, rfl, ⟨[.string x70.1.title], _, rfl, rfl, rfl⟩⟩
              have ht81 := Kp.tr hk80 hA hB
              replace hH := Hp.kp hH hk80
              replace h_groups := Sl.tr h_groups ht81
              replace h_l := Sl.tr h_l ht81
              replace h64 := El.tr h64 ht81
              replace h68 := Sl.tr h68 ht81
              replace hK := Tr.trans hK ht81
              replace hr14 := Tr.trans hr14 ht81
              replace hr41 := Tr.trans hr41 ht81
              replace hB := Nat.le_trans hB ht81.ex.size
              replace hA := ht81.new
              refine V_y (Y_assign rfl) rfl rfl rfl ?_
              refine V_to (fun _ _ => rfl) ?_
              refine C_seq ?_
              refine C_region ?_
              refine V_y (Y_move rfl) rfl rfl rfl ?_
              refine V_y (Y_move rfl) rfl rfl rfl ?_
              obtain ⟨s83, hs83, ho39⟩ := Option.bind_eq_some_iff.1 ho39
              refine V_cut 5 (fun _ : Unit => [(1, v_groups), (2, .int .i64 m), (9, v26), (11, .pointer (some ⟨b56, 0, none⟩)), (12, .pointer (some ⟨b74, 0, none⟩)), (25, v_l), (26, .int .i64 (l.length : Int)), (27, .int .i64 (k15 : Int)), (43, .bool s83)]) (fun _ w' => w77 = w') ?_ ?_
              · simp only [List.take, List.drop]
                rcases Bool.eq_false_or_eq_true (x70.2) with hc82 | hc82
                · rw [if_pos hc82] at hs83
                  refine V_ge rfl rfl rfl hc82 ?_
                  refine V_y (Y_move rfl) rfl rfl rfl ?_
                  refine V_ge rfl rfl rfl hc82 ?_
                  have h84 := El_know_Article_1 h64
                  refine V_y (Y_fieldAddr Tryd.underlying69 rfl Tryd.sizeOf3 (by decide) rfl) rfl rfl rfl ?_
                  refine V_ge rfl rfl rfl hc82 ?_
                  refine V_y (Y_load (El.int h84) Tryd.isAgg3 rfl) rfl rfl rfl ?_
                  refine V_ge rfl rfl rfl hc82 ?_
                  obtain ⟨x85, hx85, hs83⟩ := Option.bind_eq_some_iff.1 hs83
                  refine V_call Tryd.call36 rfl rfl rfl rfl (slices_Contains_Lint_int_c w77 groups v_groups h_groups x49.group hx85) ?_
                  rintro _ _ ⟨rfl, rfl⟩
                  refine V_y (Y_pick_te rfl hc82 rfl) rfl rfl rfl ?_
                  obtain rfl := Option.some.inj hs83
                  exact V_end fun a ha => ⟨(), ha.sub ⟨rfl, rfl, rfl, rfl, rfl, rfl, rfl, rfl, rfl, trivial⟩, rfl⟩
                · rw [if_neg (nt hc82)] at hs83
                  refine V_gn rfl rfl rfl hc82 rfl rfl rfl ?_
                  refine V_gn rfl rfl rfl hc82 rfl rfl rfl ?_
                  refine V_gn rfl rfl rfl hc82 rfl rfl rfl ?_
                  refine V_gn rfl rfl rfl hc82 rfl rfl rfl ?_
                  refine V_y (Y_pick_fe rfl hc82 rfl) rfl rfl rfl ?_
                  obtain rfl := Option.some.inj hs83
                  exact V_end fun a ha => ⟨(), ha.sub ⟨rfl, rfl, rfl, rfl, rfl, rfl, rfl, rfl, rfl, trivial⟩, rfl⟩
              simp only [List.take, List.drop]
              rintro _ _ rfl
              refine V_to (fun _ _ => rfl) ?_
              obtain ⟨s87, ho86, ho39⟩ := Option.bind_eq_some_iff.1 ho39
              refine C_cutG (ι := (Value × (Nat → Prop))) (fun ⟨v89, A94⟩ => [(1, v_groups), (2, .int .i64 m), (9, v89), (25, v_l), (26, .int .i64 (l.length : Int)), (27, .int .i64 (k15 : Int))]) (fun ⟨v89, A94⟩ => fun w' => Hp w.heap.size A94 w' (obS (α := know_Entry) 34 v89 s87 :: []) ∧ Tr w.heap.size A28 w77 A94 w') ?_ ?_
              · have hr88 : Tr w.heap.size A28 w77 A28 w77 := Tr.refl hA
                refine C_cond rfl (fun hc96 => ?_) (fun hc96 => ?_)
                · rw [if_pos hc96] at ho86
                  refine C_region ?_
                  refine V_y (Y_move rfl) rfl rfl rfl ?_
                  have h97 := El_know_Article_0 h64
                  refine V_y (Y_fieldAddr Tryd.underlying69 rfl Tryd.sizeOf3 (by decide) rfl) rfl rfl rfl ?_
                  refine V_y (Y_load (El.int h97) Tryd.isAgg3 rfl) rfl rfl rfl ?_
                  have h98 := El_know_Version_1 h79
                  refine V_y (Y_fieldAddr Tryd.underlying71 rfl Tryd.sizeOf9 (by decide) rfl) rfl rfl rfl ?_
                  refine V_y (Y_load (El.str h98) Tryd.isAgg9 rfl) rfl rfl rfl ?_
                  have h99 := El_know_Version_2 h79
                  refine V_y (Y_fieldAddr Tryd.underlying71 rfl Tryd.sizeOf9 (by decide) rfl) rfl rfl rfl ?_
                  refine V_y (Y_load (El.str h99) Tryd.isAgg9 rfl) rfl rfl rfl ?_
                  refine V_y (Y_build Tryd.underlying34 Tryd.zeroValue34 (Tryd_places34 _ Tryd.underlying34) rfl (by with_unfolding_all rfl)) rfl rfl rfl ?_
                  refine V_buildSlice (l := ([(⟨x49.id, x70.1.title, x70.1.body⟩ : know_Entry)] : List know_Entry)) (len := 1) Tryd.underlying29 Tryd.sizeOf34 Tryd.zeroValue34 rfl (by with_unfolding_all rfl) (by decide) (by decide) hA ⟨[.int .i64 x49.id, .string x70.1.title, .string x70.1.body], _, rfl, ⟨[.int .i64 x49.id], _, rfl, rfl, ⟨[.string x70.1.title], _, rfl, rfl, rfl⟩⟩, rfl⟩ rfl rfl ?_
                  intro v100 w101 hk103 h102
                  have ht104 := Kp.tr hk103 hA hB
                  replace hH := Hp.kp hH hk103
                  replace h_groups := Sl.tr h_groups ht104
                  replace h_l := Sl.tr h_l ht104
                  replace h64 := El.tr h64 ht104
                  replace h79 := El.tr h79 ht104
                  replace h97 := El.tr h97 ht104
                  replace h98 := El.tr h98 ht104
                  replace h99 := El.tr h99 ht104
                  replace hK := Tr.trans hK ht104
                  replace hr14 := Tr.trans hr14 ht104
                  replace hr41 := Tr.trans hr41 ht104
                  replace hr88 := Tr.trans hr88 ht104
                  replace hB := Nat.le_trans hB ht104.ex.size
                  replace hA := ht104.new
                  obtain ⟨x105, hx105, ho86⟩ := Option.bind_eq_some_iff.1 ho86
                  refine V_appendH (e := 34) (v := v26) (l := s24) (ti := Tryd.t34) (bytes := 40) (lim := 3518437208883) hH (i := 0) rfl h102 hx105 Tryd.underlying29 Tryd_info34 rfl rfl rfl rfl (by decide) (by decide) (by decide) hB hA rfl rfl rfl ?_
                  intro v106 w107 A108 hH109 ht110
                  replace h_groups := Sl.tr h_groups ht110
                  replace h_l := Sl.tr h_l ht110
                  replace h64 := El.tr h64 ht110
                  replace h79 := El.tr h79 ht110
                  replace h97 := El.tr h97 ht110
                  replace h98 := El.tr h98 ht110
                  replace h99 := El.tr h99 ht110
                  replace h102 := Sl.tr h102 ht110
                  replace hK := Tr.trans hK ht110
                  replace hr14 := Tr.trans hr14 ht110
                  replace hr41 := Tr.trans hr41 ht110
                  replace hr88 := Tr.trans hr88 ht110
                  replace hB := Nat.le_trans hB ht110.ex.size
                  replace hA := ht110.new
                  replace hH : Hp w.heap.size A108 w107 (obS (α := know_Entry) 34 v106 x105 :: []) := hH109
                  refine V_y (Y_assign rfl) rfl rfl rfl ?_
                  obtain rfl := Option.some.inj ho86
                  refine V_end (fun a ha111 => ?_)
                  exact ⟨(v106, A108), ha111.sub ⟨rfl, rfl, rfl, rfl, rfl, rfl, trivial⟩, ⟨hH, hr88⟩⟩
                · rw [if_neg (nt hc96)] at ho86
                  obtain rfl := Option.some.inj ho86
                  refine C_skip (fun a ha112 => ?_)
                  exact ⟨(v26, A28), ha112.sub ⟨rfl, rfl, rfl, rfl, rfl, rfl, trivial⟩, ⟨hH, hr88⟩⟩
              rintro ⟨v89, A94⟩ w91 ⟨hH95, hk92⟩ a ha93
              replace h_groups := Sl.tr h_groups hk92
              replace h_l := Sl.tr h_l hk92
              replace hK := Tr.trans hK hk92
              replace hr14 := Tr.trans hr14 hk92
              replace hr41 := Tr.trans hr41 hk92
              replace hB := Nat.le_trans hB hk92.ex.size
              replace hA := hk92.new
              replace hH : Hp w.heap.size A94 w91 (obS (α := know_Entry) 34 v89 s87 :: []) := hH95
              obtain rfl := Option.some.inj ho39
              exact ⟨(v89, A94), ha93.sub ⟨rfl, rfl, rfl, rfl, rfl, rfl, trivial⟩, ⟨hH, hr41⟩⟩
            rintro ⟨v42, A47⟩ w44 ⟨hH48, hk45⟩ a ha46
            replace h_groups := Sl.tr h_groups hk45
            replace h_l := Sl.tr h_l hk45
            replace hK := Tr.trans hK hk45
            replace hr14 := Tr.trans hr14 hk45
            replace hB := Nat.le_trans hB hk45.ex.size
            replace hA := hk45.new
            replace hH : Hp w.heap.size A47 w44 (obS (α := know_Entry) 34 v42 s40 :: []) := hH48
            refine C_at (n := ⟨56, [], none⟩) (fun _ _ => rfl) ?_ ha46
            refine C_region ?_
            refine V_y (Y_addI rfl rfl) rfl rfl rfl ?_
            refine V_y (Y_move rfl) rfl rfl rfl ?_
            obtain rfl := Option.some.inj h31
            refine V_end (fun a ha114 => ?_)
            exact ⟨s40, hlt34, h32, ⟨(v42, A47), ha114.sub ⟨rfl, rfl, rfl, rfl, rfl, (congrArg (fun z => some (Value.int .i64 z)) (w64_succ hlt34 hn37)), trivial⟩, ⟨hH, hr14⟩⟩⟩
          · refine C_exit (fun a ha115 => ?_)
            exact ⟨(s24, v26, A28), ha115.sub ⟨rfl, trivial⟩, ⟨(h35 (eq_of_dec hle33 hc38)).symm, hH, hr14⟩⟩
        rintro ⟨s13, v20, A22⟩ w17 ⟨rfl, hH23, hk18⟩ a ha19
        rw [Lp.andThen_fin] at hm
        replace hK := Tr.trans hK hk18
        replace hB := Nat.le_trans hB hk18.ex.size
        replace hA := hk18.new
        replace hH : Hp w.heap.size A22 w17 (obS (α := know_Entry) 34 v20 s13 :: []) := hH23
        refine C_at (n := ⟨56, [], none⟩) (fun _ _ => rfl) ?_ ha19
        refine C_seq ?_
        refine C_region ?_
        refine V_y (Y_move rfl) rfl rfl rfl ?_
        refine V_y (Y_assign rfl) rfl rfl rfl ?_
        refine V_y (Y_assign rfl) rfl rfl rfl ?_
        refine V_to (fun _ _ => rfl) ?_
        obtain rfl := Option.some.inj hm
        refine C_ret ?_
        try simp only [↓inBlock_ret, ↓then_ret]
        exact retQ rfl (Res.two Tryd.results11 rfl rfl) ⟨v20, rfl, (Hp.ownd hH (i := 0) rfl), hK.kp⟩

set_option maxRecDepth 4000 in
set_option maxHeartbeats 4000000 in
theorem slices_Equal_Lknow_Entry_know_Entry_c (w : World) {A : Nat → Prop} (hA : ∀ b, w.heap.size ≤ b → A b) (s1 : (List know_Entry)) (v_s1 : Value) (h_s1 : Sl A w v_s1 s1) (s2 : (List know_Entry)) (v_s2 : Value) (h_s2 : Sl A w v_s2 s2) {r : Bool} (hm : slices_Equal_Lknow_Entry_know_Entry s1 s2 = some r) : Ret Tryd.prog 12 #[v_s1, v_s2] w fun v w' => v = .bool r ∧ Kp w w' := by
  unfold slices_Equal_Lknow_Entry_know_Entry at hm
  refine enter Tryd.func12 rfl Tryd.ntmps12 rfl ?_
  have hA0 := hA
  have hB := Nat.le_refl w.heap.size
  have hK : Tr w.heap.size A w A w := Tr.refl hA
  have hH : Hp w.heap.size A w [] := Hp.nil
  refine C_seq ?_
  refine C_region ?_
  refine V_y (Y_assign rfl) rfl rfl rfl ?_
  refine V_to (fun _ _ => rfl) ?_
  refine C_seq ?_
  refine C_seq ?_
  refine C_region ?_
  refine V_y (Y_move rfl) rfl rfl rfl ?_
  refine V_y (Y_lenSl h_s1 rfl Tryd.underlying29 rfl) rfl rfl rfl ?_
  refine V_y (Y_move rfl) rfl rfl rfl ?_
  refine V_y (Y_lenSl h_s2 rfl Tryd.underlying29 rfl) rfl rfl rfl ?_
  refine V_y (Y_neq rfl rfl) rfl rfl rfl ?_
  refine V_to (fun _ _ => rfl) ?_
  refine C_cond rfl (fun hc5 => ?_) (fun hc5 => ?_)
  · rw [if_pos hc5] at hm
    refine C_seq ?_
    refine C_region ?_
    refine V_y (Y_assign rfl) rfl rfl rfl ?_
    refine V_to (fun _ _ => rfl) ?_
    obtain rfl := Option.some.inj hm
    refine C_ret ?_
    try simp only [↓inBlock_ret, ↓then_ret]
    exact retQ rfl (Res.one Tryd.results12 rfl) ⟨rfl, hK.kp⟩
  · rw [if_neg (nt hc5)] at hm
    refine C_skip_to (fun _ _ => rfl) ?_
    refine C_seq ?_
    refine C_seq ?_
    refine C_region ?_
    refine V_y (Y_move rfl) rfl rfl rfl ?_
    refine V_y (Y_lenSl h_s1 rfl Tryd.underlying29 rfl) rfl rfl rfl ?_
    refine V_y (Y_move rfl) rfl rfl rfl ?_
    refine V_to (fun _ _ => rfl) ?_
    have hn27 := Sl.le h_s1
    obtain ⟨o6, ho6, hm⟩ := Option.bind_eq_some_iff.1 hm
    refine C_cutG (ι := (Unit × (Nat → Prop))) (fun ⟨s7, A13⟩ => []) (fun ⟨s7, A13⟩ => fun w' => o6 = .fin s7 ∧ Hp w.heap.size A13 w' ([]) ∧ Tr w.heap.size A w A13 w') ?_ ?_
    · refine C_block ?_
      refine C_range ho6 (fun k9 _ a w' => ∃ i : (Nat → Prop), Has ⟨26, [], none⟩ a ([(0, v_s1), (1, v_s2), (12, .int .i64 (s1.length : Int)), (13, .int .i64 (k9 : Int))]) ∧ Hp w.heap.size i w' ([]) ∧ Tr w.heap.size A w i w') (fun a ha => ⟨A, ha.sub ⟨rfl, rfl, rfl, rfl, trivial⟩, ⟨hH, Tr.refl hA⟩⟩) ?_
      rintro K k9 _ a w17 ⟨A18, ha45, hH19, hr8⟩ hle23 K26 h25
      refine C_of ?_ ha45
      replace h_s1 := Sl.tr h_s1 hr8
      replace h_s2 := Sl.tr h_s2 hr8
      replace hK := Tr.trans hK hr8
      replace hB := Nat.le_trans hB hr8.ex.size
      replace hA := hr8.new
      replace hH : Hp w.heap.size A18 w17 ([]) := hH19
      refine C_seq (C_region (V_y (Y_lss rfl rfl) rfl rfl rfl (V_to (fun _ _ => rfl) ?_)))
      refine C_seq ?_
      refine C_cond rfl (fun hc28 => ?_) (fun hc28 => ?_)
      · have hlt24 := lt_of_dec hc28
        obtain ⟨x20, h21, h22⟩ := K26 hlt24
        refine C_skip_to (fun _ _ => rfl) ?_
        refine C_seq ?_
        refine C_block ?_
        refine C_seq ?_
        refine C_region ?_
        refine V_y (Y_move rfl) rfl rfl rfl ?_
        refine V_y (Y_assign rfl) rfl rfl rfl ?_
        refine V_to (fun _ _ => rfl) ?_
        refine C_seq ?_
        refine C_region_q Tryd_mixed (by kernel_rfl) ?_
        refine VQ_y (fun w' hw' => Y_move rfl) rfl rfl rfl ?_
        refine VQ_y (fun w' hw' => Y_move rfl) rfl rfl rfl ?_
        obtain ⟨x29, hx29, h21⟩ := Option.bind_eq_some_iff.1 h21
        refine VQ_indexAddr h_s1 hx29 Tryd.underlying29 Tryd.sizeOf34 rfl rfl rfl ?_
        intro b30 o31 h32
        obtain ⟨h33, _⟩ := El_know_Entry h32
        refine VQ_y (fun w' hw' => Y_loadA (At.kp h33 hw' h32.2.1) Tryd.isAgg34 Tryd.sizeOf34 rfl) rfl rfl rfl ?_
        refine VQ_y (fun w' hw' => Y_move rfl) rfl rfl rfl ?_
        refine VQ_y (fun w' hw' => Y_move rfl) rfl rfl rfl ?_
        obtain ⟨x34, hx34, h21⟩ := Option.bind_eq_some_iff.1 h21
        refine VQ_indexAddr h_s2 hx34 Tryd.underlying29 Tryd.sizeOf34 rfl rfl rfl ?_
        intro b35 o36 h37
        obtain ⟨h38, _⟩ := El_know_Entry h37
        refine VQ_y (fun w' hw' => Y_loadA (At.kp h38 hw' h37.2.1) Tryd.isAgg34 Tryd.sizeOf34 rfl) rfl rfl rfl ?_
        refine VQ_y (fun w' hw' => Y_neqA (fun w => Tryd_eqt34_10000 x29.id x29.title x29.body x34.id x34.title x34.body w) Tryd_eqg34 rfl rfl) rfl rfl rfl ?_
        refine VQ_to (fun _ _ => rfl) (fun w39 hk40 => ?_)
        have ht41 := Kp.tr hk40 hA hB
        replace hH := Hp.kp hH hk40
        replace h_s1 := Sl.tr h_s1 ht41
        replace h_s2 := Sl.tr h_s2 ht41
        replace hK := Tr.trans hK ht41
        replace hr8 := Tr.trans hr8 ht41
        replace hB := Nat.le_trans hB ht41.ex.size
        replace hA := ht41.new
        refine C_cond rfl (fun hc42 => ?_) (fun hc42 => ?_)
        · rw [if_pos hc42] at h21
          refine C_seq ?_
          refine C_region ?_
          refine V_y (Y_assign rfl) rfl rfl rfl ?_
          refine V_to (fun _ _ => rfl) ?_
          obtain rfl := Option.some.inj h21
          obtain rfl := (h22 : Lp.rt _ = _)
          rw [Lp.andThen_rt] at hm
          obtain rfl := Option.some.inj hm
          refine C_ret ?_
          try simp only [↓inBlock_ret, ↓then_ret]
          exact retQ rfl (Res.one Tryd.results12 rfl) ⟨rfl, hK.kp⟩
        · rw [if_neg (nt hc42)] at h21
          refine C_skip_to (fun _ _ => rfl) ?_
          refine C_region ?_
          refine V_y (Y_addI rfl rfl) rfl rfl rfl ?_
          refine V_y (Y_move rfl) rfl rfl rfl ?_
          obtain rfl := Option.some.inj h21
          refine V_end (fun a ha43 => ?_)
          exact ⟨(), hlt24, h22, ⟨A18, ha43.sub ⟨rfl, rfl, rfl, (congrArg (fun z => some (Value.int .i64 z)) (w64_succ hlt24 hn27)), trivial⟩, ⟨hH, hr8⟩⟩⟩
      · refine C_exit (fun a ha44 => ?_)
        exact ⟨((), A18), ha44.sub trivial, ⟨(h25 (eq_of_dec hle23 hc28)).symm, hH, hr8⟩⟩
    rintro ⟨s7, A13⟩ w10 ⟨rfl, hH14, hk11⟩ a ha12
    rw [Lp.andThen_fin] at hm
    replace hK := Tr.trans hK hk11
    replace hB := Nat.le_trans hB hk11.ex.size
    replace hA := hk11.new
    replace hH : Hp w.heap.size A13 w10 ([]) := hH14
    refine C_at (n := ⟨26, [], none⟩) (fun _ _ => rfl) ?_ ha12
    refine C_seq ?_
    refine C_region ?_
    refine V_y (Y_assign rfl) rfl rfl rfl ?_
    refine V_to (fun _ _ => rfl) ?_
    obtain rfl := Option.some.inj hm
    refine C_ret ?_
    try simp only [↓inBlock_ret, ↓then_ret]
    exact retQ rfl (Res.one Tryd.results12 rfl) ⟨rfl, hK.kp⟩

set_option maxRecDepth 4000 in
set_option maxHeartbeats 4000000 in
theorem portlaw2_KnowChecks_c (w : World) {A : Nat → Prop} (hA : ∀ b, w.heap.size ≤ b → A b) (hT : Mx Tryd.prog 2 A w) (l : (List know_Article)) (v_l : Value) (h_l : Sl A w v_l l) (groups : (List Int)) (v_groups : Value) (h_groups : Sl A w v_groups groups) (m : Int) {r : Bool} (hm : portlaw2_KnowChecks l groups m = some r) : Ret Tryd.prog 4 #[v_l, v_groups, .int .i64 m] w fun v w' => v = .bool r ∧ Kp w w' := by
  unfold portlaw2_KnowChecks at hm
  refine enter Tryd.func4 rfl Tryd.ntmps4 rfl ?_
  have hA0 := hA
  have hB := Nat.le_refl w.heap.size
  have hK : Tr w.heap.size A w A w := Tr.refl hA
  have hH : Hp w.heap.size A w [] := Hp.nil
  refine C_seq ?_
  refine C_region ?_
  refine V_y (Y_assign rfl) rfl rfl rfl ?_
  refine V_to (fun _ _ => rfl) ?_
  refine C_seq ?_
  refine C_region ?_
  refine V_y (Y_move rfl) rfl rfl rfl ?_
  refine V_y (Y_move rfl) rfl rfl rfl ?_
  refine V_y (Y_move rfl) rfl rfl rfl ?_
  obtain ⟨x5, hx5, hm⟩ := Option.bind_eq_some_iff.1 hm
  refine V_call Tryd.call10 rfl rfl rfl rfl (know_Current_c w hA (Mx.tr hT hK) l v_l h_l groups v_groups h_groups m hx5) ?_
  rintro _ w9 ⟨v6, rfl, h7, hk10⟩
  have ht11 := Kp.tr hk10 hA hB
  replace hH := Hp.kp hH hk10
  replace h_l := Sl.tr h_l ht11
  replace h_groups := Sl.tr h_groups ht11
  replace hK := Tr.trans hK ht11
  replace hB := Nat.le_trans hB ht11.ex.size
  replace hA := ht11.new
  refine V_y (Y_move rfl) rfl rfl rfl ?_
  refine V_y (Y_extract rfl rfl) rfl rfl rfl ?_
  refine V_y (Y_extract rfl rfl) rfl rfl rfl ?_
  refine V_y (Y_assign rfl) rfl rfl rfl ?_
  refine V_y (Y_assign rfl) rfl rfl rfl ?_
  refine V_to (fun _ _ => rfl) ?_
  refine C_seq ?_
  refine C_region ?_
  refine V_y (Y_move rfl) rfl rfl rfl ?_
  refine V_y (Y_move rfl) rfl rfl rfl ?_
  refine V_y (Y_move rfl) rfl rfl rfl ?_
  obtain ⟨x12, hx12, hm⟩ := Option.bind_eq_some_iff.1 hm
  refine V_call Tryd.call11 rfl rfl rfl rfl (portref2_CurrentOf_c w9 hA (Mx.tr hT hK) l v_l h_l groups v_groups h_groups m hx12) ?_
  rintro _ w15 ⟨v13, rfl, h14, hk16⟩
  obtain ⟨A17, ht18, hH19⟩ := Hp.addOwnd hH hB hA hk16 h14
  replace h_l := Sl.tr h_l ht18
  replace h_groups := Sl.tr h_groups ht18
  replace h7 := Sl.tr h7 ht18
  replace hK := Tr.trans hK ht18
  replace hB := Nat.le_trans hB ht18.ex.size
  replace hA := ht18.new
  replace hH : Hp w.heap.size A17 w15 (obS (α := know_Entry) 34 v13 x12.1 :: []) := hH19
  refine V_y (Y_move rfl) rfl rfl rfl ?_
  refine V_y (Y_extract rfl rfl) rfl rfl rfl ?_
  refine V_y (Y_extract rfl rfl) rfl rfl rfl ?_
  refine V_y (Y_assign rfl) rfl rfl rfl ?_
  refine V_y (Y_assign rfl) rfl rfl rfl ?_
  refine V_to (fun _ _ => rfl) ?_
  refine C_seq ?_
  obtain ⟨s21, ho20, hm⟩ := Option.bind_eq_some_iff.1 hm
  refine C_cutG (ι := (Nat → Prop)) (fun (A26 : (Nat → Prop)) => [(6, .bool s21)]) (fun (A26 : (Nat → Prop)) => fun w' => Hp w.heap.size A26 w' (obS (α := know_Entry) 34 v13 x12.1 :: []) ∧ Tr w.heap.size A17 w15 A26 w') ?_ ?_
  · have hr22 : Tr w.heap.size A17 w15 A17 w15 := Tr.refl hA
    refine C_region ?_
    refine V_y (Y_move rfl) rfl rfl rfl ?_
    refine V_y (Y_move rfl) rfl rfl rfl ?_
    refine V_y (Y_eql rfl rfl) rfl rfl rfl ?_
    refine V_y (Y_move rfl) rfl rfl rfl ?_
    rcases Bool.eq_false_or_eq_true (x5.2 == x12.2) with hc28 | hc28
    · rw [if_pos hc28] at ho20
      refine V_ge rfl rfl rfl hc28 ?_
      refine V_y (Y_move rfl) rfl rfl rfl ?_
      refine V_ge rfl rfl rfl hc28 ?_
      refine V_y (Y_move rfl) rfl rfl rfl ?_
      refine V_ge rfl rfl rfl hc28 ?_
      obtain ⟨x29, hx29, ho20⟩ := Option.bind_eq_some_iff.1 ho20
      refine V_call Tryd.call12 rfl rfl rfl rfl (slices_Equal_Lknow_Entry_know_Entry_c w15 (A := fun _ => True) (fun _ _ => trivial) x5.1 v6 (Sl.any h7) x12.1 v13 (Hp.any (α := know_Entry) (e := 34) (v := v13) (l := x12.1) hH (i := 0) rfl) hx29) ?_
      rintro _ w30 ⟨rfl, hk31⟩
      have ht32 := Kp.tr hk31 hA hB
      replace hH := Hp.kp hH hk31
      replace h_l := Sl.tr h_l ht32
      replace h7 := Sl.tr h7 ht32
      replace hK := Tr.trans hK ht32
      replace hr22 := Tr.trans hr22 ht32
      replace hB := Nat.le_trans hB ht32.ex.size
      replace hA := ht32.new
      refine V_y (Y_pick_te rfl hc28 rfl) rfl rfl rfl ?_
      refine V_y (Y_move rfl) rfl rfl rfl ?_
      rcases Bool.eq_false_or_eq_true (x29) with hc33 | hc33
      · rw [if_pos hc33] at ho20
        refine V_ge rfl rfl rfl hc33 ?_
        refine V_y (Y_move rfl) rfl rfl rfl ?_
        refine V_ge rfl rfl rfl hc33 ?_
        obtain ⟨x34, hx34, ho20⟩ := Option.bind_eq_some_iff.1 ho20
        refine V_call Tryd.call13 rfl rfl rfl rfl (know_CheckArticles_c w30 hA (Mx.tr hT hK) l v_l h_l hx34) ?_
        rintro _ w35 ⟨rfl, hk36⟩
        have ht37 := Kp.tr hk36 hA hB
        replace hH := Hp.kp hH hk36
        replace h_l := Sl.tr h_l ht37
        replace h7 := Sl.tr h7 ht37
        replace hK := Tr.trans hK ht37
        replace hr22 := Tr.trans hr22 ht37
        replace hB := Nat.le_trans hB ht37.ex.size
        replace hA := ht37.new
        refine V_ge rfl rfl rfl hc33 ?_
        refine V_y (Y_move rfl) rfl rfl rfl ?_
        refine V_ge rfl rfl rfl hc33 ?_
        obtain ⟨x38, hx38, ho20⟩ := Option.bind_eq_some_iff.1 ho20
        refine V_call Tryd.call14 rfl rfl rfl rfl (portref2_ArticlesFault_c w35 hA (Mx.tr hT hK) l v_l h_l hx38) ?_
        rintro _ w39 ⟨rfl, hk40⟩
        have ht41 := Kp.tr hk40 hA hB
        replace hH := Hp.kp hH hk40
        replace h_l := Sl.tr h_l ht41
        replace h7 := Sl.tr h7 ht41
        replace hK := Tr.trans hK ht41
        replace hr22 := Tr.trans hr22 ht41
        replace hB := Nat.le_trans hB ht41.ex.size
        replace hA := ht41.new
        refine V_ge rfl rfl rfl hc33 ?_
        refine V_y (Y_eql rfl rfl) rfl rfl rfl ?_
        refine V_y (Y_pick_te rfl hc33 rfl) rfl rfl rfl ?_
        refine V_y (Y_assign rfl) rfl rfl rfl ?_
        obtain rfl := Option.some.inj ho20
        refine V_end (fun a ha42 => ?_)
        exact ⟨A17, ha42.sub ⟨rfl, trivial⟩, ⟨hH, hr22⟩⟩
      · rw [if_neg (nt hc33)] at ho20
        refine V_gn rfl rfl rfl hc33 rfl rfl rfl ?_
        refine V_gn rfl rfl rfl hc33 rfl rfl rfl ?_
        refine V_gn rfl rfl rfl hc33 rfl rfl rfl ?_
        refine V_gn rfl rfl rfl hc33 rfl rfl rfl ?_
        refine V_gn rfl rfl rfl hc33 rfl rfl rfl ?_
        refine V_y (Y_pick_fe rfl hc33 rfl) rfl rfl rfl ?_
        refine V_y (Y_assign rfl) rfl rfl rfl ?_
        obtain rfl := Option.some.inj ho20
        refine V_end (fun a ha43 => ?_)
        exact ⟨A17, ha43.sub ⟨rfl, trivial⟩, ⟨hH, hr22⟩⟩
    · rw [if_neg (nt hc28)] at ho20
      refine V_gn rfl rfl rfl hc28 rfl rfl rfl ?_
      refine V_gn rfl rfl rfl hc28 rfl rfl rfl ?_
      refine V_gn rfl rfl rfl hc28 rfl rfl rfl ?_
      refine V_y (Y_pick_fe rfl hc28 rfl) rfl rfl rfl ?_
      refine V_y (Y_move rfl) rfl rfl rfl ?_
      rcases Bool.eq_false_or_eq_true (false) with hc44 | hc44
      · rw [if_pos hc44] at ho20
        refine V_ge rfl rfl rfl hc44 ?_
        refine V_y (Y_move rfl) rfl rfl rfl ?_
        refine V_ge rfl rfl rfl hc44 ?_
        obtain ⟨x45, hx45, ho20⟩ := Option.bind_eq_some_iff.1 ho20
        refine V_call Tryd.call13 rfl rfl rfl rfl (know_CheckArticles_c w15 hA (Mx.tr hT hK) l v_l h_l hx45) ?_
        rintro _ w46 ⟨rfl, hk47⟩
        have ht48 := Kp.tr hk47 hA hB
        replace hH := Hp.kp hH hk47
        replace h_l := Sl.tr h_l ht48
        replace h7 := Sl.tr h7 ht48
        replace hK := Tr.trans hK ht48
        replace hr22 := Tr.trans hr22 ht48
        replace hB := Nat.le_trans hB ht48.ex.size
        replace hA := ht48.new
        refine V_ge rfl rfl rfl hc44 ?_
        refine V_y (Y_move rfl) rfl rfl rfl ?_
        refine V_ge rfl rfl rfl hc44 ?_
        obtain ⟨x49, hx49, ho20⟩ := Option.bind_eq_some_iff.1 ho20
        refine V_call Tryd.call14 rfl rfl rfl rfl (portref2_ArticlesFault_c w46 hA (Mx.tr hT hK) l v_l h_l hx49) ?_
        rintro _ w50 ⟨rfl, hk51⟩
        have ht52 := Kp.tr hk51 hA hB
        replace hH := Hp.kp hH hk51
        replace h_l := Sl.tr h_l ht52
        replace h7 := Sl.tr h7 ht52
        replace hK := Tr.trans hK ht52
        replace hr22 := Tr.trans hr22 ht52
        replace hB := Nat.le_trans hB ht52.ex.size
        replace hA := ht52.new
        refine V_ge rfl rfl rfl hc44 ?_
        refine V_y (Y_eql rfl rfl) rfl rfl rfl ?_
        refine V_y (Y_pick_te rfl hc44 rfl) rfl rfl rfl ?_
        refine V_y (Y_assign rfl) rfl rfl rfl ?_
        obtain rfl := Option.some.inj ho20
        refine V_end (fun a ha53 => ?_)
        exact ⟨A17, ha53.sub ⟨rfl, trivial⟩, ⟨hH, hr22⟩⟩
      · rw [if_neg (nt hc44)] at ho20
        refine V_gn rfl rfl rfl hc44 rfl rfl rfl ?_
        refine V_gn rfl rfl rfl hc44 rfl rfl rfl ?_
        refine V_gn rfl rfl rfl hc44 rfl rfl rfl ?_
        refine V_gn rfl rfl rfl hc44 rfl rfl rfl ?_
        refine V_gn rfl rfl rfl hc44 rfl rfl rfl ?_
        refine V_y (Y_pick_fe rfl hc44 rfl) rfl rfl rfl ?_
        refine V_y (Y_assign rfl) rfl rfl rfl ?_
        obtain rfl := Option.some.inj ho20
        refine V_end (fun a ha54 => ?_)
        exact ⟨A17, ha54.sub ⟨rfl, trivial⟩, ⟨hH, hr22⟩⟩
  rintro A26 w23 ⟨hH27, hk24⟩ a ha25
  replace hK := Tr.trans hK hk24
  replace hB := Nat.le_trans hB hk24.ex.size
  replace hA := hk24.new
  replace hH : Hp w.heap.size A26 w23 (obS (α := know_Entry) 34 v13 x12.1 :: []) := hH27
  refine C_at (n := ⟨40, [], none⟩) (fun _ _ => rfl) ?_ ha25
  obtain rfl := Option.some.inj hm
  refine C_ret ?_
  try simp only [↓inBlock_ret, ↓then_ret]
  exact retQ rfl (Res.one Tryd.results4 rfl) ⟨rfl, hK.kp⟩

end Go.Proofs.YtcokjipcmpfgbaaDoor.W
