import Derived.Test.YtabkhhpkibbheaaClockRanksW2
namespace Go.Proofs.Ytabkhhpkibbheaa.W
open Go Go.RowKit Go.Pu Go.Gw Go.Proofs Go.Proofs.Ytabkhhpkibbheaa.M
set_option linter.unusedVariables false
set_option linter.unusedSimpArgs false
variable {Dw : Prop}
set_option maxRecDepth 4000 in
set_option maxHeartbeats 4000000 in
theorem level_Rank_c (w : World) {A : Nat → Prop} (hA : ∀ b, w.heap.size ≤ b → A b) (l : (List level_Clock)) (v_l : Value) (h_l : Sl A w v_l l) (cals : (List cal_Calendar)) (v_cals : Value) (h_cals : Sl A w v_cals cals) (m : Int) {r : ((List Int) × Int)} (hm : level_Rank l cals m = some r) : Ret Try.prog 5 #[v_l, v_cals, .int .i64 m] w fun v w' => ∃ s0, v = .tuple #[s0, .int .i64 r.2] ∧ Ownd 3 w w' s0 r.1 ∧ Kp Dw w w' := by
 unfold level_Rank at hm
 refine enter Try.func5 rfl Try.ntmps5 rfl ?_
 have hA0 := hA
 have hB := Nat.le_refl w.heap.size
 have hK : Tr Dw w.heap.size A w A w := Tr.refl (Dw := Dw) hA
 have hH : Hp w.heap.size A w [] := Hp.nil
 refine C_seq ?_
 refine C_region ?_
 refine V_box rfl rfl ?_
 intro b5 w6 h7
 have h12 : (v_l).oneCell' = true := by obtain ⟨_, _, e, _⟩ := Sl.form h_l; rw [e]; rfl
 have hk9 := h7.kp (Dw := Dw)
 have h8 : El (α := (List level_Clock)) A w6 b5 0 l := h7.el hA (by rw [Value.cells_one h12]; exact ⟨_, rfl, h_l⟩)
 have ht13 := Kp.tr (Dw := Dw) hk9 hA hB
 replace hH := Hp.kp (Dw := Dw) hH hk9
 replace h_cals := Sl.tr (Dw := Dw) h_cals ht13
 replace hK := Tr.trans (Dw := Dw) hK ht13
 replace hB := Nat.le_trans hB ht13.ex.size
 replace hA := ht13.new
 refine V_y (Y_assign rfl) rfl rfl rfl ?_
 refine V_y (Y_assign rfl) rfl rfl rfl ?_
 refine V_to (fun _ _ => rfl) ?_
 refine C_seq ?_
 refine C_seq ?_
 refine C_region ?_
 obtain ⟨v14, h15, h16⟩ := El.list h8
 refine V_y (Y_load h15 Try.isAgg22 rfl) rfl rfl rfl ?_
 refine V_y (Y_move rfl) rfl rfl rfl ?_
 obtain ⟨x17, hx17, hm⟩ := Option.bind_eq_some_iff.1 hm
 refine V_call Try.call10 rfl rfl rfl rfl (level_check_c (Dw := Dw) w6 hA l v14 h16 cals v_cals h_cals hx17) ?_
 rintro _ w18 ⟨rfl, hk19⟩
 have ht20 := Kp.tr (Dw := Dw) hk19 hA hB
 replace hH := Hp.kp (Dw := Dw) hH hk19
 replace h_cals := Sl.tr (Dw := Dw) h_cals ht20
 replace h8 := El.tr (Dw := Dw) h8 ht20
 replace hK := Tr.trans (Dw := Dw) hK ht20
 replace hB := Nat.le_trans hB ht20.ex.size
 replace hA := ht20.new
 refine V_y (Y_move rfl) rfl rfl rfl ?_
 refine V_call Try.call11 rfl rfl rfl rfl (level_moment_c w18 m 0) ?_
 rintro _ _ ⟨rfl, rfl⟩
 refine V_buildSlice (Dw := Dw) (cells := #[.int .i64 x17, .int .i64 (level_moment m 0)]) (l := ([x17, (level_moment m 0)] : List Int)) (len := 2) Try.underlying50 Try.sizeOf24 Try.zeroValue24 rfl (by generalize ((level_moment m 0) : Int) = z25; kernel_rfl) (show (2 * 1 : Nat) ≠ 0 by decide) (show (2 * 1 : Nat) ≤ 2 ^ 24 by decide) hA ⟨[.int .i64 x17], _, rfl, rfl, ⟨[.int .i64 (level_moment m 0)], _, rfl, rfl, rfl⟩⟩ rfl rfl ?_
 intro v21 w22 hk24 h23
 have ht26 := Kp.tr (Dw := Dw) hk24 hA hB
 replace hH := Hp.kp (Dw := Dw) hH hk24
 replace h_cals := Sl.tr (Dw := Dw) h_cals ht26
 replace h8 := El.tr (Dw := Dw) h8 ht26
 replace hK := Tr.trans (Dw := Dw) hK ht26
 replace hB := Nat.le_trans hB ht26.ex.size
 replace hA := ht26.new
 obtain ⟨x27, hx27, hm⟩ := Option.bind_eq_some_iff.1 hm
 refine V_call Try.call9 rfl rfl rfl rfl (cmp_Or_api_Errno_c w22 ([x17, (level_moment m 0)] : List Int) v21 h23 hx27) ?_
 rintro _ _ ⟨rfl, rfl⟩
 refine V_y (Y_assign rfl) rfl rfl rfl ?_
 refine V_to (fun _ _ => rfl) ?_
 refine C_seq ?_
 refine C_region ?_
 refine V_y (Y_move rfl) rfl rfl rfl ?_
 refine V_y (Y_neq rfl rfl) rfl rfl rfl ?_
 refine V_to (fun _ _ => rfl) ?_
 refine C_cond rfl (fun hc28 => ?_) (fun hc28 => ?_)
 ·rw [if_pos hc28] at hm
  refine C_seq ?_
  refine C_region ?_
  refine V_y (Y_move rfl) rfl rfl rfl ?_
  refine V_y (Y_assign rfl) rfl rfl rfl ?_
  refine V_y (Y_assign rfl) rfl rfl rfl ?_
  refine V_to (fun _ _ => rfl) ?_
  obtain rfl := Option.some.inj hm
  replace hH : Hp w.heap.size A w22 (obS (α := Int) 3 (.slice none 0 0) ([] : (List Int)) :: []) := Hp.addNil (α := Int) (e := 3) hH
  refine C_ret ?_
  try simp only [↓inBlock_ret, ↓then_ret]
  exact retQ rfl (Res.two Try.results5 rfl rfl) ⟨.slice none 0 0, rfl, (Hp.ownd hH (i := 0) rfl), hK.kp⟩
 ·rw [if_neg (nt hc28)] at hm
  refine C_skip_to (fun _ _ => rfl) ?_
  refine C_seq ?_
  refine C_region ?_
  refine V_y (Y_assign rfl) rfl rfl rfl ?_
  refine V_to (fun _ _ => rfl) ?_
  refine C_seq ?_
  refine C_region ?_
  obtain ⟨v29, h30, h31⟩ := El.list h8
  refine V_y (Y_load h30 Try.isAgg22 rfl) rfl rfl rfl ?_
  refine V_y (Y_lenSl h31 rfl Try.underlying22 rfl) rfl rfl rfl ?_
  obtain ⟨x32, hx32, hm⟩ := Option.bind_eq_some_iff.1 hm
  refine V_makeH (Dw := Dw) (e := 3) (ti := Try.t3) hH hx32 (fun _ _ => rfl) Try.underlying27 Try_info3 rfl rfl rfl (by decide) (by decide) hB hA rfl rfl rfl ?_
  intro v33 w34 A35 hH36 ht37
  replace h_cals := Sl.tr (Dw := Dw) h_cals ht37
  replace h8 := El.tr (Dw := Dw) h8 ht37
  replace hK := Tr.trans (Dw := Dw) hK ht37
  replace hB := Nat.le_trans hB ht37.ex.size
  replace hA := ht37.new
  replace hH : Hp w.heap.size A35 w34 (obS (α := Int) 3 v33 x32 :: []) := hH36
  refine V_allocH (Dw := Dw) (B := w.heap.size) hH Try.zeroValue27 hB hA rfl ?_
  intro b38 w39 A40 hH41 ht42
  replace h_cals := Sl.tr (Dw := Dw) h_cals ht42
  replace h8 := El.tr (Dw := Dw) h8 ht42
  replace hK := Tr.trans (Dw := Dw) hK ht42
  replace hB := Nat.le_trans hB ht42.ex.size
  replace hA := ht42.new
  replace hH : Hp w.heap.size A40 w39 (obC b38 [.slice none 0 0] 27 :: obS (α := Int) 3 v33 x32 :: []) := hH41
  have h48 : (v33).oneCell' = true := by obtain ⟨_, _, e, _⟩ := Sl.form (Hp.any (α := Int) (e := 3) (v := v33) (l := x32) hH (i := 1) rfl); rw [e]; rfl
  refine V_storeC (Dw := Dw) (off := 0) (ds := [v33]) hH (i := 0) rfl Try.sizeOf27 (by rw [← Array.length_toList, Value.cells_one h48]; rfl) (Nat.le_of_ble_eq_true rfl) (by intro u hu; rw [Value.cells_one h48] at hu; simp at hu; subst hu; assumption) (by rw [Value.cells_one h48]; rfl) hB hA rfl rfl ?_
  intro w43 hH44 ht45
  replace h_cals := Sl.tr (Dw := Dw) h_cals ht45
  replace h8 := El.tr (Dw := Dw) h8 ht45
  replace hK := Tr.trans (Dw := Dw) hK ht45
  replace hB := Nat.le_trans hB ht45.ex.size
  replace hA := ht45.new
  replace hH : Hp w.heap.size A40 w43 (obC b38 [v33] 27 :: obS (α := Int) 3 v33 x32 :: []) := hH44
  refine V_to (fun _ _ => rfl) ?_
  refine C_seq ?_
  refine C_seq ?_
  refine C_region ?_
  obtain ⟨v49, h50, h51⟩ := El.list h8
  refine V_y (Y_load h50 Try.isAgg22 rfl) rfl rfl rfl ?_
  refine V_y (Y_lenSl h51 rfl Try.underlying22 rfl) rfl rfl rfl ?_
  refine V_y (Y_move rfl) rfl rfl rfl ?_
  refine V_to (fun _ _ => rfl) ?_
  replace hH : Hp w.heap.size A40 w43 (obS (α := Int) 3 (.slice none 0 0) ([] : (List Int)) :: obC b38 [v33] 27 :: obS (α := Int) 3 v33 x32 :: []) := Hp.addNil (α := Int) (e := 3) hH
  have hn80 := Sl.le h51
  obtain ⟨o52, ho52, hm⟩ := Option.bind_eq_some_iff.1 hm
  refine C_cutG (ι := (((List Int) × (List Int)) × Value × Value × (Nat → Prop))) (fun ⟨s53, v59, v61, A63⟩ => [(3, .pointer (some ⟨b5, 0, none⟩)), (9, v59), (10, .pointer (some ⟨b38, 0, none⟩))]) (fun ⟨s53, v59, v61, A63⟩ => fun w' => o52 = .fin s53 ∧ Hp w.heap.size A63 w' (obS (α := Int) 3 v59 s53.1 :: obC b38 [v61] 27 :: obS (α := Int) 3 v61 s53.2 :: []) ∧ Tr Dw w.heap.size A40 w43 A63 w') ?_ ?_
  ·refine C_block ?_
   refine C_range ho52 (fun k55 s65 a w' => ∃ i : (Value × Value × (Nat → Prop)), Has ⟨55, [], none⟩ a ([(1, v_cals), (2, .int .i64 m), (3, .pointer (some ⟨b5, 0, none⟩)), (9, i.1), (10, .pointer (some ⟨b38, 0, none⟩)), (26, v49), (27, .int .i64 (l.length : Int)), (28, .int .i64 (k55 : Int))]) ∧ Hp w.heap.size i.2.2 w' (obS (α := Int) 3 i.1 s65.1 :: obC b38 [i.2.1] 27 :: obS (α := Int) 3 i.2.1 s65.2 :: []) ∧ Tr Dw w.heap.size A40 w43 i.2.2 w') (fun a ha => ⟨(.slice none 0 0, v33, A40), ha.sub ⟨rfl, rfl, rfl, rfl, rfl, rfl, rfl, rfl, trivial⟩, ⟨hH, Tr.refl (Dw := Dw) hA⟩⟩) ?_
   rintro K k55 s65 a w66 ⟨⟨v67, v69, A71⟩, ha160, hH72, hr54⟩ hle76 K79 h78
   refine C_of ?_ ha160
   replace h_cals := Sl.tr (Dw := Dw) h_cals hr54
   replace h51 := Sl.tr (Dw := Dw) h51 hr54
   replace hB := Nat.le_trans hB hr54.ex.size
   replace hA := hr54.new
   replace hH : Hp w.heap.size A71 w66 (obS (α := Int) 3 v67 s65.1 :: obC b38 [v69] 27 :: obS (α := Int) 3 v69 s65.2 :: []) := hH72
   refine C_seq (C_region (V_y (Y_lss rfl rfl) rfl rfl rfl (V_to (fun _ _ => rfl) ?_)))
   refine C_seq ?_
   refine C_cond rfl (fun hc81 => ?_) (fun hc81 => ?_)
   ·have hlt77 := lt_of_dec hc81
    obtain ⟨x73, h74, h75⟩ := K79 hlt77
    refine C_skip_to (fun _ _ => rfl) ?_
    refine C_seq ?_
    obtain ⟨s83, ho82, h74⟩ := Option.bind_eq_some_iff.1 h74
    refine C_cutG (ι := (Value × Value × (Nat → Prop))) (fun ⟨v85, v87, A92⟩ => [(1, v_cals), (2, .int .i64 m), (3, .pointer (some ⟨b5, 0, none⟩)), (9, v85), (10, .pointer (some ⟨b38, 0, none⟩)), (26, v49), (27, .int .i64 (l.length : Int)), (28, .int .i64 (k55 : Int))]) (fun ⟨v85, v87, A92⟩ => fun w' => Hp w.heap.size A92 w' (obS (α := Int) 3 v85 s83.1 :: obC b38 [v87] 27 :: obS (α := Int) 3 v87 s83.2 :: []) ∧ Tr Dw w.heap.size A71 w66 A92 w') ?_ ?_
    ·have hr84 : Tr Dw w.heap.size A71 w66 A71 w66 := Tr.refl (Dw := Dw) hA
     refine C_block ?_
     refine C_seq ?_
     refine C_region ?_
     refine V_y (Y_move rfl) rfl rfl rfl ?_
     obtain ⟨x94, hx94, ho82⟩ := Option.bind_eq_some_iff.1 ho82
     refine V_indexAddr h51 hx94 Try.underlying22 Try.sizeOf37 rfl rfl rfl ?_
     intro b95 o96 h97
     obtain ⟨v98, h100, h99⟩ := El_level_Clock h97
     refine V_y (Y_loadA h100 Try.isAgg37 Try.sizeOf37 rfl) rfl rfl rfl ?_
     refine V_alloc Try.zeroValue37 rfl ?_
     intro b101 w102 h103
     refine V_y (Y_assign rfl) rfl rfl rfl ?_
     have h108 : (v98).oneCell' = true := by obtain ⟨_, _, e, _⟩ := Sl.form h99; rw [e]; rfl
     refine V_storeNew h103 Try.sizeOf37 rfl rfl rfl rfl (by exact (List.forall_mem_cons.2 ⟨rfl, (List.forall_mem_cons.2 ⟨rfl, (List.forall_mem_cons.2 ⟨rfl, (List.forall_mem_cons.2 ⟨rfl, (List.forall_mem_cons.2 ⟨rfl, (List.forall_mem_cons.2 ⟨rfl, (List.forall_mem_cons.2 ⟨h108, (fun _ h => nomatch h)⟩)⟩)⟩)⟩)⟩)⟩)⟩)) ?_
     intro w104 h105
     have hk110 := h105.kp (Dw := Dw)
     have h109 : El (α := level_Clock) A71 w104 b101 0 x94 := h105.el hA ⟨[.int .i64 x94.kind], _, rfl, rfl, ⟨[.int .i64 x94.level], _, rfl, rfl, ⟨[.int .i64 x94.minutes], _, rfl, rfl, ⟨[.int .i64 x94.start], _, rfl, rfl, ⟨[.int .i64 x94.stop], _, rfl, rfl, ⟨[.int .i64 x94.end_], _, rfl, rfl, ⟨_, rfl, h99⟩⟩⟩⟩⟩⟩⟩
     have ht111 := Kp.tr (Dw := Dw) hk110 hA hB
     replace hH := Hp.kp (Dw := Dw) hH hk110
     replace h_cals := Sl.tr (Dw := Dw) h_cals ht111
     replace hr84 := Tr.trans (Dw := Dw) hr84 ht111
     replace hB := Nat.le_trans hB ht111.ex.size
     replace hA := ht111.new
     refine V_to (fun _ _ => rfl) ?_
     refine C_seq ?_
     refine C_region ?_
     have h112 := El_level_Clock_5 h109
     refine V_y (Y_fieldAddr Try.underlying37 rfl Try.sizeOf3 (by decide) rfl) rfl rfl rfl ?_
     refine V_y (Y_load (El.int h112) Try.isAgg3 rfl) rfl rfl rfl ?_
     refine V_y (Y_eql rfl rfl) rfl rfl rfl ?_
     refine V_to (fun _ _ => rfl) ?_
     obtain ⟨s114, ho113, ho82⟩ := Option.bind_eq_some_iff.1 ho82
     refine C_cutG (ι := (Value × Value × (Nat → Prop))) (fun ⟨v116, v118, A123⟩ => [(1, v_cals), (2, .int .i64 m), (3, .pointer (some ⟨b5, 0, none⟩)), (9, v116), (10, .pointer (some ⟨b38, 0, none⟩)), (26, v49), (27, .int .i64 (l.length : Int)), (28, .int .i64 (k55 : Int))]) (fun ⟨v116, v118, A123⟩ => fun w' => Hp w.heap.size A123 w' (obS (α := Int) 3 v116 s114.1 :: obC b38 [v118] 27 :: obS (α := Int) 3 v118 s114.2 :: []) ∧ Tr Dw w.heap.size A71 w104 A123 w') ?_ ?_
     ·have hr115 : Tr Dw w.heap.size A71 w104 A71 w104 := Tr.refl (Dw := Dw) hA
      refine C_cond rfl (fun hc125 => ?_) (fun hc125 => ?_)
      ·rw [if_pos hc125] at ho113
       refine C_seq ?_
       refine C_region ?_
       refine V_y (Y_move rfl) rfl rfl rfl ?_
       refine V_y (Y_move rfl) rfl rfl rfl ?_
       refine V_buildSlice (Dw := Dw) (cells := #[.int .i64 (k55 : Int)]) (l := ([(k55 : Int)] : List Int)) (len := 1) Try.underlying27 Try.sizeOf3 Try.zeroValue3 rfl (by generalize ((k55 : Int) : Int) = z130; kernel_rfl) (show (1 * 1 : Nat) ≠ 0 by decide) (show (1 * 1 : Nat) ≤ 2 ^ 24 by decide) hA ⟨[.int .i64 (k55 : Int)], _, rfl, rfl, rfl⟩ rfl rfl ?_
       intro v126 w127 hk129 h128
       have ht131 := Kp.tr (Dw := Dw) hk129 hA hB
       replace hH := Hp.kp (Dw := Dw) hH hk129
       replace h_cals := Sl.tr (Dw := Dw) h_cals ht131
       replace h109 := El.tr (Dw := Dw) h109 ht131
       replace hr115 := Tr.trans (Dw := Dw) hr115 ht131
       replace hB := Nat.le_trans hB ht131.ex.size
       replace hA := ht131.new
       obtain ⟨x132, hx132, ho113⟩ := Option.bind_eq_some_iff.1 ho113
       refine V_appendH (Dw := Dw) (e := 3) (v := v67) (l := s65.1) (ti := Try.t3) (bytes := 8) (lim := 17592186044416) hH (i := 0) rfl h128 hx132 Try.underlying27 Try_info3 rfl rfl rfl rfl (by decide) (by decide) (by decide) hB hA rfl rfl rfl ?_
       intro v133 w134 A135 hH136 ht137
       replace h_cals := Sl.tr (Dw := Dw) h_cals ht137
       replace h109 := El.tr (Dw := Dw) h109 ht137
       replace hr115 := Tr.trans (Dw := Dw) hr115 ht137
       replace hB := Nat.le_trans hB ht137.ex.size
       replace hA := ht137.new
       replace hH : Hp w.heap.size A135 w134 (obS (α := Int) 3 v133 x132 :: obC b38 [v69] 27 :: obS (α := Int) 3 v69 s65.2 :: []) := hH136
       refine V_y (Y_assign rfl) rfl rfl rfl ?_
       refine V_to (fun _ _ => rfl) ?_
       refine C_region_qt (Dw := Dw) 10 Try_mixed (by kernel_rfl) ?_
       simp only [List.take, List.drop]
       refine VQ_y (fun w' hw' => Y_load ((World.cell?_of_block (hw'.block _ (World.block_lt_of_cell? _ _ (Hp.cell (j := 0) hH (i := 1) rfl rfl)))).trans (Hp.cell (j := 0) hH (i := 1) rfl rfl)) Try.isAgg27 rfl) rfl rfl rfl ?_
       refine VQ_y (fun w' hw' => Y_move rfl) rfl rfl rfl ?_
       have h138 := El_level_Clock_2 h109
       refine VQ_y (fun w' hw' => Y_fieldAddr Try.underlying37 rfl Try.sizeOf3 (by decide) rfl) rfl rfl rfl ?_
       refine VQ_y (fun w' hw' => Y_load (El.int (El.kp (Dw := Dw) h138 hw')) Try.isAgg3 rfl) rfl rfl rfl ?_
       obtain ⟨v139, h141, h140⟩ := El_level_Clock h109
       refine VQ_y (fun w' hw' => Y_loadA (At.kp (Dw := Dw) h141 hw' h109.2.1) Try.isAgg37 Try.sizeOf37 rfl) rfl rfl rfl ?_
       refine VQ_y (fun w' hw' => Y_move rfl) rfl rfl rfl ?_
       refine VQ_y (fun w' hw' => Y_move rfl) rfl rfl rfl ?_
       obtain ⟨x142, hx142, ho113⟩ := Option.bind_eq_some_iff.1 ho113
       refine VQ_call (.int .i64 x142) Try.call14 rfl rfl rfl rfl (fun w' hw' => (level_elapsed_c (Dw := Dw) w' (fun b hb => hA b (Nat.le_trans hw'.size hb)) x94 v139 (Sl.kp (Dw := Dw) h140 hw') cals v_cals (Sl.kp (Dw := Dw) h_cals hw') m hx142).mono (fun _ _ h => ⟨h.1, Kp.trans (Dw := Dw) hw' h.2⟩)) ?_
       refine VQ_y (fun w' hw' => Y_subI rfl rfl) rfl rfl rfl ?_
       obtain ⟨x143, hx143, ho113⟩ := Option.bind_eq_some_iff.1 ho113
       refine VQ_indexAddrH (α := Int) (e := 3) (v := v69) (l := s65.2) hH (i := 2) rfl hx143 Try.underlying27 Try.sizeOf3 rfl rfl rfl ?_
       intro b144 o145 h146 hl147
       refine VQ_tail (fun w148 hk149 => ?_)
       try simp only [List.take, List.drop]
       have ht150 := Kp.tr (Dw := Dw) hk149 hA hB
       replace hH := Hp.kp (Dw := Dw) hH hk149
       replace hr115 := Tr.trans (Dw := Dw) hr115 ht150
       replace hB := Nat.le_trans hB ht150.ex.size
       replace hA := ht150.new
       obtain ⟨x151, hx151, ho113⟩ := Option.bind_eq_some_iff.1 ho113
       refine V_storeH (Dw := Dw) (α := Int) (e := 3) (v := v69) (l := s65.2) hH (i := 2) rfl hl147 hx151 rfl Try.sizeOf3 rfl hB hA rfl rfl ?_
       intro w152 hH153 ht154
       replace hr115 := Tr.trans (Dw := Dw) hr115 ht154
       replace hH : Hp w.heap.size A135 w152 (obS (α := Int) 3 v133 x132 :: obC b38 [v69] 27 :: obS (α := Int) 3 v69 x151 :: []) := hH153
       obtain rfl := Option.some.inj ho113
       refine V_end (fun a ha155 => ?_)
       exact ⟨(v133, v69, A135), ha155.sub ⟨rfl, rfl, rfl, rfl, rfl, rfl, rfl, rfl, trivial⟩, ⟨hH, hr115⟩⟩
      ·rw [if_neg (nt hc125)] at ho113
       obtain rfl := Option.some.inj ho113
       refine C_skip (fun a ha156 => ?_)
       exact ⟨(v67, v69, A71), ha156.sub ⟨rfl, rfl, rfl, rfl, rfl, rfl, rfl, rfl, trivial⟩, ⟨hH, hr115⟩⟩
     rintro ⟨v116, v118, A123⟩ w120 ⟨hH124, hk121⟩ a ha122
     replace hr84 := Tr.trans (Dw := Dw) hr84 hk121
     replace hA := hk121.new
     replace hH : Hp w.heap.size A123 w120 (obS (α := Int) 3 v116 s114.1 :: obC b38 [v118] 27 :: obS (α := Int) 3 v118 s114.2 :: []) := hH124
     obtain rfl := Option.some.inj ho82
     exact ⟨(v116, v118, A123), ha122.sub ⟨rfl, rfl, rfl, rfl, rfl, rfl, rfl, rfl, trivial⟩, ⟨hH, hr84⟩⟩
    rintro ⟨v85, v87, A92⟩ w89 ⟨hH93, hk90⟩ a ha91
    replace hr54 := Tr.trans (Dw := Dw) hr54 hk90
    replace hA := hk90.new
    replace hH : Hp w.heap.size A92 w89 (obS (α := Int) 3 v85 s83.1 :: obC b38 [v87] 27 :: obS (α := Int) 3 v87 s83.2 :: []) := hH93
    refine C_at (n := ⟨55, [], none⟩) (fun _ _ => rfl) ?_ ha91
    refine C_region ?_
    refine V_y (Y_addI rfl rfl) rfl rfl rfl ?_
    refine V_y (Y_move rfl) rfl rfl rfl ?_
    obtain rfl := Option.some.inj h74
    refine V_end (fun a ha158 => ?_)
    exact ⟨(s83.1, s83.2), hlt77, h75, ⟨(v85, v87, A92), ha158.sub ⟨rfl, rfl, rfl, rfl, rfl, rfl, rfl, (congrArg (fun z => some (Value.int .i64 z)) (w64_succ hlt77 hn80)), trivial⟩, ⟨hH, hr54⟩⟩⟩
   ·refine C_exit (fun a ha159 => ?_)
    exact ⟨((s65.1, s65.2), v67, v69, A71), ha159.sub ⟨rfl, rfl, rfl, trivial⟩, ⟨(h78 (eq_of_dec hle76 hc81)).symm, hH, hr54⟩⟩
  rintro ⟨s53, v59, v61, A63⟩ w56 ⟨rfl, hH64, hk57⟩ a ha58
  rw [Lp.andThen_fin] at hm
  replace h8 := El.tr (Dw := Dw) h8 hk57
  replace hK := Tr.trans (Dw := Dw) hK hk57
  replace hB := Nat.le_trans hB hk57.ex.size
  replace hA := hk57.new
  replace hH : Hp w.heap.size A63 w56 (obS (α := Int) 3 v59 s53.1 :: obC b38 [v61] 27 :: obS (α := Int) 3 v61 s53.2 :: []) := hH64
  refine C_at (n := ⟨55, [], none⟩) (fun _ _ => rfl) ?_ ha58
  refine C_seq ?_
  refine C_region ?_
  refine V_y (Y_move rfl) rfl rfl rfl ?_
  refine V_y (Y_makeFunc rfl rfl) rfl rfl rfl ?_
  obtain ⟨A161, ht162, h163, hH164⟩ := Hp.freeze (Dw := Dw) (α := Int) (v := v61) (l := s53.2) hH (i := 2) rfl hA
  replace h8 := El.tr (Dw := Dw) h8 ht162
  replace hK := Tr.trans (Dw := Dw) hK ht162
  replace hB := Nat.le_trans hB ht162.ex.size
  replace hA := ht162.new
  replace hH : Hp w.heap.size A161 w56 (obS (α := Int) 3 v59 s53.1 :: obC b38 [v61] 27 :: []) := hH164
  have h172 : (v61).oneCell' = true := by obtain ⟨_, _, e, _⟩ := Sl.form h163; rw [e]; rfl
  obtain ⟨A166, ht167, h168, hH169⟩ := Hp.freezeC (Dw := Dw) (α := (List Int)) (x := s53.2) hH (i := 1) rfl hA (by exact ⟨_, rfl, h163⟩)
  replace h8 := El.tr (Dw := Dw) h8 ht167
  replace hK := Tr.trans (Dw := Dw) hK ht167
  replace hB := Nat.le_trans hB ht167.ex.size
  replace hA := ht167.new
  replace hH : Hp w.heap.size A166 w56 (obS (α := Int) 3 v59 s53.1 :: []) := hH169
  obtain ⟨x173, hx173, hm⟩ := Option.bind_eq_some_iff.1 hm
  refine V_call Try.call15 rfl rfl rfl rfl (Try_sf15 (Dw := Dw) Try.call16 (fun w179 ht180 h181 p183 q184 c185 h182 => by exact (level_Rank_1_c (Dw := True) w179 h181 p183 q184 s53.2 b38 (El.tr (Dw := True) h168 ht180) l b5 (El.tr (Dw := True) h8 ht180) h182).mono fun _ _ h => ⟨h.1, h.2⟩) hH (i := 0) rfl hB hA hx173) ?_
  rintro _ w174 ⟨rfl, hH175, ht176⟩
  replace hK := Tr.trans (Dw := Dw) hK ht176
  replace hH : Hp w.heap.size A166 w174 (obS (α := Int) 3 v59 x173 :: []) := hH175
  refine V_to (fun _ _ => rfl) ?_
  refine C_seq ?_
  refine C_region ?_
  refine V_y (Y_move rfl) rfl rfl rfl ?_
  refine V_y (Y_assign rfl) rfl rfl rfl ?_
  refine V_y (Y_assign rfl) rfl rfl rfl ?_
  refine V_to (fun _ _ => rfl) ?_
  obtain rfl := Option.some.inj hm
  refine C_ret ?_
  try simp only [↓inBlock_ret, ↓then_ret]
  exact retQ rfl (Res.two Try.results5 rfl rfl) ⟨v59, rfl, (Hp.ownd hH (i := 0) rfl), hK.kp⟩
set_option maxRecDepth 4000 in
set_option maxHeartbeats 4000000 in
theorem portref2_IsMoment_c (w : World) (m : Int) : Ret Try.prog 20 #[.int .i64 m] w fun v w' => v = .bool (portref2_IsMoment m) ∧ w = w' := by
 generalize hm : portref2_IsMoment m = r
 unfold portref2_IsMoment at hm
 refine enter Try.func20 rfl Try.ntmps20 rfl ?_
 refine C_seq ?_
 refine C_region ?_
 refine V_y (Y_assign rfl) rfl rfl rfl ?_
 refine V_to (fun _ _ => rfl) ?_
 refine C_seq ?_
 refine C_region ?_
 refine V_y (Y_move rfl) rfl rfl rfl ?_
 refine V_y (Y_geq rfl rfl) rfl rfl rfl ?_
 refine V_y (Y_move rfl) rfl rfl rfl ?_
 refine V_cut 3 (fun _ : Unit => [(8, .bool ((decide ((0 : Int) ≤ m)) && (decide (m ≤ 3000000))))]) (fun _ w' => w = w') ?_ ?_
 ·simp only [List.take, List.drop]
  rcases Bool.eq_false_or_eq_true (decide ((0 : Int) ≤ m)) with hc1 | hc1
  ·refine V_ge rfl rfl rfl hc1 ?_
   refine V_y (Y_move rfl) rfl rfl rfl ?_
   refine V_ge rfl rfl rfl hc1 ?_
   refine V_y (Y_leq rfl rfl) rfl rfl rfl ?_
   refine V_y (Y_pick_te rfl hc1 rfl) rfl rfl rfl ?_
   exact V_end fun a ha => ⟨(), ha.sub ⟨(by rw [hc1]; rfl), trivial⟩, rfl⟩
  ·refine V_gn rfl rfl rfl hc1 rfl rfl rfl ?_
   refine V_gn rfl rfl rfl hc1 rfl rfl rfl ?_
   refine V_y (Y_pick_fe rfl hc1 rfl) rfl rfl rfl ?_
   exact V_end fun a ha => ⟨(), ha.sub ⟨(by rw [hc1]; rfl), trivial⟩, rfl⟩
 simp only [List.take, List.drop]
 rintro _ _ rfl
 refine V_y (Y_assign rfl) rfl rfl rfl ?_
 refine V_to (fun _ _ => rfl) ?_
 obtain rfl := hm
 refine C_ret ?_
 try simp only [↓inBlock_ret, ↓then_ret]
 exact retQ rfl (Res.one Try.results20 rfl) ⟨rfl, rfl⟩
set_option maxRecDepth 4000 in
set_option maxHeartbeats 4000000 in
theorem portref2_ClockFault_c (w : World) {A : Nat → Prop} (hA : ∀ b, w.heap.size ≤ b → A b) (c : level_Clock) (v_c : Value) (h_c : Sl A w v_c c.pieces) {r : Int} (hm : portref2_ClockFault c = some r) : Ret Try.prog 38 #[.agg #[.int .i64 c.kind, .int .i64 c.level, .int .i64 c.minutes, .int .i64 c.start, .int .i64 c.stop, .int .i64 c.end_, v_c]] w fun v w' => v = .int .i64 r ∧ Kp Dw w w' := by
 unfold portref2_ClockFault at hm
 refine enter Try.func38 rfl Try.ntmps38 rfl ?_
 have hA0 := hA
 have hB := Nat.le_refl w.heap.size
 have hK : Tr Dw w.heap.size A w A w := Tr.refl (Dw := Dw) hA
 have hH : Hp w.heap.size A w [] := Hp.nil
 refine C_seq ?_
 refine C_region ?_
 refine V_box rfl rfl ?_
 intro b3 w4 h5
 have hk7 := h5.kp (Dw := Dw)
 have h6 : El (α := level_Clock) A w4 b3 0 c := h5.el hA ⟨[.int .i64 c.kind], _, rfl, rfl, ⟨[.int .i64 c.level], _, rfl, rfl, ⟨[.int .i64 c.minutes], _, rfl, rfl, ⟨[.int .i64 c.start], _, rfl, rfl, ⟨[.int .i64 c.stop], _, rfl, rfl, ⟨[.int .i64 c.end_], _, rfl, rfl, ⟨_, rfl, h_c⟩⟩⟩⟩⟩⟩⟩
 have ht8 := Kp.tr (Dw := Dw) hk7 hA hB
 replace hH := Hp.kp (Dw := Dw) hH hk7
 replace hK := Tr.trans (Dw := Dw) hK ht8
 replace hB := Nat.le_trans hB ht8.ex.size
 replace hA := ht8.new
 refine V_y (Y_assign rfl) rfl rfl rfl ?_
 refine V_to (fun _ _ => rfl) ?_
 refine C_seq ?_
 refine C_seq ?_
 refine C_region ?_
 have h9 := El_level_Clock_0 h6
 refine V_y (Y_fieldAddr Try.underlying37 rfl Try.sizeOf3 (by decide) rfl) rfl rfl rfl ?_
 refine V_y (Y_load (El.int h9) Try.isAgg3 rfl) rfl rfl rfl ?_
 refine V_y (Y_lss rfl rfl) rfl rfl rfl ?_
 refine V_y (Y_move rfl) rfl rfl rfl ?_
 refine V_cut 4 (fun _ : Unit => [(1, .pointer (some ⟨b3, 0, none⟩)), (12, .bool ((decide (c.kind < 1)) || (decide ((3 : Int) < c.kind))))]) (fun _ w' => w4 = w') ?_ ?_
 ·simp only [List.take, List.drop]
  rcases Bool.eq_false_or_eq_true (decide (c.kind < 1)) with hc10 | hc10
  ·refine V_gn rfl rfl rfl hc10 rfl rfl rfl ?_
   refine V_gn rfl rfl rfl hc10 rfl rfl rfl ?_
   refine V_gn rfl rfl rfl hc10 rfl rfl rfl ?_
   refine V_y (Y_pick_te rfl hc10 rfl) rfl rfl rfl ?_
   exact V_end fun a ha => ⟨(), ha.sub ⟨rfl, (by rw [hc10]; rfl), trivial⟩, rfl⟩
  ·refine V_ge rfl rfl rfl hc10 ?_
   have h12 := El_level_Clock_0 h6
   refine V_y (Y_fieldAddr Try.underlying37 rfl Try.sizeOf3 (by decide) rfl) rfl rfl rfl ?_
   refine V_ge rfl rfl rfl hc10 ?_
   refine V_y (Y_load (El.int h12) Try.isAgg3 rfl) rfl rfl rfl ?_
   refine V_ge rfl rfl rfl hc10 ?_
   refine V_y (Y_gtr rfl rfl) rfl rfl rfl ?_
   refine V_y (Y_pick_fe rfl hc10 rfl) rfl rfl rfl ?_
   exact V_end fun a ha => ⟨(), ha.sub ⟨rfl, (by rw [hc10]; rfl), trivial⟩, rfl⟩
 simp only [List.take, List.drop]
 rintro _ _ rfl
 refine V_y (Y_move rfl) rfl rfl rfl ?_
 refine V_cut 4 (fun _ : Unit => [(1, .pointer (some ⟨b3, 0, none⟩)), (17, .bool (((decide (c.kind < 1)) || (decide ((3 : Int) < c.kind))) || (decide (c.level < 0))))]) (fun _ w' => w4 = w') ?_ ?_
 ·simp only [List.take, List.drop]
  rcases Bool.eq_false_or_eq_true (((decide (c.kind < 1)) || (decide ((3 : Int) < c.kind)))) with hc13 | hc13
  ·refine V_gn rfl rfl rfl hc13 rfl rfl rfl ?_
   refine V_gn rfl rfl rfl hc13 rfl rfl rfl ?_
   refine V_gn rfl rfl rfl hc13 rfl rfl rfl ?_
   refine V_y (Y_pick_te rfl hc13 rfl) rfl rfl rfl ?_
   exact V_end fun a ha => ⟨(), ha.sub ⟨rfl, (by rw [hc13]; rfl), trivial⟩, rfl⟩
  ·refine V_ge rfl rfl rfl hc13 ?_
   have h15 := El_level_Clock_1 h6
   refine V_y (Y_fieldAddr Try.underlying37 rfl Try.sizeOf3 (by decide) rfl) rfl rfl rfl ?_
   refine V_ge rfl rfl rfl hc13 ?_
   refine V_y (Y_load (El.int h15) Try.isAgg3 rfl) rfl rfl rfl ?_
   refine V_ge rfl rfl rfl hc13 ?_
   refine V_y (Y_lss rfl rfl) rfl rfl rfl ?_
   refine V_y (Y_pick_fe rfl hc13 rfl) rfl rfl rfl ?_
   exact V_end fun a ha => ⟨(), ha.sub ⟨rfl, (by rw [hc13]; rfl), trivial⟩, rfl⟩
 simp only [List.take, List.drop]
 rintro _ _ rfl
 refine V_y (Y_move rfl) rfl rfl rfl ?_
 refine V_cut 4 (fun _ : Unit => [(1, .pointer (some ⟨b3, 0, none⟩)), (22, .bool ((((decide (c.kind < 1)) || (decide ((3 : Int) < c.kind))) || (decide (c.level < 0))) || (decide ((20 : Int) ≤ c.level))))]) (fun _ w' => w4 = w') ?_ ?_
 ·simp only [List.take, List.drop]
  rcases Bool.eq_false_or_eq_true ((((decide (c.kind < 1)) || (decide ((3 : Int) < c.kind))) || (decide (c.level < 0)))) with hc16 | hc16
  ·refine V_gn rfl rfl rfl hc16 rfl rfl rfl ?_
   refine V_gn rfl rfl rfl hc16 rfl rfl rfl ?_
   refine V_gn rfl rfl rfl hc16 rfl rfl rfl ?_
   refine V_y (Y_pick_te rfl hc16 rfl) rfl rfl rfl ?_
   exact V_end fun a ha => ⟨(), ha.sub ⟨rfl, (by rw [hc16]; rfl), trivial⟩, rfl⟩
  ·refine V_ge rfl rfl rfl hc16 ?_
   have h18 := El_level_Clock_1 h6
   refine V_y (Y_fieldAddr Try.underlying37 rfl Try.sizeOf3 (by decide) rfl) rfl rfl rfl ?_
   refine V_ge rfl rfl rfl hc16 ?_
   refine V_y (Y_load (El.int h18) Try.isAgg3 rfl) rfl rfl rfl ?_
   refine V_ge rfl rfl rfl hc16 ?_
   refine V_y (Y_geq rfl rfl) rfl rfl rfl ?_
   refine V_y (Y_pick_fe rfl hc16 rfl) rfl rfl rfl ?_
   exact V_end fun a ha => ⟨(), ha.sub ⟨rfl, (by rw [hc16]; rfl), trivial⟩, rfl⟩
 simp only [List.take, List.drop]
 rintro _ _ rfl
 refine V_y (Y_move rfl) rfl rfl rfl ?_
 refine V_cut 4 (fun _ : Unit => [(1, .pointer (some ⟨b3, 0, none⟩)), (27, .bool (((((decide (c.kind < 1)) || (decide ((3 : Int) < c.kind))) || (decide (c.level < 0))) || (decide ((20 : Int) ≤ c.level))) || (decide (c.minutes < 0))))]) (fun _ w' => w4 = w') ?_ ?_
 ·simp only [List.take, List.drop]
  rcases Bool.eq_false_or_eq_true (((((decide (c.kind < 1)) || (decide ((3 : Int) < c.kind))) || (decide (c.level < 0))) || (decide ((20 : Int) ≤ c.level)))) with hc19 | hc19
  ·refine V_gn rfl rfl rfl hc19 rfl rfl rfl ?_
   refine V_gn rfl rfl rfl hc19 rfl rfl rfl ?_
   refine V_gn rfl rfl rfl hc19 rfl rfl rfl ?_
   refine V_y (Y_pick_te rfl hc19 rfl) rfl rfl rfl ?_
   exact V_end fun a ha => ⟨(), ha.sub ⟨rfl, (by rw [hc19]; rfl), trivial⟩, rfl⟩
  ·refine V_ge rfl rfl rfl hc19 ?_
   have h21 := El_level_Clock_2 h6
   refine V_y (Y_fieldAddr Try.underlying37 rfl Try.sizeOf3 (by decide) rfl) rfl rfl rfl ?_
   refine V_ge rfl rfl rfl hc19 ?_
   refine V_y (Y_load (El.int h21) Try.isAgg3 rfl) rfl rfl rfl ?_
   refine V_ge rfl rfl rfl hc19 ?_
   refine V_y (Y_lss rfl rfl) rfl rfl rfl ?_
   refine V_y (Y_pick_fe rfl hc19 rfl) rfl rfl rfl ?_
   exact V_end fun a ha => ⟨(), ha.sub ⟨rfl, (by rw [hc19]; rfl), trivial⟩, rfl⟩
 simp only [List.take, List.drop]
 rintro _ _ rfl
 refine V_y (Y_move rfl) rfl rfl rfl ?_
 refine V_cut 4 (fun _ : Unit => [(1, .pointer (some ⟨b3, 0, none⟩)), (32, .bool ((((((decide (c.kind < 1)) || (decide ((3 : Int) < c.kind))) || (decide (c.level < 0))) || (decide ((20 : Int) ≤ c.level))) || (decide (c.minutes < 0))) || (decide ((100000 : Int) < c.minutes))))]) (fun _ w' => w4 = w') ?_ ?_
 ·simp only [List.take, List.drop]
  rcases Bool.eq_false_or_eq_true ((((((decide (c.kind < 1)) || (decide ((3 : Int) < c.kind))) || (decide (c.level < 0))) || (decide ((20 : Int) ≤ c.level))) || (decide (c.minutes < 0)))) with hc22 | hc22
  ·refine V_gn rfl rfl rfl hc22 rfl rfl rfl ?_
   refine V_gn rfl rfl rfl hc22 rfl rfl rfl ?_
   refine V_gn rfl rfl rfl hc22 rfl rfl rfl ?_
   refine V_y (Y_pick_te rfl hc22 rfl) rfl rfl rfl ?_
   exact V_end fun a ha => ⟨(), ha.sub ⟨rfl, (by rw [hc22]; rfl), trivial⟩, rfl⟩
  ·refine V_ge rfl rfl rfl hc22 ?_
   have h24 := El_level_Clock_2 h6
   refine V_y (Y_fieldAddr Try.underlying37 rfl Try.sizeOf3 (by decide) rfl) rfl rfl rfl ?_
   refine V_ge rfl rfl rfl hc22 ?_
   refine V_y (Y_load (El.int h24) Try.isAgg3 rfl) rfl rfl rfl ?_
   refine V_ge rfl rfl rfl hc22 ?_
   refine V_y (Y_gtr rfl rfl) rfl rfl rfl ?_
   refine V_y (Y_pick_fe rfl hc22 rfl) rfl rfl rfl ?_
   exact V_end fun a ha => ⟨(), ha.sub ⟨rfl, (by rw [hc22]; rfl), trivial⟩, rfl⟩
 simp only [List.take, List.drop]
 rintro _ _ rfl
 refine V_y (Y_move rfl) rfl rfl rfl ?_
 refine V_cut 5 (fun _ : Unit => [(1, .pointer (some ⟨b3, 0, none⟩)), (38, .bool (((((((decide (c.kind < 1)) || (decide ((3 : Int) < c.kind))) || (decide (c.level < 0))) || (decide ((20 : Int) ≤ c.level))) || (decide (c.minutes < 0))) || (decide ((100000 : Int) < c.minutes))) || (!(portref2_IsMoment c.start))))]) (fun _ w' => w4 = w') ?_ ?_
 ·simp only [List.take, List.drop]
  rcases Bool.eq_false_or_eq_true (((((((decide (c.kind < 1)) || (decide ((3 : Int) < c.kind))) || (decide (c.level < 0))) || (decide ((20 : Int) ≤ c.level))) || (decide (c.minutes < 0))) || (decide ((100000 : Int) < c.minutes)))) with hc25 | hc25
  ·refine V_gn rfl rfl rfl hc25 rfl rfl rfl ?_
   refine V_gn rfl rfl rfl hc25 rfl rfl rfl ?_
   refine V_gn rfl rfl rfl hc25 rfl rfl rfl ?_
   refine V_gn rfl rfl rfl hc25 rfl rfl rfl ?_
   refine V_y (Y_pick_te rfl hc25 rfl) rfl rfl rfl ?_
   exact V_end fun a ha => ⟨(), ha.sub ⟨rfl, (by rw [hc25]; rfl), trivial⟩, rfl⟩
  ·refine V_ge rfl rfl rfl hc25 ?_
   have h27 := El_level_Clock_3 h6
   refine V_y (Y_fieldAddr Try.underlying37 rfl Try.sizeOf3 (by decide) rfl) rfl rfl rfl ?_
   refine V_ge rfl rfl rfl hc25 ?_
   refine V_y (Y_load (El.int h27) Try.isAgg3 rfl) rfl rfl rfl ?_
   refine V_ge rfl rfl rfl hc25 ?_
   refine V_call Try.call20 rfl rfl rfl rfl (portref2_IsMoment_c w4 c.start) ?_
   rintro _ _ ⟨rfl, rfl⟩
   refine V_ge rfl rfl rfl hc25 ?_
   refine V_y (Y_not rfl) rfl rfl rfl ?_
   refine V_y (Y_pick_fe rfl hc25 rfl) rfl rfl rfl ?_
   exact V_end fun a ha => ⟨(), ha.sub ⟨rfl, (by rw [hc25]; rfl), trivial⟩, rfl⟩
 simp only [List.take, List.drop]
 rintro _ _ rfl
 refine V_y (Y_move rfl) rfl rfl rfl ?_
 refine V_cut 17 (fun _ : Unit => [(1, .pointer (some ⟨b3, 0, none⟩)), (56, .bool ((((((((decide (c.kind < 1)) || (decide ((3 : Int) < c.kind))) || (decide (c.level < 0))) || (decide ((20 : Int) ≤ c.level))) || (decide (c.minutes < 0))) || (decide ((100000 : Int) < c.minutes))) || (!(portref2_IsMoment c.start))) || ((c.stop != (-1)) && ((!(portref2_IsMoment c.stop)) || (decide (c.stop < c.start))))))]) (fun _ w' => w4 = w') ?_ ?_
 ·simp only [List.take, List.drop]
  rcases Bool.eq_false_or_eq_true ((((((((decide (c.kind < 1)) || (decide ((3 : Int) < c.kind))) || (decide (c.level < 0))) || (decide ((20 : Int) ≤ c.level))) || (decide (c.minutes < 0))) || (decide ((100000 : Int) < c.minutes))) || (!(portref2_IsMoment c.start)))) with hc28 | hc28
  ·refine V_gn rfl rfl rfl hc28 rfl rfl rfl ?_
   refine V_gn rfl rfl rfl hc28 rfl rfl rfl ?_
   refine V_gn rfl rfl rfl hc28 rfl rfl rfl ?_
   refine V_gn rfl rfl rfl hc28 rfl rfl rfl ?_
   refine V_gu rfl rfl rfl rfl rfl ?_
   refine V_gu rfl rfl rfl rfl rfl ?_
   refine V_gu rfl rfl rfl rfl rfl ?_
   refine V_gu rfl rfl rfl rfl rfl ?_
   refine V_gu rfl rfl rfl rfl rfl ?_
   refine V_gu rfl rfl rfl rfl rfl ?_
   refine V_gu rfl rfl rfl rfl rfl ?_
   refine V_gu rfl rfl rfl rfl rfl ?_
   refine V_gu rfl rfl rfl rfl rfl ?_
   refine V_gu rfl rfl rfl rfl rfl ?_
   refine V_gu rfl rfl rfl rfl rfl ?_
   refine V_gn rfl rfl rfl hc28 rfl rfl rfl ?_
   refine V_y (Y_pick_te rfl hc28 rfl) rfl rfl rfl ?_
   exact V_end fun a ha => ⟨(), ha.sub ⟨rfl, (by rw [hc28]; rfl), trivial⟩, rfl⟩
  ·refine V_ge rfl rfl rfl hc28 ?_
   have h30 := El_level_Clock_4 h6
   refine V_y (Y_fieldAddr Try.underlying37 rfl Try.sizeOf3 (by decide) rfl) rfl rfl rfl ?_
   refine V_ge rfl rfl rfl hc28 ?_
   refine V_y (Y_load (El.int h30) Try.isAgg3 rfl) rfl rfl rfl ?_
   refine V_ge rfl rfl rfl hc28 ?_
   refine V_y (Y_neq rfl rfl) rfl rfl rfl ?_
   refine V_ge rfl rfl rfl hc28 ?_
   refine V_y (Y_move rfl) rfl rfl rfl ?_
   refine V_cut 12 (fun _ : Unit => [(1, .pointer (some ⟨b3, 0, none⟩)), (39, .bool (((((((decide (c.kind < 1)) || (decide ((3 : Int) < c.kind))) || (decide (c.level < 0))) || (decide ((20 : Int) ≤ c.level))) || (decide (c.minutes < 0))) || (decide ((100000 : Int) < c.minutes))) || (!(portref2_IsMoment c.start)))), (55, .bool ((c.stop != (-1)) && ((!(portref2_IsMoment c.stop)) || (decide (c.stop < c.start)))))]) (fun _ w' => w4 = w') ?_ ?_
   ·simp only [List.take, List.drop]
    rcases Bool.eq_false_or_eq_true (c.stop != (-1)) with hc31 | hc31
    ·refine V_ge rfl rfl rfl hc31 ?_
     have h33 := El_level_Clock_4 h6
     refine V_y (Y_fieldAddr Try.underlying37 rfl Try.sizeOf3 (by decide) rfl) rfl rfl rfl ?_
     refine V_ge rfl rfl rfl hc31 ?_
     refine V_y (Y_load (El.int h33) Try.isAgg3 rfl) rfl rfl rfl ?_
     refine V_ge rfl rfl rfl hc31 ?_
     refine V_call Try.call20 rfl rfl rfl rfl (portref2_IsMoment_c w4 c.stop) ?_
     rintro _ _ ⟨rfl, rfl⟩
     refine V_ge rfl rfl rfl hc31 ?_
     refine V_y (Y_not rfl) rfl rfl rfl ?_
     refine V_ge rfl rfl rfl hc31 ?_
     refine V_y (Y_move rfl) rfl rfl rfl ?_
     refine V_cut 6 (fun _ : Unit => [(1, .pointer (some ⟨b3, 0, none⟩)), (39, .bool (((((((decide (c.kind < 1)) || (decide ((3 : Int) < c.kind))) || (decide (c.level < 0))) || (decide ((20 : Int) ≤ c.level))) || (decide (c.minutes < 0))) || (decide ((100000 : Int) < c.minutes))) || (!(portref2_IsMoment c.start)))), (43, .bool (c.stop != (-1))), (54, .bool ((!(portref2_IsMoment c.stop)) || (decide (c.stop < c.start))))]) (fun _ w' => w4 = w') ?_ ?_
     ·simp only [List.take, List.drop]
      rcases Bool.eq_false_or_eq_true (!(portref2_IsMoment c.stop)) with hc34 | hc34
      ·refine V_gn rfl rfl rfl hc34 rfl rfl rfl ?_
       refine V_gn rfl rfl rfl hc34 rfl rfl rfl ?_
       refine V_gn rfl rfl rfl hc34 rfl rfl rfl ?_
       refine V_gn rfl rfl rfl hc34 rfl rfl rfl ?_
       refine V_gn rfl rfl rfl hc34 rfl rfl rfl ?_
       refine V_ge rfl rfl rfl hc31 ?_
       refine V_y (Y_pick_te rfl hc34 rfl) rfl rfl rfl ?_
       exact V_end fun a ha => ⟨(), ha.sub ⟨rfl, rfl, rfl, (by rw [hc34]; rfl), trivial⟩, rfl⟩
      ·refine V_ge rfl rfl rfl hc34 ?_
       have h36 := El_level_Clock_4 h6
       refine V_y (Y_fieldAddr Try.underlying37 rfl Try.sizeOf3 (by decide) rfl) rfl rfl rfl ?_
       refine V_ge rfl rfl rfl hc34 ?_
       refine V_y (Y_load (El.int h36) Try.isAgg3 rfl) rfl rfl rfl ?_
       refine V_ge rfl rfl rfl hc34 ?_
       have h37 := El_level_Clock_3 h6
       refine V_y (Y_fieldAddr Try.underlying37 rfl Try.sizeOf3 (by decide) rfl) rfl rfl rfl ?_
       refine V_ge rfl rfl rfl hc34 ?_
       refine V_y (Y_load (El.int h37) Try.isAgg3 rfl) rfl rfl rfl ?_
       refine V_ge rfl rfl rfl hc34 ?_
       refine V_y (Y_lss rfl rfl) rfl rfl rfl ?_
       refine V_ge rfl rfl rfl hc31 ?_
       refine V_y (Y_pick_fe rfl hc34 rfl) rfl rfl rfl ?_
       exact V_end fun a ha => ⟨(), ha.sub ⟨rfl, rfl, rfl, (by rw [hc34]; rfl), trivial⟩, rfl⟩
     simp only [List.take, List.drop]
     rintro _ _ rfl
     refine V_ge rfl rfl rfl hc28 ?_
     refine V_y (Y_pick_te rfl hc31 rfl) rfl rfl rfl ?_
     exact V_end fun a ha => ⟨(), ha.sub ⟨rfl, rfl, (by rw [hc31]; rfl), trivial⟩, rfl⟩
    ·refine V_gn rfl rfl rfl hc31 rfl rfl rfl ?_
     refine V_gn rfl rfl rfl hc31 rfl rfl rfl ?_
     refine V_gn rfl rfl rfl hc31 rfl rfl rfl ?_
     refine V_gn rfl rfl rfl hc31 rfl rfl rfl ?_
     refine V_gn rfl rfl rfl hc31 rfl rfl rfl ?_
     refine V_gu rfl rfl rfl rfl rfl ?_
     refine V_gu rfl rfl rfl rfl rfl ?_
     refine V_gu rfl rfl rfl rfl rfl ?_
     refine V_gu rfl rfl rfl rfl rfl ?_
     refine V_gu rfl rfl rfl rfl rfl ?_
     refine V_gn rfl rfl rfl hc31 rfl rfl rfl ?_
     refine V_ge rfl rfl rfl hc28 ?_
     refine V_y (Y_pick_fe rfl hc31 rfl) rfl rfl rfl ?_
     exact V_end fun a ha => ⟨(), ha.sub ⟨rfl, rfl, (by rw [hc31]; rfl), trivial⟩, rfl⟩
   simp only [List.take, List.drop]
   rintro _ _ rfl
   refine V_y (Y_pick_fe rfl hc28 rfl) rfl rfl rfl ?_
   exact V_end fun a ha => ⟨(), ha.sub ⟨rfl, (by rw [hc28]; rfl), trivial⟩, rfl⟩
 simp only [List.take, List.drop]
 rintro _ _ rfl
 refine V_y (Y_move rfl) rfl rfl rfl ?_
 refine V_cut 4 (fun _ : Unit => [(1, .pointer (some ⟨b3, 0, none⟩)), (61, .bool (((((((((decide (c.kind < 1)) || (decide ((3 : Int) < c.kind))) || (decide (c.level < 0))) || (decide ((20 : Int) ≤ c.level))) || (decide (c.minutes < 0))) || (decide ((100000 : Int) < c.minutes))) || (!(portref2_IsMoment c.start))) || ((c.stop != (-1)) && ((!(portref2_IsMoment c.stop)) || (decide (c.stop < c.start))))) || (decide (c.end_ < 0))))]) (fun _ w' => w4 = w') ?_ ?_
 ·simp only [List.take, List.drop]
  rcases Bool.eq_false_or_eq_true (((((((((decide (c.kind < 1)) || (decide ((3 : Int) < c.kind))) || (decide (c.level < 0))) || (decide ((20 : Int) ≤ c.level))) || (decide (c.minutes < 0))) || (decide ((100000 : Int) < c.minutes))) || (!(portref2_IsMoment c.start))) || ((c.stop != (-1)) && ((!(portref2_IsMoment c.stop)) || (decide (c.stop < c.start)))))) with hc38 | hc38
  ·refine V_gn rfl rfl rfl hc38 rfl rfl rfl ?_
   refine V_gn rfl rfl rfl hc38 rfl rfl rfl ?_
   refine V_gn rfl rfl rfl hc38 rfl rfl rfl ?_
   refine V_y (Y_pick_te rfl hc38 rfl) rfl rfl rfl ?_
   exact V_end fun a ha => ⟨(), ha.sub ⟨rfl, (by rw [hc38]; rfl), trivial⟩, rfl⟩
  ·refine V_ge rfl rfl rfl hc38 ?_
   have h40 := El_level_Clock_5 h6
   refine V_y (Y_fieldAddr Try.underlying37 rfl Try.sizeOf3 (by decide) rfl) rfl rfl rfl ?_
   refine V_ge rfl rfl rfl hc38 ?_
   refine V_y (Y_load (El.int h40) Try.isAgg3 rfl) rfl rfl rfl ?_
   refine V_ge rfl rfl rfl hc38 ?_
   refine V_y (Y_lss rfl rfl) rfl rfl rfl ?_
   refine V_y (Y_pick_fe rfl hc38 rfl) rfl rfl rfl ?_
   exact V_end fun a ha => ⟨(), ha.sub ⟨rfl, (by rw [hc38]; rfl), trivial⟩, rfl⟩
 simp only [List.take, List.drop]
 rintro _ _ rfl
 refine V_y (Y_move rfl) rfl rfl rfl ?_
 refine V_cut 4 (fun _ : Unit => [(1, .pointer (some ⟨b3, 0, none⟩)), (66, .bool ((((((((((decide (c.kind < 1)) || (decide ((3 : Int) < c.kind))) || (decide (c.level < 0))) || (decide ((20 : Int) ≤ c.level))) || (decide (c.minutes < 0))) || (decide ((100000 : Int) < c.minutes))) || (!(portref2_IsMoment c.start))) || ((c.stop != (-1)) && ((!(portref2_IsMoment c.stop)) || (decide (c.stop < c.start))))) || (decide (c.end_ < 0))) || (decide ((2 : Int) < c.end_))))]) (fun _ w' => w4 = w') ?_ ?_
 ·simp only [List.take, List.drop]
  rcases Bool.eq_false_or_eq_true ((((((((((decide (c.kind < 1)) || (decide ((3 : Int) < c.kind))) || (decide (c.level < 0))) || (decide ((20 : Int) ≤ c.level))) || (decide (c.minutes < 0))) || (decide ((100000 : Int) < c.minutes))) || (!(portref2_IsMoment c.start))) || ((c.stop != (-1)) && ((!(portref2_IsMoment c.stop)) || (decide (c.stop < c.start))))) || (decide (c.end_ < 0)))) with hc41 | hc41
  ·refine V_gn rfl rfl rfl hc41 rfl rfl rfl ?_
   refine V_gn rfl rfl rfl hc41 rfl rfl rfl ?_
   refine V_gn rfl rfl rfl hc41 rfl rfl rfl ?_
   refine V_y (Y_pick_te rfl hc41 rfl) rfl rfl rfl ?_
   exact V_end fun a ha => ⟨(), ha.sub ⟨rfl, (by rw [hc41]; rfl), trivial⟩, rfl⟩
  ·refine V_ge rfl rfl rfl hc41 ?_
   have h43 := El_level_Clock_5 h6
   refine V_y (Y_fieldAddr Try.underlying37 rfl Try.sizeOf3 (by decide) rfl) rfl rfl rfl ?_
   refine V_ge rfl rfl rfl hc41 ?_
   refine V_y (Y_load (El.int h43) Try.isAgg3 rfl) rfl rfl rfl ?_
   refine V_ge rfl rfl rfl hc41 ?_
   refine V_y (Y_gtr rfl rfl) rfl rfl rfl ?_
   refine V_y (Y_pick_fe rfl hc41 rfl) rfl rfl rfl ?_
   exact V_end fun a ha => ⟨(), ha.sub ⟨rfl, (by rw [hc41]; rfl), trivial⟩, rfl⟩
 simp only [List.take, List.drop]
 rintro _ _ rfl
 refine V_to (fun _ _ => rfl) ?_
 refine C_cond rfl (fun hc44 => ?_) (fun hc44 => ?_)
 ·rw [if_pos hc44] at hm
  refine C_seq ?_
  refine C_region ?_
  refine V_y (Y_assign rfl) rfl rfl rfl ?_
  refine V_to (fun _ _ => rfl) ?_
  obtain rfl := Option.some.inj hm
  refine C_ret ?_
  try simp only [↓inBlock_ret, ↓then_ret]
  exact retQ rfl (Res.one Try.results38 rfl) ⟨rfl, hK.kp⟩
 ·rw [if_neg (nt hc44)] at hm
  refine C_skip_to (fun _ _ => rfl) ?_
  refine C_seq ?_
  refine C_seq ?_
  refine C_region ?_
  have h45 := El_level_Clock_4 h6
  refine V_y (Y_fieldAddr Try.underlying37 rfl Try.sizeOf3 (by decide) rfl) rfl rfl rfl ?_
  refine V_y (Y_load (El.int h45) Try.isAgg3 rfl) rfl rfl rfl ?_
  refine V_y (Y_eql rfl rfl) rfl rfl rfl ?_
  have h46 := El_level_Clock_5 h6
  refine V_y (Y_fieldAddr Try.underlying37 rfl Try.sizeOf3 (by decide) rfl) rfl rfl rfl ?_
  refine V_y (Y_load (El.int h46) Try.isAgg3 rfl) rfl rfl rfl ?_
  refine V_y (Y_eql rfl rfl) rfl rfl rfl ?_
  refine V_y (Y_bneq Try.underlying4 rfl rfl) rfl rfl rfl ?_
  refine V_to (fun _ _ => rfl) ?_
  refine C_cond rfl (fun hc47 => ?_) (fun hc47 => ?_)
  ·rw [if_pos hc47] at hm
   refine C_seq ?_
   refine C_region ?_
   refine V_y (Y_assign rfl) rfl rfl rfl ?_
   refine V_to (fun _ _ => rfl) ?_
   obtain rfl := Option.some.inj hm
   refine C_ret ?_
   try simp only [↓inBlock_ret, ↓then_ret]
   exact retQ rfl (Res.one Try.results38 rfl) ⟨rfl, hK.kp⟩
  ·rw [if_neg (nt hc47)] at hm
   refine C_skip_to (fun _ _ => rfl) ?_
   refine C_seq ?_
   refine C_seq ?_
   refine C_region ?_
   have h48 := El_level_Clock_6 h6
   refine V_y (Y_fieldAddr Try.underlying37 rfl Try.sizeOf35 (by decide) rfl) rfl rfl rfl ?_
   obtain ⟨v49, h50, h51⟩ := El.list h48
   refine V_y (Y_load h50 Try.isAgg35 rfl) rfl rfl rfl ?_
   refine V_y (Y_lenSl h51 rfl Try.underlying35 rfl) rfl rfl rfl ?_
   refine V_y (Y_gtr rfl rfl) rfl rfl rfl ?_
   refine V_to (fun _ _ => rfl) ?_
   refine C_cond rfl (fun hc52 => ?_) (fun hc52 => ?_)
   ·rw [if_pos hc52] at hm
    refine C_seq ?_
    refine C_region ?_
    refine V_y (Y_assign rfl) rfl rfl rfl ?_
    refine V_to (fun _ _ => rfl) ?_
    obtain rfl := Option.some.inj hm
    refine C_ret ?_
    try simp only [↓inBlock_ret, ↓then_ret]
    exact retQ rfl (Res.one Try.results38 rfl) ⟨rfl, hK.kp⟩
   ·rw [if_neg (nt hc52)] at hm
    refine C_skip_to (fun _ _ => rfl) ?_
    refine C_seq ?_
    refine C_seq ?_
    refine C_region ?_
    have h53 := El_level_Clock_6 h6
    refine V_y (Y_fieldAddr Try.underlying37 rfl Try.sizeOf35 (by decide) rfl) rfl rfl rfl ?_
    obtain ⟨v54, h55, h56⟩ := El.list h53
    refine V_y (Y_load h55 Try.isAgg35 rfl) rfl rfl rfl ?_
    refine V_y (Y_lenSl h56 rfl Try.underlying35 rfl) rfl rfl rfl ?_
    refine V_y (Y_move rfl) rfl rfl rfl ?_
    refine V_to (fun _ _ => rfl) ?_
    have hn77 := Sl.le h56
    obtain ⟨o57, ho57, hm⟩ := Option.bind_eq_some_iff.1 hm
    refine C_cutG (ι := (Unit × (Nat → Prop))) (fun ⟨s58, A64⟩ => []) (fun ⟨s58, A64⟩ => fun w' => o57 = .fin s58 ∧ Hp w.heap.size A64 w' ([]) ∧ Tr Dw w.heap.size A w4 A64 w') ?_ ?_
    ·refine C_block ?_
     refine C_range ho57 (fun k60 _ a w' => ∃ i : (Nat → Prop), Has ⟨169, [], none⟩ a ([(1, .pointer (some ⟨b3, 0, none⟩)), (79, v54), (80, .int .i64 (c.pieces.length : Int)), (81, .int .i64 (k60 : Int))]) ∧ Hp w.heap.size i w' ([]) ∧ Tr Dw w.heap.size A w4 i w') (fun a ha => ⟨A, ha.sub ⟨rfl, rfl, rfl, rfl, trivial⟩, ⟨hH, Tr.refl (Dw := Dw) hA⟩⟩) ?_
     rintro K k60 _ a w67 ⟨A68, ha157, hH69, hr59⟩ hle73 K76 h75
     refine C_of ?_ ha157
     replace h6 := El.tr (Dw := Dw) h6 hr59
     replace h56 := Sl.tr (Dw := Dw) h56 hr59
     replace hK := Tr.trans (Dw := Dw) hK hr59
     replace hB := Nat.le_trans hB hr59.ex.size
     replace hA := hr59.new
     replace hH : Hp w.heap.size A68 w67 ([]) := hH69
     refine C_seq (C_region (V_y (Y_lss rfl rfl) rfl rfl rfl (V_to (fun _ _ => rfl) ?_)))
     refine C_seq ?_
     refine C_cond rfl (fun hc78 => ?_) (fun hc78 => ?_)
     ·have hlt74 := lt_of_dec hc78
      obtain ⟨x70, h71, h72⟩ := K76 hlt74
      refine C_skip_to (fun _ _ => rfl) ?_
      refine C_seq ?_
      refine C_block ?_
      refine C_seq ?_
      refine C_region ?_
      refine V_y (Y_move rfl) rfl rfl rfl ?_
      obtain ⟨x79, hx79, h71⟩ := Option.bind_eq_some_iff.1 h71
      refine V_indexAddr h56 hx79 Try.underlying35 Try.sizeOf62 rfl rfl rfl ?_
      intro b80 o81 h82
      obtain ⟨h83, _⟩ := El_level_Piece h82
      refine V_y (Y_loadA h83 Try.isAgg62 Try.sizeOf62 rfl) rfl rfl rfl ?_
      refine V_alloc Try.zeroValue62 rfl ?_
      intro b84 w85 h86
      refine V_y (Y_assign rfl) rfl rfl rfl ?_
      refine V_storeNew h86 Try.sizeOf62 rfl rfl rfl rfl (by exact (List.forall_mem_cons.2 ⟨rfl, (List.forall_mem_cons.2 ⟨rfl, (List.forall_mem_cons.2 ⟨rfl, (fun _ h => nomatch h)⟩)⟩)⟩)) ?_
      intro w87 h88
      have hk90 := h88.kp (Dw := Dw)
      have h89 : El (α := level_Piece) A68 w87 b84 0 x79 := h88.el hA ⟨[.int .i64 x79.from_], _, rfl, rfl, ⟨[.int .i64 x79.to_], _, rfl, rfl, rfl⟩⟩
      have ht91 := Kp.tr (Dw := Dw) hk90 hA hB
      replace hH := Hp.kp (Dw := Dw) hH hk90
      replace h6 := El.tr (Dw := Dw) h6 ht91
      replace hK := Tr.trans (Dw := Dw) hK ht91
      replace hr59 := Tr.trans (Dw := Dw) hr59 ht91
      replace hB := Nat.le_trans hB ht91.ex.size
      replace hA := ht91.new
      refine V_to (fun _ _ => rfl) ?_
      refine C_block ?_
      refine C_seq ?_
      refine C_region ?_
      have h92 := El_level_Piece_0 h89
      refine V_y (Y_fieldAddr Try.underlying62 rfl Try.sizeOf3 (by decide) rfl) rfl rfl rfl ?_
      refine V_y (Y_load (El.int h92) Try.isAgg3 rfl) rfl rfl rfl ?_
      have h93 := El_level_Clock_3 h6
      refine V_y (Y_fieldAddr Try.underlying37 rfl Try.sizeOf3 (by decide) rfl) rfl rfl rfl ?_
      refine V_y (Y_load (El.int h93) Try.isAgg3 rfl) rfl rfl rfl ?_
      refine V_y (Y_lss rfl rfl) rfl rfl rfl ?_
      refine V_y (Y_move rfl) rfl rfl rfl ?_
      refine V_cut 5 (fun _ : Unit => [(1, .pointer (some ⟨b3, 0, none⟩)), (3, .int .i64 (k60 : Int)), (4, .pointer (some ⟨b84, 0, none⟩)), (79, v54), (80, .int .i64 (c.pieces.length : Int)), (81, .int .i64 (k60 : Int)), (97, .bool ((decide (x79.from_ < c.start)) || (!(portref2_IsMoment x79.from_))))]) (fun _ w' => w87 = w') ?_ ?_
      ·simp only [List.take, List.drop]
       rcases Bool.eq_false_or_eq_true (decide (x79.from_ < c.start)) with hc94 | hc94
       ·refine V_gn rfl rfl rfl hc94 rfl rfl rfl ?_
        refine V_gn rfl rfl rfl hc94 rfl rfl rfl ?_
        refine V_gn rfl rfl rfl hc94 rfl rfl rfl ?_
        refine V_gn rfl rfl rfl hc94 rfl rfl rfl ?_
        refine V_y (Y_pick_te rfl hc94 rfl) rfl rfl rfl ?_
        exact V_end fun a ha => ⟨(), ha.sub ⟨rfl, rfl, rfl, rfl, rfl, rfl, (by rw [hc94]; rfl), trivial⟩, rfl⟩
       ·refine V_ge rfl rfl rfl hc94 ?_
        have h96 := El_level_Piece_0 h89
        refine V_y (Y_fieldAddr Try.underlying62 rfl Try.sizeOf3 (by decide) rfl) rfl rfl rfl ?_
        refine V_ge rfl rfl rfl hc94 ?_
        refine V_y (Y_load (El.int h96) Try.isAgg3 rfl) rfl rfl rfl ?_
        refine V_ge rfl rfl rfl hc94 ?_
        refine V_call Try.call20 rfl rfl rfl rfl (portref2_IsMoment_c w87 x79.from_) ?_
        rintro _ _ ⟨rfl, rfl⟩
        refine V_ge rfl rfl rfl hc94 ?_
        refine V_y (Y_not rfl) rfl rfl rfl ?_
        refine V_y (Y_pick_fe rfl hc94 rfl) rfl rfl rfl ?_
        exact V_end fun a ha => ⟨(), ha.sub ⟨rfl, rfl, rfl, rfl, rfl, rfl, (by rw [hc94]; rfl), trivial⟩, rfl⟩
      simp only [List.take, List.drop]
      rintro _ _ rfl
      refine V_y (Y_move rfl) rfl rfl rfl ?_
      refine V_cut 4 (fun _ : Unit => [(1, .pointer (some ⟨b3, 0, none⟩)), (3, .int .i64 (k60 : Int)), (4, .pointer (some ⟨b84, 0, none⟩)), (79, v54), (80, .int .i64 (c.pieces.length : Int)), (81, .int .i64 (k60 : Int)), (102, .bool (((decide (x79.from_ < c.start)) || (!(portref2_IsMoment x79.from_))) || (decide (x79.calendar < 0))))]) (fun _ w' => w87 = w') ?_ ?_
      ·simp only [List.take, List.drop]
       rcases Bool.eq_false_or_eq_true (((decide (x79.from_ < c.start)) || (!(portref2_IsMoment x79.from_)))) with hc97 | hc97
       ·refine V_gn rfl rfl rfl hc97 rfl rfl rfl ?_
        refine V_gn rfl rfl rfl hc97 rfl rfl rfl ?_
        refine V_gn rfl rfl rfl hc97 rfl rfl rfl ?_
        refine V_y (Y_pick_te rfl hc97 rfl) rfl rfl rfl ?_
        exact V_end fun a ha => ⟨(), ha.sub ⟨rfl, rfl, rfl, rfl, rfl, rfl, (by rw [hc97]; rfl), trivial⟩, rfl⟩
       ·refine V_ge rfl rfl rfl hc97 ?_
        have h99 := El_level_Piece_2 h89
        refine V_y (Y_fieldAddr Try.underlying62 rfl Try.sizeOf3 (by decide) rfl) rfl rfl rfl ?_
        refine V_ge rfl rfl rfl hc97 ?_
        refine V_y (Y_load (El.int h99) Try.isAgg3 rfl) rfl rfl rfl ?_
        refine V_ge rfl rfl rfl hc97 ?_
        refine V_y (Y_lss rfl rfl) rfl rfl rfl ?_
        refine V_y (Y_pick_fe rfl hc97 rfl) rfl rfl rfl ?_
        exact V_end fun a ha => ⟨(), ha.sub ⟨rfl, rfl, rfl, rfl, rfl, rfl, (by rw [hc97]; rfl), trivial⟩, rfl⟩
      simp only [List.take, List.drop]
      rintro _ _ rfl
      refine V_y (Y_move rfl) rfl rfl rfl ?_
      refine V_cut 4 (fun _ : Unit => [(1, .pointer (some ⟨b3, 0, none⟩)), (3, .int .i64 (k60 : Int)), (4, .pointer (some ⟨b84, 0, none⟩)), (79, v54), (80, .int .i64 (c.pieces.length : Int)), (81, .int .i64 (k60 : Int)), (107, .bool ((((decide (x79.from_ < c.start)) || (!(portref2_IsMoment x79.from_))) || (decide (x79.calendar < 0))) || (decide ((20 : Int) ≤ x79.calendar))))]) (fun _ w' => w87 = w') ?_ ?_
      ·simp only [List.take, List.drop]
       rcases Bool.eq_false_or_eq_true ((((decide (x79.from_ < c.start)) || (!(portref2_IsMoment x79.from_))) || (decide (x79.calendar < 0)))) with hc100 | hc100
       ·refine V_gn rfl rfl rfl hc100 rfl rfl rfl ?_
        refine V_gn rfl rfl rfl hc100 rfl rfl rfl ?_
        refine V_gn rfl rfl rfl hc100 rfl rfl rfl ?_
        refine V_y (Y_pick_te rfl hc100 rfl) rfl rfl rfl ?_
        exact V_end fun a ha => ⟨(), ha.sub ⟨rfl, rfl, rfl, rfl, rfl, rfl, (by rw [hc100]; rfl), trivial⟩, rfl⟩
       ·refine V_ge rfl rfl rfl hc100 ?_
        have h102 := El_level_Piece_2 h89
        refine V_y (Y_fieldAddr Try.underlying62 rfl Try.sizeOf3 (by decide) rfl) rfl rfl rfl ?_
        refine V_ge rfl rfl rfl hc100 ?_
        refine V_y (Y_load (El.int h102) Try.isAgg3 rfl) rfl rfl rfl ?_
        refine V_ge rfl rfl rfl hc100 ?_
        refine V_y (Y_geq rfl rfl) rfl rfl rfl ?_
        refine V_y (Y_pick_fe rfl hc100 rfl) rfl rfl rfl ?_
        exact V_end fun a ha => ⟨(), ha.sub ⟨rfl, rfl, rfl, rfl, rfl, rfl, (by rw [hc100]; rfl), trivial⟩, rfl⟩
      simp only [List.take, List.drop]
      rintro _ _ rfl
      refine V_y (Y_move rfl) rfl rfl rfl ?_
      refine V_cut 17 (fun _ : Unit => [(1, .pointer (some ⟨b3, 0, none⟩)), (3, .int .i64 (k60 : Int)), (4, .pointer (some ⟨b84, 0, none⟩)), (79, v54), (80, .int .i64 (c.pieces.length : Int)), (81, .int .i64 (k60 : Int)), (125, .bool (((((decide (x79.from_ < c.start)) || (!(portref2_IsMoment x79.from_))) || (decide (x79.calendar < 0))) || (decide ((20 : Int) ≤ x79.calendar))) || ((x79.to_ != (-1)) && ((!(portref2_IsMoment x79.to_)) || (decide (x79.to_ ≤ x79.from_))))))]) (fun _ w' => w87 = w') ?_ ?_
      ·simp only [List.take, List.drop]
       rcases Bool.eq_false_or_eq_true (((((decide (x79.from_ < c.start)) || (!(portref2_IsMoment x79.from_))) || (decide (x79.calendar < 0))) || (decide ((20 : Int) ≤ x79.calendar)))) with hc103 | hc103
       ·refine V_gn rfl rfl rfl hc103 rfl rfl rfl ?_
        refine V_gn rfl rfl rfl hc103 rfl rfl rfl ?_
        refine V_gn rfl rfl rfl hc103 rfl rfl rfl ?_
        refine V_gn rfl rfl rfl hc103 rfl rfl rfl ?_
        refine V_gu rfl rfl rfl rfl rfl ?_
        refine V_gu rfl rfl rfl rfl rfl ?_
        refine V_gu rfl rfl rfl rfl rfl ?_
        refine V_gu rfl rfl rfl rfl rfl ?_
        refine V_gu rfl rfl rfl rfl rfl ?_
        refine V_gu rfl rfl rfl rfl rfl ?_
        refine V_gu rfl rfl rfl rfl rfl ?_
        refine V_gu rfl rfl rfl rfl rfl ?_
        refine V_gu rfl rfl rfl rfl rfl ?_
        refine V_gu rfl rfl rfl rfl rfl ?_
        refine V_gu rfl rfl rfl rfl rfl ?_
        refine V_gn rfl rfl rfl hc103 rfl rfl rfl ?_
        refine V_y (Y_pick_te rfl hc103 rfl) rfl rfl rfl ?_
        exact V_end fun a ha => ⟨(), ha.sub ⟨rfl, rfl, rfl, rfl, rfl, rfl, (by rw [hc103]; rfl), trivial⟩, rfl⟩
       ·refine V_ge rfl rfl rfl hc103 ?_
        have h105 := El_level_Piece_1 h89
        refine V_y (Y_fieldAddr Try.underlying62 rfl Try.sizeOf3 (by decide) rfl) rfl rfl rfl ?_
        refine V_ge rfl rfl rfl hc103 ?_
        refine V_y (Y_load (El.int h105) Try.isAgg3 rfl) rfl rfl rfl ?_
        refine V_ge rfl rfl rfl hc103 ?_
        refine V_y (Y_neq rfl rfl) rfl rfl rfl ?_
        refine V_ge rfl rfl rfl hc103 ?_
        refine V_y (Y_move rfl) rfl rfl rfl ?_
        refine V_cut 12 (fun _ : Unit => [(1, .pointer (some ⟨b3, 0, none⟩)), (3, .int .i64 (k60 : Int)), (4, .pointer (some ⟨b84, 0, none⟩)), (79, v54), (80, .int .i64 (c.pieces.length : Int)), (81, .int .i64 (k60 : Int)), (108, .bool ((((decide (x79.from_ < c.start)) || (!(portref2_IsMoment x79.from_))) || (decide (x79.calendar < 0))) || (decide ((20 : Int) ≤ x79.calendar)))), (124, .bool ((x79.to_ != (-1)) && ((!(portref2_IsMoment x79.to_)) || (decide (x79.to_ ≤ x79.from_)))))]) (fun _ w' => w87 = w') ?_ ?_
        ·simp only [List.take, List.drop]
         rcases Bool.eq_false_or_eq_true (x79.to_ != (-1)) with hc106 | hc106
         ·refine V_ge rfl rfl rfl hc106 ?_
          have h108 := El_level_Piece_1 h89
          refine V_y (Y_fieldAddr Try.underlying62 rfl Try.sizeOf3 (by decide) rfl) rfl rfl rfl ?_
          refine V_ge rfl rfl rfl hc106 ?_
          refine V_y (Y_load (El.int h108) Try.isAgg3 rfl) rfl rfl rfl ?_
          refine V_ge rfl rfl rfl hc106 ?_
          refine V_call Try.call20 rfl rfl rfl rfl (portref2_IsMoment_c w87 x79.to_) ?_
          rintro _ _ ⟨rfl, rfl⟩
          refine V_ge rfl rfl rfl hc106 ?_
          refine V_y (Y_not rfl) rfl rfl rfl ?_
          refine V_ge rfl rfl rfl hc106 ?_
          refine V_y (Y_move rfl) rfl rfl rfl ?_
          refine V_cut 6 (fun _ : Unit => [(1, .pointer (some ⟨b3, 0, none⟩)), (3, .int .i64 (k60 : Int)), (4, .pointer (some ⟨b84, 0, none⟩)), (79, v54), (80, .int .i64 (c.pieces.length : Int)), (81, .int .i64 (k60 : Int)), (108, .bool ((((decide (x79.from_ < c.start)) || (!(portref2_IsMoment x79.from_))) || (decide (x79.calendar < 0))) || (decide ((20 : Int) ≤ x79.calendar)))), (112, .bool (x79.to_ != (-1))), (123, .bool ((!(portref2_IsMoment x79.to_)) || (decide (x79.to_ ≤ x79.from_))))]) (fun _ w' => w87 = w') ?_ ?_
          ·simp only [List.take, List.drop]
           rcases Bool.eq_false_or_eq_true (!(portref2_IsMoment x79.to_)) with hc109 | hc109
           ·refine V_gn rfl rfl rfl hc109 rfl rfl rfl ?_
            refine V_gn rfl rfl rfl hc109 rfl rfl rfl ?_
            refine V_gn rfl rfl rfl hc109 rfl rfl rfl ?_
            refine V_gn rfl rfl rfl hc109 rfl rfl rfl ?_
            refine V_gn rfl rfl rfl hc109 rfl rfl rfl ?_
            refine V_ge rfl rfl rfl hc106 ?_
            refine V_y (Y_pick_te rfl hc109 rfl) rfl rfl rfl ?_
            exact V_end fun a ha => ⟨(), ha.sub ⟨rfl, rfl, rfl, rfl, rfl, rfl, rfl, rfl, (by rw [hc109]; rfl), trivial⟩, rfl⟩
           ·refine V_ge rfl rfl rfl hc109 ?_
            have h111 := El_level_Piece_1 h89
            refine V_y (Y_fieldAddr Try.underlying62 rfl Try.sizeOf3 (by decide) rfl) rfl rfl rfl ?_
            refine V_ge rfl rfl rfl hc109 ?_
            refine V_y (Y_load (El.int h111) Try.isAgg3 rfl) rfl rfl rfl ?_
            refine V_ge rfl rfl rfl hc109 ?_
            have h112 := El_level_Piece_0 h89
            refine V_y (Y_fieldAddr Try.underlying62 rfl Try.sizeOf3 (by decide) rfl) rfl rfl rfl ?_
            refine V_ge rfl rfl rfl hc109 ?_
            refine V_y (Y_load (El.int h112) Try.isAgg3 rfl) rfl rfl rfl ?_
            refine V_ge rfl rfl rfl hc109 ?_
            refine V_y (Y_leq rfl rfl) rfl rfl rfl ?_
            refine V_ge rfl rfl rfl hc106 ?_
            refine V_y (Y_pick_fe rfl hc109 rfl) rfl rfl rfl ?_
            exact V_end fun a ha => ⟨(), ha.sub ⟨rfl, rfl, rfl, rfl, rfl, rfl, rfl, rfl, (by rw [hc109]; rfl), trivial⟩, rfl⟩
          simp only [List.take, List.drop]
          rintro _ _ rfl
          refine V_ge rfl rfl rfl hc103 ?_
          refine V_y (Y_pick_te rfl hc106 rfl) rfl rfl rfl ?_
          exact V_end fun a ha => ⟨(), ha.sub ⟨rfl, rfl, rfl, rfl, rfl, rfl, rfl, (by rw [hc106]; rfl), trivial⟩, rfl⟩
         ·refine V_gn rfl rfl rfl hc106 rfl rfl rfl ?_
          refine V_gn rfl rfl rfl hc106 rfl rfl rfl ?_
          refine V_gn rfl rfl rfl hc106 rfl rfl rfl ?_
          refine V_gn rfl rfl rfl hc106 rfl rfl rfl ?_
          refine V_gn rfl rfl rfl hc106 rfl rfl rfl ?_
          refine V_gu rfl rfl rfl rfl rfl ?_
          refine V_gu rfl rfl rfl rfl rfl ?_
          refine V_gu rfl rfl rfl rfl rfl ?_
          refine V_gu rfl rfl rfl rfl rfl ?_
          refine V_gu rfl rfl rfl rfl rfl ?_
          refine V_gn rfl rfl rfl hc106 rfl rfl rfl ?_
          refine V_ge rfl rfl rfl hc103 ?_
          refine V_y (Y_pick_fe rfl hc106 rfl) rfl rfl rfl ?_
          exact V_end fun a ha => ⟨(), ha.sub ⟨rfl, rfl, rfl, rfl, rfl, rfl, rfl, (by rw [hc106]; rfl), trivial⟩, rfl⟩
        simp only [List.take, List.drop]
        rintro _ _ rfl
        refine V_y (Y_pick_fe rfl hc103 rfl) rfl rfl rfl ?_
        exact V_end fun a ha => ⟨(), ha.sub ⟨rfl, rfl, rfl, rfl, rfl, rfl, (by rw [hc103]; rfl), trivial⟩, rfl⟩
      simp only [List.take, List.drop]
      rintro _ _ rfl
      refine V_y (Y_assign rfl) rfl rfl rfl ?_
      refine V_to (fun _ _ => rfl) ?_
      refine C_cond rfl (fun hc113 => ?_) (fun hc113 => ?_)
      ·rw [if_pos hc113] at h71
       refine C_seq ?_
       refine C_region ?_
       refine V_y (Y_assign rfl) rfl rfl rfl ?_
       refine V_to (fun _ _ => rfl) ?_
       obtain rfl := Option.some.inj h71
       obtain rfl := (h72 : Lp.rt _ = _)
       rw [Lp.andThen_rt] at hm
       obtain rfl := Option.some.inj hm
       refine C_ret ?_
       try simp only [↓inBlock_ret, ↓then_ret]
       exact retQ rfl (Res.one Try.results38 rfl) ⟨rfl, hK.kp⟩
      ·rw [if_neg (nt hc113)] at h71
       refine C_seq ?_
       refine C_seq ?_
       refine C_region ?_
       have h114 := El_level_Piece_1 h89
       refine V_y (Y_fieldAddr Try.underlying62 rfl Try.sizeOf3 (by decide) rfl) rfl rfl rfl ?_
       refine V_y (Y_load (El.int h114) Try.isAgg3 rfl) rfl rfl rfl ?_
       refine V_y (Y_eql rfl rfl) rfl rfl rfl ?_
       refine V_y (Y_move rfl) rfl rfl rfl ?_
       refine V_cut 12 (fun _ : Unit => [(1, .pointer (some ⟨b3, 0, none⟩)), (3, .int .i64 (k60 : Int)), (4, .pointer (some ⟨b84, 0, none⟩)), (79, v54), (80, .int .i64 (c.pieces.length : Int)), (81, .int .i64 (k60 : Int)), (142, .bool ((x79.to_ == (-1)) && ((decide ((k60 : Int) < (w64 ((c.pieces.length : Int) - 1)))) || (c.stop != (-1)))))]) (fun _ w' => w87 = w') ?_ ?_
       ·simp only [List.take, List.drop]
        rcases Bool.eq_false_or_eq_true (x79.to_ == (-1)) with hc115 | hc115
        ·refine V_ge rfl rfl rfl hc115 ?_
         refine V_y (Y_move rfl) rfl rfl rfl ?_
         refine V_ge rfl rfl rfl hc115 ?_
         have h117 := El_level_Clock_6 h6
         refine V_y (Y_fieldAddr Try.underlying37 rfl Try.sizeOf35 (by decide) rfl) rfl rfl rfl ?_
         refine V_ge rfl rfl rfl hc115 ?_
         obtain ⟨v118, h119, h120⟩ := El.list h117
         refine V_y (Y_load h119 Try.isAgg35 rfl) rfl rfl rfl ?_
         refine V_ge rfl rfl rfl hc115 ?_
         refine V_y (Y_lenSl h120 rfl Try.underlying35 rfl) rfl rfl rfl ?_
         refine V_ge rfl rfl rfl hc115 ?_
         refine V_y (Y_subI rfl rfl) rfl rfl rfl ?_
         refine V_ge rfl rfl rfl hc115 ?_
         refine V_y (Y_lss rfl rfl) rfl rfl rfl ?_
         refine V_ge rfl rfl rfl hc115 ?_
         refine V_y (Y_move rfl) rfl rfl rfl ?_
         refine V_cut 4 (fun _ : Unit => [(1, .pointer (some ⟨b3, 0, none⟩)), (3, .int .i64 (k60 : Int)), (4, .pointer (some ⟨b84, 0, none⟩)), (79, v54), (80, .int .i64 (c.pieces.length : Int)), (81, .int .i64 (k60 : Int)), (130, .bool (x79.to_ == (-1))), (141, .bool ((decide ((k60 : Int) < (w64 ((c.pieces.length : Int) - 1)))) || (c.stop != (-1))))]) (fun _ w' => w87 = w') ?_ ?_
         ·simp only [List.take, List.drop]
          rcases Bool.eq_false_or_eq_true (decide ((k60 : Int) < (w64 ((c.pieces.length : Int) - 1)))) with hc121 | hc121
          ·refine V_gn rfl rfl rfl hc121 rfl rfl rfl ?_
           refine V_gn rfl rfl rfl hc121 rfl rfl rfl ?_
           refine V_gn rfl rfl rfl hc121 rfl rfl rfl ?_
           refine V_ge rfl rfl rfl hc115 ?_
           refine V_y (Y_pick_te rfl hc121 rfl) rfl rfl rfl ?_
           exact V_end fun a ha => ⟨(), ha.sub ⟨rfl, rfl, rfl, rfl, rfl, rfl, rfl, (by rw [hc121]; rfl), trivial⟩, rfl⟩
          ·refine V_ge rfl rfl rfl hc121 ?_
           have h123 := El_level_Clock_4 h6
           refine V_y (Y_fieldAddr Try.underlying37 rfl Try.sizeOf3 (by decide) rfl) rfl rfl rfl ?_
           refine V_ge rfl rfl rfl hc121 ?_
           refine V_y (Y_load (El.int h123) Try.isAgg3 rfl) rfl rfl rfl ?_
           refine V_ge rfl rfl rfl hc121 ?_
           refine V_y (Y_neq rfl rfl) rfl rfl rfl ?_
           refine V_ge rfl rfl rfl hc115 ?_
           refine V_y (Y_pick_fe rfl hc121 rfl) rfl rfl rfl ?_
           exact V_end fun a ha => ⟨(), ha.sub ⟨rfl, rfl, rfl, rfl, rfl, rfl, rfl, (by rw [hc121]; rfl), trivial⟩, rfl⟩
         simp only [List.take, List.drop]
         rintro _ _ rfl
         refine V_y (Y_pick_te rfl hc115 rfl) rfl rfl rfl ?_
         exact V_end fun a ha => ⟨(), ha.sub ⟨rfl, rfl, rfl, rfl, rfl, rfl, (by rw [hc115]; rfl), trivial⟩, rfl⟩
        ·refine V_gn rfl rfl rfl hc115 rfl rfl rfl ?_
         refine V_gn rfl rfl rfl hc115 rfl rfl rfl ?_
         refine V_gn rfl rfl rfl hc115 rfl rfl rfl ?_
         refine V_gn rfl rfl rfl hc115 rfl rfl rfl ?_
         refine V_gn rfl rfl rfl hc115 rfl rfl rfl ?_
         refine V_gn rfl rfl rfl hc115 rfl rfl rfl ?_
         refine V_gn rfl rfl rfl hc115 rfl rfl rfl ?_
         refine V_gu rfl rfl rfl rfl rfl ?_
         refine V_gu rfl rfl rfl rfl rfl ?_
         refine V_gu rfl rfl rfl rfl rfl ?_
         refine V_gn rfl rfl rfl hc115 rfl rfl rfl ?_
         refine V_y (Y_pick_fe rfl hc115 rfl) rfl rfl rfl ?_
         exact V_end fun a ha => ⟨(), ha.sub ⟨rfl, rfl, rfl, rfl, rfl, rfl, (by rw [hc115]; rfl), trivial⟩, rfl⟩
       simp only [List.take, List.drop]
       rintro _ _ rfl
       refine V_y (Y_assign rfl) rfl rfl rfl ?_
       refine V_to (fun _ _ => rfl) ?_
       obtain ⟨s125, ho124, h71⟩ := Option.bind_eq_some_iff.1 h71
       refine C_cutG (ι := Unit) (fun (_ : Unit) => [(1, .pointer (some ⟨b3, 0, none⟩)), (3, .int .i64 (k60 : Int)), (4, .pointer (some ⟨b84, 0, none⟩)), (79, v54), (80, .int .i64 (c.pieces.length : Int)), (81, .int .i64 (k60 : Int)), (126, .bool s125)]) (fun (_ : Unit) => fun w' => w87 = w') ?_ ?_
       ·refine C_cond rfl (fun hc130 => ?_) (fun hc130 => ?_)
        ·rw [if_pos hc130] at ho124
         obtain rfl := Option.some.inj ho124
         refine C_skip (fun a ha131 => ?_)
         exact ⟨(), ha131.sub ⟨rfl, rfl, rfl, rfl, rfl, rfl, rfl, trivial⟩, rfl⟩
        ·rw [if_neg (nt hc130)] at ho124
         refine C_region ?_
         have h132 := El_level_Clock_4 h6
         refine V_y (Y_fieldAddr Try.underlying37 rfl Try.sizeOf3 (by decide) rfl) rfl rfl rfl ?_
         refine V_y (Y_load (El.int h132) Try.isAgg3 rfl) rfl rfl rfl ?_
         refine V_y (Y_neq rfl rfl) rfl rfl rfl ?_
         refine V_y (Y_move rfl) rfl rfl rfl ?_
         refine V_cut 6 (fun _ : Unit => [(1, .pointer (some ⟨b3, 0, none⟩)), (3, .int .i64 (k60 : Int)), (4, .pointer (some ⟨b84, 0, none⟩)), (79, v54), (80, .int .i64 (c.pieces.length : Int)), (81, .int .i64 (k60 : Int)), (152, .bool ((c.stop != (-1)) && (decide (c.stop < x79.to_))))]) (fun _ w' => w87 = w') ?_ ?_
         ·simp only [List.take, List.drop]
          rcases Bool.eq_false_or_eq_true (c.stop != (-1)) with hc133 | hc133
          ·refine V_ge rfl rfl rfl hc133 ?_
           have h135 := El_level_Piece_1 h89
           refine V_y (Y_fieldAddr Try.underlying62 rfl Try.sizeOf3 (by decide) rfl) rfl rfl rfl ?_
           refine V_ge rfl rfl rfl hc133 ?_
           refine V_y (Y_load (El.int h135) Try.isAgg3 rfl) rfl rfl rfl ?_
           refine V_ge rfl rfl rfl hc133 ?_
           have h136 := El_level_Clock_4 h6
           refine V_y (Y_fieldAddr Try.underlying37 rfl Try.sizeOf3 (by decide) rfl) rfl rfl rfl ?_
           refine V_ge rfl rfl rfl hc133 ?_
           refine V_y (Y_load (El.int h136) Try.isAgg3 rfl) rfl rfl rfl ?_
           refine V_ge rfl rfl rfl hc133 ?_
           refine V_y (Y_gtr rfl rfl) rfl rfl rfl ?_
           refine V_y (Y_pick_te rfl hc133 rfl) rfl rfl rfl ?_
           exact V_end fun a ha => ⟨(), ha.sub ⟨rfl, rfl, rfl, rfl, rfl, rfl, (by rw [hc133]; rfl), trivial⟩, rfl⟩
          ·refine V_gn rfl rfl rfl hc133 rfl rfl rfl ?_
           refine V_gn rfl rfl rfl hc133 rfl rfl rfl ?_
           refine V_gn rfl rfl rfl hc133 rfl rfl rfl ?_
           refine V_gn rfl rfl rfl hc133 rfl rfl rfl ?_
           refine V_gn rfl rfl rfl hc133 rfl rfl rfl ?_
           refine V_y (Y_pick_fe rfl hc133 rfl) rfl rfl rfl ?_
           exact V_end fun a ha => ⟨(), ha.sub ⟨rfl, rfl, rfl, rfl, rfl, rfl, (by rw [hc133]; rfl), trivial⟩, rfl⟩
         simp only [List.take, List.drop]
         rintro _ _ rfl
         refine V_y (Y_assign rfl) rfl rfl rfl ?_
         obtain rfl := Option.some.inj ho124
         refine V_end (fun a ha137 => ?_)
         exact ⟨(), ha137.sub ⟨rfl, rfl, rfl, rfl, rfl, rfl, rfl, trivial⟩, rfl⟩
       rintro _ _ rfl a ha129
       refine C_at (n := ⟨169, [], none⟩) (fun _ _ => rfl) ?_ ha129
       refine C_cond rfl (fun hc138 => ?_) (fun hc138 => ?_)
       ·rw [if_pos hc138] at h71
        refine C_seq ?_
        refine C_region ?_
        refine V_y (Y_assign rfl) rfl rfl rfl ?_
        refine V_to (fun _ _ => rfl) ?_
        obtain rfl := Option.some.inj h71
        obtain rfl := (h72 : Lp.rt _ = _)
        rw [Lp.andThen_rt] at hm
        obtain rfl := Option.some.inj hm
        refine C_ret ?_
        try simp only [↓inBlock_ret, ↓then_ret]
        exact retQ rfl (Res.one Try.results38 rfl) ⟨rfl, hK.kp⟩
       ·rw [if_neg (nt hc138)] at h71
        refine C_seq ?_
        refine C_region_q (Dw := Dw) Try_mixed (by kernel_rfl) ?_
        refine VQ_y (fun w' hw' => Y_move rfl) rfl rfl rfl ?_
        refine VQ_y (fun w' hw' => Y_gtr rfl rfl) rfl rfl rfl ?_
        refine VQ_y (fun w' hw' => Y_move rfl) rfl rfl rfl ?_
        obtain ⟨s140, hs140, h71⟩ := Option.bind_eq_some_iff.1 h71
        refine VQ_cut 11 (fun _ : Unit => [(1, .pointer (some ⟨b3, 0, none⟩)), (79, v54), (80, .int .i64 (c.pieces.length : Int)), (81, .int .i64 (k60 : Int)), (167, .bool s140)]) (fun _ => True) ?_ ?_
        ·simp only [List.take, List.drop]
         rcases Bool.eq_false_or_eq_true (decide ((0 : Int) < (k60 : Int))) with hc139 | hc139
         ·rw [if_pos hc139] at hs140
          refine VQ_ge rfl rfl rfl hc139 ?_
          have h141 := El_level_Piece_0 h89
          refine VQ_y (fun w' hw' => Y_fieldAddr Try.underlying62 rfl Try.sizeOf3 (by decide) rfl) rfl rfl rfl ?_
          refine VQ_ge rfl rfl rfl hc139 ?_
          refine VQ_y (fun w' hw' => Y_load (El.int (El.kp (Dw := Dw) h141 hw')) Try.isAgg3 rfl) rfl rfl rfl ?_
          refine VQ_ge rfl rfl rfl hc139 ?_
          have h142 := El_level_Clock_6 h6
          refine VQ_y (fun w' hw' => Y_fieldAddr Try.underlying37 rfl Try.sizeOf35 (by decide) rfl) rfl rfl rfl ?_
          refine VQ_ge rfl rfl rfl hc139 ?_
          obtain ⟨v143, h144, h145⟩ := El.list h142
          refine VQ_y (fun w' hw' => Y_load ((World.cell?_of_block (hw'.block _ (World.block_lt_of_cell? _ _ h144))).trans h144) Try.isAgg35 rfl) rfl rfl rfl ?_
          refine VQ_ge rfl rfl rfl hc139 ?_
          refine VQ_y (fun w' hw' => Y_move rfl) rfl rfl rfl ?_
          refine VQ_ge rfl rfl rfl hc139 ?_
          refine VQ_y (fun w' hw' => Y_subI rfl rfl) rfl rfl rfl ?_
          refine VQ_ge rfl rfl rfl hc139 ?_
          obtain ⟨x146, hx146, hs140⟩ := Option.bind_eq_some_iff.1 hs140
          refine VQ_indexAddr h145 hx146 Try.underlying35 Try.sizeOf62 rfl rfl rfl ?_
          intro b147 o148 h149
          refine VQ_ge rfl rfl rfl hc139 ?_
          have h150 := El_level_Piece_1 h149
          refine VQ_y (fun w' hw' => Y_fieldAddr Try.underlying62 rfl Try.sizeOf3 (by decide) rfl) rfl rfl rfl ?_
          refine VQ_ge rfl rfl rfl hc139 ?_
          refine VQ_y (fun w' hw' => Y_load (El.int (El.kp (Dw := Dw) h150 hw')) Try.isAgg3 rfl) rfl rfl rfl ?_
          refine VQ_ge rfl rfl rfl hc139 ?_
          refine VQ_y (fun w' hw' => Y_lss rfl rfl) rfl rfl rfl ?_
          refine VQ_y (fun _ _ => Y_pick_te rfl hc139 rfl) rfl rfl rfl ?_
          obtain rfl := Option.some.inj hs140
          exact VQ_end fun a ha => ⟨(), ha.sub ⟨rfl, rfl, rfl, rfl, rfl, trivial⟩, trivial⟩
         ·rw [if_neg (nt hc139)] at hs140
          refine VQ_gn rfl rfl rfl hc139 rfl rfl rfl ?_
          refine VQ_gn rfl rfl rfl hc139 rfl rfl rfl ?_
          refine VQ_gn rfl rfl rfl hc139 rfl rfl rfl ?_
          refine VQ_gn rfl rfl rfl hc139 rfl rfl rfl ?_
          refine VQ_gn rfl rfl rfl hc139 rfl rfl rfl ?_
          refine VQ_gn rfl rfl rfl hc139 rfl rfl rfl ?_
          refine VQ_gn rfl rfl rfl hc139 rfl rfl rfl ?_
          refine VQ_gn rfl rfl rfl hc139 rfl rfl rfl ?_
          refine VQ_gn rfl rfl rfl hc139 rfl rfl rfl ?_
          refine VQ_gn rfl rfl rfl hc139 rfl rfl rfl ?_
          refine VQ_y (fun _ _ => Y_pick_fe rfl hc139 rfl) rfl rfl rfl ?_
          obtain rfl := Option.some.inj hs140
          exact VQ_end fun a ha => ⟨(), ha.sub ⟨rfl, rfl, rfl, rfl, rfl, trivial⟩, trivial⟩
        simp only [List.take, List.drop]
        rintro _ _
        refine VQ_y (fun w' hw' => Y_assign rfl) rfl rfl rfl ?_
        refine VQ_to (fun _ _ => rfl) (fun w151 hk152 => ?_)
        have ht153 := Kp.tr (Dw := Dw) hk152 hA hB
        replace hH := Hp.kp (Dw := Dw) hH hk152
        replace hK := Tr.trans (Dw := Dw) hK ht153
        replace hr59 := Tr.trans (Dw := Dw) hr59 ht153
        refine C_cond rfl (fun hc154 => ?_) (fun hc154 => ?_)
        ·rw [if_pos hc154] at h71
         refine C_seq ?_
         refine C_region ?_
         refine V_y (Y_assign rfl) rfl rfl rfl ?_
         refine V_to (fun _ _ => rfl) ?_
         obtain rfl := Option.some.inj h71
         obtain rfl := (h72 : Lp.rt _ = _)
         rw [Lp.andThen_rt] at hm
         obtain rfl := Option.some.inj hm
         refine C_ret ?_
         try simp only [↓inBlock_ret, ↓then_ret]
         exact retQ rfl (Res.one Try.results38 rfl) ⟨rfl, hK.kp⟩
        ·rw [if_neg (nt hc154)] at h71
         refine C_skip_to (fun _ _ => rfl) ?_
         refine C_region ?_
         refine V_y (Y_addI rfl rfl) rfl rfl rfl ?_
         refine V_y (Y_move rfl) rfl rfl rfl ?_
         obtain rfl := Option.some.inj h71
         refine V_end (fun a ha155 => ?_)
         exact ⟨(), hlt74, h72, ⟨A68, ha155.sub ⟨rfl, rfl, rfl, (congrArg (fun z => some (Value.int .i64 z)) (w64_succ hlt74 hn77)), trivial⟩, ⟨hH, hr59⟩⟩⟩
     ·refine C_exit (fun a ha156 => ?_)
      exact ⟨((), A68), ha156.sub trivial, ⟨(h75 (eq_of_dec hle73 hc78)).symm, hH, hr59⟩⟩
    rintro ⟨s58, A64⟩ w61 ⟨rfl, hH65, hk62⟩ a ha63
    rw [Lp.andThen_fin] at hm
    replace hK := Tr.trans (Dw := Dw) hK hk62
    replace hA := hk62.new
    replace hH : Hp w.heap.size A64 w61 ([]) := hH65
    refine C_at (n := ⟨169, [], none⟩) (fun _ _ => rfl) ?_ ha63
    refine C_seq ?_
    refine C_region ?_
    refine V_y (Y_assign rfl) rfl rfl rfl ?_
    refine V_to (fun _ _ => rfl) ?_
    obtain rfl := Option.some.inj hm
    refine C_ret ?_
    try simp only [↓inBlock_ret, ↓then_ret]
    exact retQ rfl (Res.one Try.results38 rfl) ⟨rfl, hK.kp⟩
set_option maxRecDepth 4000 in
set_option maxHeartbeats 4000000 in
theorem portref2_ZoneFault_1_c (w : World) (n : Int) : Ret Try.prog 86 #[.int .i64 n] w fun v w' => v = .bool (portref2_ZoneFault_1 n) ∧ w = w' := by
 generalize hm : portref2_ZoneFault_1 n = r
 unfold portref2_ZoneFault_1 at hm
 refine enter Try.func86 rfl Try.ntmps86 rfl ?_
 refine C_seq ?_
 refine C_region ?_
 refine V_y (Y_assign rfl) rfl rfl rfl ?_
 refine V_to (fun _ _ => rfl) ?_
 refine C_seq ?_
 refine C_region ?_
 refine V_y (Y_move rfl) rfl rfl rfl ?_
 refine V_y (Y_lss rfl rfl) rfl rfl rfl ?_
 refine V_y (Y_move rfl) rfl rfl rfl ?_
 refine V_cut 3 (fun _ : Unit => [(8, .bool ((decide (n < (-1440))) || (decide ((1440 : Int) < n))))]) (fun _ w' => w = w') ?_ ?_
 ·simp only [List.take, List.drop]
  rcases Bool.eq_false_or_eq_true (decide (n < (-1440))) with hc1 | hc1
  ·refine V_gn rfl rfl rfl hc1 rfl rfl rfl ?_
   refine V_gn rfl rfl rfl hc1 rfl rfl rfl ?_
   refine V_y (Y_pick_te rfl hc1 rfl) rfl rfl rfl ?_
   exact V_end fun a ha => ⟨(), ha.sub ⟨(by rw [hc1]; rfl), trivial⟩, rfl⟩
  ·refine V_ge rfl rfl rfl hc1 ?_
   refine V_y (Y_move rfl) rfl rfl rfl ?_
   refine V_ge rfl rfl rfl hc1 ?_
   refine V_y (Y_gtr rfl rfl) rfl rfl rfl ?_
   refine V_y (Y_pick_fe rfl hc1 rfl) rfl rfl rfl ?_
   exact V_end fun a ha => ⟨(), ha.sub ⟨(by rw [hc1]; rfl), trivial⟩, rfl⟩
 simp only [List.take, List.drop]
 rintro _ _ rfl
 refine V_y (Y_assign rfl) rfl rfl rfl ?_
 refine V_to (fun _ _ => rfl) ?_
 obtain rfl := hm
 refine C_ret ?_
 try simp only [↓inBlock_ret, ↓then_ret]
 exact retQ rfl (Res.one Try.results86 rfl) ⟨rfl, rfl⟩
set_option maxRecDepth 4000 in
set_option maxHeartbeats 4000000 in
theorem portref2_ZoneFault_c (w : World) {A : Nat → Prop} (hA : ∀ b, w.heap.size ≤ b → A b) (z : cal_Zone) (v_z : Value) (h_z : Sl A w v_z z.changes) {r : Int} (hm : portref2_ZoneFault z = some r) : Ret Try.prog 75 #[.agg #[.int .i64 z.offset, v_z]] w fun v w' => v = .int .i64 r ∧ Kp Dw w w' := by
 unfold portref2_ZoneFault at hm
 refine enter Try.func75 rfl Try.ntmps75 rfl ?_
 have hA0 := hA
 have hB := Nat.le_refl w.heap.size
 have hK : Tr Dw w.heap.size A w A w := Tr.refl (Dw := Dw) hA
 have hH : Hp w.heap.size A w [] := Hp.nil
 refine C_seq ?_
 refine C_region ?_
 refine V_box rfl rfl ?_
 intro b3 w4 h5
 have hk7 := h5.kp (Dw := Dw)
 have h6 : El (α := cal_Zone) A w4 b3 0 z := h5.el hA ⟨[.int .i64 z.offset], _, rfl, rfl, ⟨_, rfl, h_z⟩⟩
 have ht8 := Kp.tr (Dw := Dw) hk7 hA hB
 replace hH := Hp.kp (Dw := Dw) hH hk7
 replace hK := Tr.trans (Dw := Dw) hK ht8
 replace hB := Nat.le_trans hB ht8.ex.size
 replace hA := ht8.new
 refine V_y (Y_assign rfl) rfl rfl rfl ?_
 refine V_to (fun _ _ => rfl) ?_
 refine C_seq ?_
 refine C_region ?_
 refine V_y (Y_assign rfl) rfl rfl rfl ?_
 refine V_to (fun _ _ => rfl) ?_
 refine C_seq ?_
 refine C_seq ?_
 refine C_region ?_
 refine V_y (Y_move rfl) rfl rfl rfl ?_
 have h9 := El_cal_Zone_0 h6
 refine V_y (Y_fieldAddr Try.underlying54 rfl Try.sizeOf3 (by decide) rfl) rfl rfl rfl ?_
 refine V_y (Y_load (El.int h9) Try.isAgg3 rfl) rfl rfl rfl ?_
 refine V_call Try.call86 rfl rfl rfl rfl (portref2_ZoneFault_1_c w4 z.offset) ?_
 rintro _ _ ⟨rfl, rfl⟩
 refine V_to (fun _ _ => rfl) ?_
 refine C_cond rfl (fun hc10 => ?_) (fun hc10 => ?_)
 ·rw [if_pos hc10] at hm
  refine C_seq ?_
  refine C_region ?_
  refine V_y (Y_assign rfl) rfl rfl rfl ?_
  refine V_to (fun _ _ => rfl) ?_
  obtain rfl := Option.some.inj hm
  refine C_ret ?_
  try simp only [↓inBlock_ret, ↓then_ret]
  exact retQ rfl (Res.one Try.results75 rfl) ⟨rfl, hK.kp⟩
 ·rw [if_neg (nt hc10)] at hm
  refine C_skip_to (fun _ _ => rfl) ?_
  refine C_seq ?_
  refine C_seq ?_
  refine C_region ?_
  have h11 := El_cal_Zone_1 h6
  refine V_y (Y_fieldAddr Try.underlying54 rfl Try.sizeOf52 (by decide) rfl) rfl rfl rfl ?_
  obtain ⟨v12, h13, h14⟩ := El.list h11
  refine V_y (Y_load h13 Try.isAgg52 rfl) rfl rfl rfl ?_
  refine V_y (Y_lenSl h14 rfl Try.underlying52 rfl) rfl rfl rfl ?_
  refine V_y (Y_gtr rfl rfl) rfl rfl rfl ?_
  refine V_to (fun _ _ => rfl) ?_
  refine C_cond rfl (fun hc15 => ?_) (fun hc15 => ?_)
  ·rw [if_pos hc15] at hm
   refine C_seq ?_
   refine C_region ?_
   refine V_y (Y_assign rfl) rfl rfl rfl ?_
   refine V_to (fun _ _ => rfl) ?_
   obtain rfl := Option.some.inj hm
   refine C_ret ?_
   try simp only [↓inBlock_ret, ↓then_ret]
   exact retQ rfl (Res.one Try.results75 rfl) ⟨rfl, hK.kp⟩
  ·rw [if_neg (nt hc15)] at hm
   refine C_skip_to (fun _ _ => rfl) ?_
   refine C_seq ?_
   refine C_region ?_
   have h16 := El_cal_Zone_0 h6
   refine V_y (Y_fieldAddr Try.underlying54 rfl Try.sizeOf3 (by decide) rfl) rfl rfl rfl ?_
   refine V_y (Y_load (El.int h16) Try.isAgg3 rfl) rfl rfl rfl ?_
   refine V_y (Y_assign rfl) rfl rfl rfl ?_
   refine V_to (fun _ _ => rfl) ?_
   refine C_seq ?_
   refine C_seq ?_
   refine C_region ?_
   have h17 := El_cal_Zone_1 h6
   refine V_y (Y_fieldAddr Try.underlying54 rfl Try.sizeOf52 (by decide) rfl) rfl rfl rfl ?_
   obtain ⟨v18, h19, h20⟩ := El.list h17
   refine V_y (Y_load h19 Try.isAgg52 rfl) rfl rfl rfl ?_
   refine V_y (Y_lenSl h20 rfl Try.underlying52 rfl) rfl rfl rfl ?_
   refine V_y (Y_move rfl) rfl rfl rfl ?_
   refine V_to (fun _ _ => rfl) ?_
   have hn41 := Sl.le h20
   obtain ⟨o21, ho21, hm⟩ := Option.bind_eq_some_iff.1 hm
   refine C_cutG (ι := (Int × (Nat → Prop))) (fun ⟨s22, A28⟩ => []) (fun ⟨s22, A28⟩ => fun w' => o21 = .fin s22 ∧ Hp w.heap.size A28 w' ([]) ∧ Tr Dw w.heap.size A w4 A28 w') ?_ ?_
   ·refine C_block ?_
    refine C_range ho21 (fun k24 s30 a w' => ∃ i : (Nat → Prop), Has ⟨63, [], none⟩ a ([(1, .pointer (some ⟨b3, 0, none⟩)), (3, .func (.func 86) #[] #[]), (4, .int .i64 s30), (18, v18), (19, .int .i64 (z.changes.length : Int)), (20, .int .i64 (k24 : Int))]) ∧ Hp w.heap.size i w' ([]) ∧ Tr Dw w.heap.size A w4 i w') (fun a ha => ⟨A, ha.sub ⟨rfl, rfl, rfl, rfl, rfl, rfl, trivial⟩, ⟨hH, Tr.refl (Dw := Dw) hA⟩⟩) ?_
    rintro K k24 s30 a w31 ⟨A32, ha97, hH33, hr23⟩ hle37 K40 h39
    refine C_of ?_ ha97
    replace h6 := El.tr (Dw := Dw) h6 hr23
    replace h20 := Sl.tr (Dw := Dw) h20 hr23
    replace hK := Tr.trans (Dw := Dw) hK hr23
    replace hB := Nat.le_trans hB hr23.ex.size
    replace hA := hr23.new
    replace hH : Hp w.heap.size A32 w31 ([]) := hH33
    refine C_seq (C_region (V_y (Y_lss rfl rfl) rfl rfl rfl (V_to (fun _ _ => rfl) ?_)))
    refine C_seq ?_
    refine C_cond rfl (fun hc42 => ?_) (fun hc42 => ?_)
    ·have hlt38 := lt_of_dec hc42
     obtain ⟨x34, h35, h36⟩ := K40 hlt38
     refine C_skip_to (fun _ _ => rfl) ?_
     refine C_seq ?_
     refine C_block ?_
     refine C_seq ?_
     refine C_region ?_
     refine V_y (Y_move rfl) rfl rfl rfl ?_
     obtain ⟨x43, hx43, h35⟩ := Option.bind_eq_some_iff.1 h35
     refine V_indexAddr h20 hx43 Try.underlying52 Try.sizeOf104 rfl rfl rfl ?_
     intro b44 o45 h46
     obtain ⟨h47, _⟩ := El_cal_Change h46
     refine V_y (Y_loadA h47 Try.isAgg104 Try.sizeOf104 rfl) rfl rfl rfl ?_
     refine V_alloc Try.zeroValue104 rfl ?_
     intro b48 w49 h50
     refine V_y (Y_assign rfl) rfl rfl rfl ?_
     refine V_storeNew h50 Try.sizeOf104 rfl rfl rfl rfl (by exact (List.forall_mem_cons.2 ⟨rfl, (List.forall_mem_cons.2 ⟨rfl, (fun _ h => nomatch h)⟩)⟩)) ?_
     intro w51 h52
     have hk54 := h52.kp (Dw := Dw)
     have h53 : El (α := cal_Change) A32 w51 b48 0 x43 := h52.el hA ⟨[.int .i64 x43.at_], _, rfl, rfl, rfl⟩
     have ht55 := Kp.tr (Dw := Dw) hk54 hA hB
     replace hH := Hp.kp (Dw := Dw) hH hk54
     replace h6 := El.tr (Dw := Dw) h6 ht55
     replace hK := Tr.trans (Dw := Dw) hK ht55
     replace hr23 := Tr.trans (Dw := Dw) hr23 ht55
     replace hB := Nat.le_trans hB ht55.ex.size
     replace hA := ht55.new
     refine V_to (fun _ _ => rfl) ?_
     refine C_seq ?_
     refine C_block ?_
     refine C_seq ?_
     obtain ⟨s57, ho56, h35⟩ := Option.bind_eq_some_iff.1 h35
     refine C_cutG (ι := (Nat → Prop)) (fun (A62 : (Nat → Prop)) => [(1, .pointer (some ⟨b3, 0, none⟩)), (3, .func (.func 86) #[] #[]), (4, .int .i64 s30), (5, .int .i64 (k24 : Int)), (6, .pointer (some ⟨b48, 0, none⟩)), (18, v18), (19, .int .i64 (z.changes.length : Int)), (20, .int .i64 (k24 : Int)), (25, .bool s57)]) (fun (A62 : (Nat → Prop)) => fun w' => Hp w.heap.size A62 w' ([]) ∧ Tr Dw w.heap.size A32 w51 A62 w') ?_ ?_
     ·have hr58 : Tr Dw w.heap.size A32 w51 A32 w51 := Tr.refl (Dw := Dw) hA
      refine C_region ?_
      have h64 := El_cal_Change_0 h53
      refine V_y (Y_fieldAddr Try.underlying104 rfl Try.sizeOf3 (by decide) rfl) rfl rfl rfl ?_
      refine V_y (Y_load (El.int h64) Try.isAgg3 rfl) rfl rfl rfl ?_
      refine V_y (Y_lss rfl rfl) rfl rfl rfl ?_
      refine V_y (Y_move rfl) rfl rfl rfl ?_
      rcases Bool.eq_false_or_eq_true (decide (x43.at_ < 1)) with hc65 | hc65
      ·rw [if_pos hc65] at ho56
       refine V_gn rfl rfl rfl hc65 rfl rfl rfl ?_
       refine V_gn rfl rfl rfl hc65 rfl rfl rfl ?_
       refine V_gn rfl rfl rfl hc65 rfl rfl rfl ?_
       refine V_y (Y_pick_te rfl hc65 rfl) rfl rfl rfl ?_
       refine V_y (Y_move rfl) rfl rfl rfl ?_
       rcases Bool.eq_false_or_eq_true (true) with hc66 | hc66
       ·rw [if_pos hc66] at ho56
        refine V_gn rfl rfl rfl hc66 rfl rfl rfl ?_
        refine V_gn rfl rfl rfl hc66 rfl rfl rfl ?_
        refine V_gn rfl rfl rfl hc66 rfl rfl rfl ?_
        refine V_gn rfl rfl rfl hc66 rfl rfl rfl ?_
        refine V_y (Y_pick_te rfl hc66 rfl) rfl rfl rfl ?_
        refine V_y (Y_assign rfl) rfl rfl rfl ?_
        obtain rfl := Option.some.inj ho56
        refine V_end (fun a ha67 => ?_)
        exact ⟨A32, ha67.sub ⟨rfl, rfl, rfl, rfl, rfl, rfl, rfl, rfl, rfl, trivial⟩, ⟨hH, hr58⟩⟩
       ·rw [if_neg (nt hc66)] at ho56
        refine V_ge rfl rfl rfl hc66 ?_
        refine V_y (Y_move rfl) rfl rfl rfl ?_
        refine V_ge rfl rfl rfl hc66 ?_
        have h68 := El_cal_Change_1 h53
        refine V_y (Y_fieldAddr Try.underlying104 rfl Try.sizeOf3 (by decide) rfl) rfl rfl rfl ?_
        refine V_ge rfl rfl rfl hc66 ?_
        refine V_y (Y_load (El.int h68) Try.isAgg3 rfl) rfl rfl rfl ?_
        refine V_ge rfl rfl rfl hc66 ?_
        refine V_call Try.call86 rfl rfl rfl rfl (portref2_ZoneFault_1_c w51 x43.offset) ?_
        rintro _ _ ⟨rfl, rfl⟩
        refine V_y (Y_pick_fe rfl hc66 rfl) rfl rfl rfl ?_
        refine V_y (Y_assign rfl) rfl rfl rfl ?_
        obtain rfl := Option.some.inj ho56
        refine V_end (fun a ha69 => ?_)
        exact ⟨A32, ha69.sub ⟨rfl, rfl, rfl, rfl, rfl, rfl, rfl, rfl, rfl, trivial⟩, ⟨hH, hr58⟩⟩
      ·rw [if_neg (nt hc65)] at ho56
       refine V_ge rfl rfl rfl hc65 ?_
       have h70 := El_cal_Change_0 h53
       refine V_y (Y_fieldAddr Try.underlying104 rfl Try.sizeOf3 (by decide) rfl) rfl rfl rfl ?_
       refine V_ge rfl rfl rfl hc65 ?_
       refine V_y (Y_load (El.int h70) Try.isAgg3 rfl) rfl rfl rfl ?_
       refine V_ge rfl rfl rfl hc65 ?_
       refine V_y (Y_gtr rfl rfl) rfl rfl rfl ?_
       refine V_y (Y_pick_fe rfl hc65 rfl) rfl rfl rfl ?_
       refine V_y (Y_move rfl) rfl rfl rfl ?_
       rcases Bool.eq_false_or_eq_true (decide ((3000000 : Int) < x43.at_)) with hc71 | hc71
       ·rw [if_pos hc71] at ho56
        refine V_gn rfl rfl rfl hc71 rfl rfl rfl ?_
        refine V_gn rfl rfl rfl hc71 rfl rfl rfl ?_
        refine V_gn rfl rfl rfl hc71 rfl rfl rfl ?_
        refine V_gn rfl rfl rfl hc71 rfl rfl rfl ?_
        refine V_y (Y_pick_te rfl hc71 rfl) rfl rfl rfl ?_
        refine V_y (Y_assign rfl) rfl rfl rfl ?_
        obtain rfl := Option.some.inj ho56
        refine V_end (fun a ha72 => ?_)
        exact ⟨A32, ha72.sub ⟨rfl, rfl, rfl, rfl, rfl, rfl, rfl, rfl, rfl, trivial⟩, ⟨hH, hr58⟩⟩
       ·rw [if_neg (nt hc71)] at ho56
        refine V_ge rfl rfl rfl hc71 ?_
        refine V_y (Y_move rfl) rfl rfl rfl ?_
        refine V_ge rfl rfl rfl hc71 ?_
        have h73 := El_cal_Change_1 h53
        refine V_y (Y_fieldAddr Try.underlying104 rfl Try.sizeOf3 (by decide) rfl) rfl rfl rfl ?_
        refine V_ge rfl rfl rfl hc71 ?_
        refine V_y (Y_load (El.int h73) Try.isAgg3 rfl) rfl rfl rfl ?_
        refine V_ge rfl rfl rfl hc71 ?_
        refine V_call Try.call86 rfl rfl rfl rfl (portref2_ZoneFault_1_c w51 x43.offset) ?_
        rintro _ _ ⟨rfl, rfl⟩
        refine V_y (Y_pick_fe rfl hc71 rfl) rfl rfl rfl ?_
        refine V_y (Y_assign rfl) rfl rfl rfl ?_
        obtain rfl := Option.some.inj ho56
        refine V_end (fun a ha74 => ?_)
        exact ⟨A32, ha74.sub ⟨rfl, rfl, rfl, rfl, rfl, rfl, rfl, rfl, rfl, trivial⟩, ⟨hH, hr58⟩⟩
     rintro A62 w59 ⟨hH63, hk60⟩ a ha61
     replace h6 := El.tr (Dw := Dw) h6 hk60
     replace h53 := El.tr (Dw := Dw) h53 hk60
     replace hK := Tr.trans (Dw := Dw) hK hk60
     replace hr23 := Tr.trans (Dw := Dw) hr23 hk60
     replace hB := Nat.le_trans hB hk60.ex.size
     replace hA := hk60.new
     replace hH : Hp w.heap.size A62 w59 ([]) := hH63
     refine C_at (n := ⟨63, [], none⟩) (fun _ _ => rfl) ?_ ha61
     refine C_cond rfl (fun hc75 => ?_) (fun hc75 => ?_)
     ·rw [if_pos hc75] at h35
      refine C_seq ?_
      refine C_region ?_
      refine V_y (Y_assign rfl) rfl rfl rfl ?_
      refine V_to (fun _ _ => rfl) ?_
      obtain rfl := Option.some.inj h35
      obtain rfl := (h36 : Lp.rt _ = _)
      rw [Lp.andThen_rt] at hm
      obtain rfl := Option.some.inj hm
      refine C_ret ?_
      try simp only [↓inBlock_ret, ↓then_ret]
      exact retQ rfl (Res.one Try.results75 rfl) ⟨rfl, hK.kp⟩
     ·rw [if_neg (nt hc75)] at h35
      refine C_seq ?_
      refine C_region_q (Dw := Dw) Try_mixed (by kernel_rfl) ?_
      refine VQ_y (fun w' hw' => Y_move rfl) rfl rfl rfl ?_
      refine VQ_y (fun w' hw' => Y_gtr rfl rfl) rfl rfl rfl ?_
      refine VQ_y (fun w' hw' => Y_move rfl) rfl rfl rfl ?_
      obtain ⟨s77, hs77, h35⟩ := Option.bind_eq_some_iff.1 h35
      refine VQ_cut 11 (fun _ : Unit => [(1, .pointer (some ⟨b3, 0, none⟩)), (3, .func (.func 86) #[] #[]), (4, .int .i64 s30), (6, .pointer (some ⟨b48, 0, none⟩)), (18, v18), (19, .int .i64 (z.changes.length : Int)), (20, .int .i64 (k24 : Int)), (54, .bool s77)]) (fun _ => True) ?_ ?_
      ·simp only [List.take, List.drop]
       rcases Bool.eq_false_or_eq_true (decide ((0 : Int) < (k24 : Int))) with hc76 | hc76
       ·rw [if_pos hc76] at hs77
        refine VQ_ge rfl rfl rfl hc76 ?_
        have h78 := El_cal_Change_0 h53
        refine VQ_y (fun w' hw' => Y_fieldAddr Try.underlying104 rfl Try.sizeOf3 (by decide) rfl) rfl rfl rfl ?_
        refine VQ_ge rfl rfl rfl hc76 ?_
        refine VQ_y (fun w' hw' => Y_load (El.int (El.kp (Dw := Dw) h78 hw')) Try.isAgg3 rfl) rfl rfl rfl ?_
        refine VQ_ge rfl rfl rfl hc76 ?_
        have h79 := El_cal_Zone_1 h6
        refine VQ_y (fun w' hw' => Y_fieldAddr Try.underlying54 rfl Try.sizeOf52 (by decide) rfl) rfl rfl rfl ?_
        refine VQ_ge rfl rfl rfl hc76 ?_
        obtain ⟨v80, h81, h82⟩ := El.list h79
        refine VQ_y (fun w' hw' => Y_load ((World.cell?_of_block (hw'.block _ (World.block_lt_of_cell? _ _ h81))).trans h81) Try.isAgg52 rfl) rfl rfl rfl ?_
        refine VQ_ge rfl rfl rfl hc76 ?_
        refine VQ_y (fun w' hw' => Y_move rfl) rfl rfl rfl ?_
        refine VQ_ge rfl rfl rfl hc76 ?_
        refine VQ_y (fun w' hw' => Y_subI rfl rfl) rfl rfl rfl ?_
        refine VQ_ge rfl rfl rfl hc76 ?_
        obtain ⟨x83, hx83, hs77⟩ := Option.bind_eq_some_iff.1 hs77
        refine VQ_indexAddr h82 hx83 Try.underlying52 Try.sizeOf104 rfl rfl rfl ?_
        intro b84 o85 h86
        refine VQ_ge rfl rfl rfl hc76 ?_
        have h87 := El_cal_Change_0 h86
        refine VQ_y (fun w' hw' => Y_fieldAddr Try.underlying104 rfl Try.sizeOf3 (by decide) rfl) rfl rfl rfl ?_
        refine VQ_ge rfl rfl rfl hc76 ?_
        refine VQ_y (fun w' hw' => Y_load (El.int (El.kp (Dw := Dw) h87 hw')) Try.isAgg3 rfl) rfl rfl rfl ?_
        refine VQ_ge rfl rfl rfl hc76 ?_
        refine VQ_y (fun w' hw' => Y_leq rfl rfl) rfl rfl rfl ?_
        refine VQ_y (fun _ _ => Y_pick_te rfl hc76 rfl) rfl rfl rfl ?_
        obtain rfl := Option.some.inj hs77
        exact VQ_end fun a ha => ⟨(), ha.sub ⟨rfl, rfl, rfl, rfl, rfl, rfl, rfl, rfl, trivial⟩, trivial⟩
       ·rw [if_neg (nt hc76)] at hs77
        refine VQ_gn rfl rfl rfl hc76 rfl rfl rfl ?_
        refine VQ_gn rfl rfl rfl hc76 rfl rfl rfl ?_
        refine VQ_gn rfl rfl rfl hc76 rfl rfl rfl ?_
        refine VQ_gn rfl rfl rfl hc76 rfl rfl rfl ?_
        refine VQ_gn rfl rfl rfl hc76 rfl rfl rfl ?_
        refine VQ_gn rfl rfl rfl hc76 rfl rfl rfl ?_
        refine VQ_gn rfl rfl rfl hc76 rfl rfl rfl ?_
        refine VQ_gn rfl rfl rfl hc76 rfl rfl rfl ?_
        refine VQ_gn rfl rfl rfl hc76 rfl rfl rfl ?_
        refine VQ_gn rfl rfl rfl hc76 rfl rfl rfl ?_
        refine VQ_y (fun _ _ => Y_pick_fe rfl hc76 rfl) rfl rfl rfl ?_
        obtain rfl := Option.some.inj hs77
        exact VQ_end fun a ha => ⟨(), ha.sub ⟨rfl, rfl, rfl, rfl, rfl, rfl, rfl, rfl, trivial⟩, trivial⟩
      simp only [List.take, List.drop]
      rintro _ _
      refine VQ_y (fun w' hw' => Y_assign rfl) rfl rfl rfl ?_
      refine VQ_to (fun _ _ => rfl) (fun w88 hk89 => ?_)
      have ht90 := Kp.tr (Dw := Dw) hk89 hA hB
      replace hH := Hp.kp (Dw := Dw) hH hk89
      replace h53 := El.tr (Dw := Dw) h53 ht90
      replace hK := Tr.trans (Dw := Dw) hK ht90
      replace hr23 := Tr.trans (Dw := Dw) hr23 ht90
      refine C_cond rfl (fun hc91 => ?_) (fun hc91 => ?_)
      ·rw [if_pos hc91] at h35
       refine C_seq ?_
       refine C_region ?_
       refine V_y (Y_assign rfl) rfl rfl rfl ?_
       refine V_to (fun _ _ => rfl) ?_
       obtain rfl := Option.some.inj h35
       obtain rfl := (h36 : Lp.rt _ = _)
       rw [Lp.andThen_rt] at hm
       obtain rfl := Option.some.inj hm
       refine C_ret ?_
       try simp only [↓inBlock_ret, ↓then_ret]
       exact retQ rfl (Res.one Try.results75 rfl) ⟨rfl, hK.kp⟩
      ·rw [if_neg (nt hc91)] at h35
       refine C_seq ?_
       refine C_region ?_
       have h92 := El_cal_Change_1 h53
       refine V_y (Y_fieldAddr Try.underlying104 rfl Try.sizeOf3 (by decide) rfl) rfl rfl rfl ?_
       refine V_y (Y_load (El.int h92) Try.isAgg3 rfl) rfl rfl rfl ?_
       refine V_y (Y_move rfl) rfl rfl rfl ?_
       refine V_y (Y_eql rfl rfl) rfl rfl rfl ?_
       refine V_y (Y_assign rfl) rfl rfl rfl ?_
       refine V_to (fun _ _ => rfl) ?_
       refine C_cond rfl (fun hc93 => ?_) (fun hc93 => ?_)
       ·rw [if_pos hc93] at h35
        refine C_seq ?_
        refine C_region ?_
        refine V_y (Y_assign rfl) rfl rfl rfl ?_
        refine V_to (fun _ _ => rfl) ?_
        obtain rfl := Option.some.inj h35
        obtain rfl := (h36 : Lp.rt _ = _)
        rw [Lp.andThen_rt] at hm
        obtain rfl := Option.some.inj hm
        refine C_ret ?_
        try simp only [↓inBlock_ret, ↓then_ret]
        exact retQ rfl (Res.one Try.results75 rfl) ⟨rfl, hK.kp⟩
       ·rw [if_neg (nt hc93)] at h35
        refine C_skip_to (fun _ _ => rfl) ?_
        refine C_region ?_
        have h94 := El_cal_Change_1 h53
        refine V_y (Y_fieldAddr Try.underlying104 rfl Try.sizeOf3 (by decide) rfl) rfl rfl rfl ?_
        refine V_y (Y_load (El.int h94) Try.isAgg3 rfl) rfl rfl rfl ?_
        refine V_y (Y_assign rfl) rfl rfl rfl ?_
        refine V_to (fun _ _ => rfl) ?_
        refine C_region ?_
        refine V_y (Y_addI rfl rfl) rfl rfl rfl ?_
        refine V_y (Y_move rfl) rfl rfl rfl ?_
        obtain rfl := Option.some.inj h35
        refine V_end (fun a ha95 => ?_)
        exact ⟨x43.offset, hlt38, h36, ⟨A62, ha95.sub ⟨rfl, rfl, rfl, rfl, rfl, (congrArg (fun z => some (Value.int .i64 z)) (w64_succ hlt38 hn41)), trivial⟩, ⟨hH, hr23⟩⟩⟩
    ·refine C_exit (fun a ha96 => ?_)
     exact ⟨(s30, A32), ha96.sub trivial, ⟨(h39 (eq_of_dec hle37 hc42)).symm, hH, hr23⟩⟩
   rintro ⟨s22, A28⟩ w25 ⟨rfl, hH29, hk26⟩ a ha27
   rw [Lp.andThen_fin] at hm
   replace hK := Tr.trans (Dw := Dw) hK hk26
   replace hA := hk26.new
   replace hH : Hp w.heap.size A28 w25 ([]) := hH29
   refine C_at (n := ⟨63, [], none⟩) (fun _ _ => rfl) ?_ ha27
   refine C_seq ?_
   refine C_region ?_
   refine V_y (Y_assign rfl) rfl rfl rfl ?_
   refine V_to (fun _ _ => rfl) ?_
   obtain rfl := Option.some.inj hm
   refine C_ret ?_
   try simp only [↓inBlock_ret, ↓then_ret]
   exact retQ rfl (Res.one Try.results75 rfl) ⟨rfl, hK.kp⟩
set_option maxRecDepth 4000 in
set_option maxHeartbeats 4000000 in
theorem portref2_shiftFault_c (w : World) {A : Nat → Prop} (hA : ∀ b, w.heap.size ≤ b → A b) (l : (List cal_Shift)) (v_l : Value) (h_l : Sl A w v_l l) (week : Bool) {r : Int} (hm : portref2_shiftFault l week = some r) : Ret Try.prog 76 #[v_l, .bool week] w fun v w' => v = .int .i64 r ∧ Kp Dw w w' := by
 unfold portref2_shiftFault at hm
 refine enter Try.func76 rfl Try.ntmps76 rfl ?_
 have hA0 := hA
 have hB := Nat.le_refl w.heap.size
 have hK : Tr Dw w.heap.size A w A w := Tr.refl (Dw := Dw) hA
 have hH : Hp w.heap.size A w [] := Hp.nil
 refine C_seq ?_
 refine C_region ?_
 refine V_y (Y_assign rfl) rfl rfl rfl ?_
 refine V_to (fun _ _ => rfl) ?_
 refine C_seq ?_
 refine C_seq ?_
 refine C_region ?_
 refine V_y (Y_move rfl) rfl rfl rfl ?_
 refine V_y (Y_lenSl h_l rfl Try.underlying55 rfl) rfl rfl rfl ?_
 refine V_y (Y_move rfl) rfl rfl rfl ?_
 refine V_to (fun _ _ => rfl) ?_
 have hn23 := Sl.le h_l
 obtain ⟨o3, ho3, hm⟩ := Option.bind_eq_some_iff.1 hm
 refine C_cutG (ι := (Unit × (Nat → Prop))) (fun ⟨s4, A10⟩ => []) (fun ⟨s4, A10⟩ => fun w' => o3 = .fin s4 ∧ Hp w.heap.size A10 w' ([]) ∧ Tr Dw w.heap.size A w A10 w') ?_ ?_
 ·refine C_block ?_
  refine C_range ho3 (fun k6 _ a w' => ∃ i : (Nat → Prop), Has ⟨81, [], none⟩ a ([(0, v_l), (1, .bool week), (8, v_l), (9, .int .i64 (l.length : Int)), (10, .int .i64 (k6 : Int))]) ∧ Hp w.heap.size i w' ([]) ∧ Tr Dw w.heap.size A w i w') (fun a ha => ⟨A, ha.sub ⟨rfl, rfl, rfl, rfl, rfl, trivial⟩, ⟨hH, Tr.refl (Dw := Dw) hA⟩⟩) ?_
  rintro K k6 _ a w13 ⟨A14, ha115, hH15, hr5⟩ hle19 K22 h21
  refine C_of ?_ ha115
  replace h_l := Sl.tr (Dw := Dw) h_l hr5
  replace hK := Tr.trans (Dw := Dw) hK hr5
  replace hB := Nat.le_trans hB hr5.ex.size
  replace hA := hr5.new
  replace hH : Hp w.heap.size A14 w13 ([]) := hH15
  refine C_seq (C_region (V_y (Y_lss rfl rfl) rfl rfl rfl (V_to (fun _ _ => rfl) ?_)))
  refine C_seq ?_
  refine C_cond rfl (fun hc24 => ?_) (fun hc24 => ?_)
  ·have hlt20 := lt_of_dec hc24
   obtain ⟨x16, h17, h18⟩ := K22 hlt20
   refine C_skip_to (fun _ _ => rfl) ?_
   refine C_seq ?_
   obtain ⟨o25, ho25, h17⟩ := Option.bind_eq_some_iff.1 h17
   refine C_cutG (ι := (Unit × (Nat → Prop))) (fun ⟨s26, A31⟩ => [(0, v_l), (1, .bool week), (8, v_l), (9, .int .i64 (l.length : Int)), (10, .int .i64 (k6 : Int))]) (fun ⟨s26, A31⟩ => fun w' => o25 = .fin s26 ∧ Hp w.heap.size A31 w' ([]) ∧ Tr Dw w.heap.size A14 w13 A31 w') ?_ ?_
   ·have hr27 : Tr Dw w.heap.size A14 w13 A14 w13 := Tr.refl (Dw := Dw) hA
    refine C_block ?_
    refine C_seq ?_
    refine C_region ?_
    refine V_y (Y_move rfl) rfl rfl rfl ?_
    obtain ⟨x33, hx33, ho25⟩ := Option.bind_eq_some_iff.1 ho25
    refine V_indexAddr h_l hx33 Try.underlying55 Try.sizeOf106 rfl rfl rfl ?_
    intro b34 o35 h36
    obtain ⟨h37, _⟩ := El_cal_Shift h36
    refine V_y (Y_loadA h37 Try.isAgg106 Try.sizeOf106 rfl) rfl rfl rfl ?_
    refine V_alloc Try.zeroValue106 rfl ?_
    intro b38 w39 h40
    refine V_y (Y_assign rfl) rfl rfl rfl ?_
    refine V_storeNew h40 Try.sizeOf106 rfl rfl rfl rfl (by exact (List.forall_mem_cons.2 ⟨rfl, (List.forall_mem_cons.2 ⟨rfl, (List.forall_mem_cons.2 ⟨rfl, (fun _ h => nomatch h)⟩)⟩)⟩)) ?_
    intro w41 h42
    have hk44 := h42.kp (Dw := Dw)
    have h43 : El (α := cal_Shift) A14 w41 b38 0 x33 := h42.el hA ⟨[.int .i64 x33.day], _, rfl, rfl, ⟨[.int .i64 x33.from_], _, rfl, rfl, rfl⟩⟩
    have ht45 := Kp.tr (Dw := Dw) hk44 hA hB
    replace hH := Hp.kp (Dw := Dw) hH hk44
    replace h_l := Sl.tr (Dw := Dw) h_l ht45
    replace hK := Tr.trans (Dw := Dw) hK ht45
    replace hr27 := Tr.trans (Dw := Dw) hr27 ht45
    replace hB := Nat.le_trans hB ht45.ex.size
    replace hA := ht45.new
    refine V_to (fun _ _ => rfl) ?_
    refine C_seq ?_
    refine C_seq ?_
    refine C_region ?_
    refine V_y (Y_move rfl) rfl rfl rfl ?_
    refine V_y (Y_not rfl) rfl rfl rfl ?_
    refine V_y (Y_move rfl) rfl rfl rfl ?_
    refine V_cut 4 (fun _ : Unit => [(0, v_l), (1, .bool week), (5, .int .i64 (k6 : Int)), (6, .pointer (some ⟨b38, 0, none⟩)), (8, v_l), (9, .int .i64 (l.length : Int)), (10, .int .i64 (k6 : Int)), (21, .bool ((!week) && (x33.day != 0)))]) (fun _ w' => w41 = w') ?_ ?_
    ·simp only [List.take, List.drop]
     rcases Bool.eq_false_or_eq_true (!week) with hc46 | hc46
     ·refine V_ge rfl rfl rfl hc46 ?_
      have h48 := El_cal_Shift_0 h43
      refine V_y (Y_fieldAddr Try.underlying106 rfl Try.sizeOf3 (by decide) rfl) rfl rfl rfl ?_
      refine V_ge rfl rfl rfl hc46 ?_
      refine V_y (Y_load (El.int h48) Try.isAgg3 rfl) rfl rfl rfl ?_
      refine V_ge rfl rfl rfl hc46 ?_
      refine V_y (Y_neq rfl rfl) rfl rfl rfl ?_
      refine V_y (Y_pick_te rfl hc46 rfl) rfl rfl rfl ?_
      exact V_end fun a ha => ⟨(), ha.sub ⟨rfl, rfl, rfl, rfl, rfl, rfl, rfl, (by rw [hc46]; rfl), trivial⟩, rfl⟩
     ·refine V_gn rfl rfl rfl hc46 rfl rfl rfl ?_
      refine V_gn rfl rfl rfl hc46 rfl rfl rfl ?_
      refine V_gn rfl rfl rfl hc46 rfl rfl rfl ?_
      refine V_y (Y_pick_fe rfl hc46 rfl) rfl rfl rfl ?_
      exact V_end fun a ha => ⟨(), ha.sub ⟨rfl, rfl, rfl, rfl, rfl, rfl, rfl, (by rw [hc46]; rfl), trivial⟩, rfl⟩
    simp only [List.take, List.drop]
    rintro _ _ rfl
    refine V_to (fun _ _ => rfl) ?_
    refine C_cond rfl (fun hc49 => ?_) (fun hc49 => ?_)
    ·rw [if_pos hc49] at ho25
     refine C_seq ?_
     refine C_region ?_
     refine V_y (Y_assign rfl) rfl rfl rfl ?_
     refine V_to (fun _ _ => rfl) ?_
     obtain rfl := Option.some.inj ho25
     rw [Lp.andThen_rt] at h17
     obtain rfl := Option.some.inj h17
     obtain rfl := (h18 : Lp.rt _ = _)
     rw [Lp.andThen_rt] at hm
     obtain rfl := Option.some.inj hm
     refine C_ret ?_
     try simp only [↓inBlock_ret, ↓then_ret]
     exact retQ rfl (Res.one Try.results76 rfl) ⟨rfl, hK.kp⟩
    ·rw [if_neg (nt hc49)] at ho25
     refine C_skip_to (fun _ _ => rfl) ?_
     refine C_seq ?_
     refine C_seq ?_
     refine C_region ?_
     have h50 := El_cal_Shift_0 h43
     refine V_y (Y_fieldAddr Try.underlying106 rfl Try.sizeOf3 (by decide) rfl) rfl rfl rfl ?_
     refine V_y (Y_load (El.int h50) Try.isAgg3 rfl) rfl rfl rfl ?_
     refine V_y (Y_lss rfl rfl) rfl rfl rfl ?_
     refine V_y (Y_move rfl) rfl rfl rfl ?_
     refine V_cut 4 (fun _ : Unit => [(0, v_l), (1, .bool week), (5, .int .i64 (k6 : Int)), (6, .pointer (some ⟨b38, 0, none⟩)), (8, v_l), (9, .int .i64 (l.length : Int)), (10, .int .i64 (k6 : Int)), (29, .bool ((decide (x33.day < 0)) || (decide ((6 : Int) < x33.day))))]) (fun _ w' => w41 = w') ?_ ?_
     ·simp only [List.take, List.drop]
      rcases Bool.eq_false_or_eq_true (decide (x33.day < 0)) with hc51 | hc51
      ·refine V_gn rfl rfl rfl hc51 rfl rfl rfl ?_
       refine V_gn rfl rfl rfl hc51 rfl rfl rfl ?_
       refine V_gn rfl rfl rfl hc51 rfl rfl rfl ?_
       refine V_y (Y_pick_te rfl hc51 rfl) rfl rfl rfl ?_
       exact V_end fun a ha => ⟨(), ha.sub ⟨rfl, rfl, rfl, rfl, rfl, rfl, rfl, (by rw [hc51]; rfl), trivial⟩, rfl⟩
      ·refine V_ge rfl rfl rfl hc51 ?_
       have h53 := El_cal_Shift_0 h43
       refine V_y (Y_fieldAddr Try.underlying106 rfl Try.sizeOf3 (by decide) rfl) rfl rfl rfl ?_
       refine V_ge rfl rfl rfl hc51 ?_
       refine V_y (Y_load (El.int h53) Try.isAgg3 rfl) rfl rfl rfl ?_
       refine V_ge rfl rfl rfl hc51 ?_
       refine V_y (Y_gtr rfl rfl) rfl rfl rfl ?_
       refine V_y (Y_pick_fe rfl hc51 rfl) rfl rfl rfl ?_
       exact V_end fun a ha => ⟨(), ha.sub ⟨rfl, rfl, rfl, rfl, rfl, rfl, rfl, (by rw [hc51]; rfl), trivial⟩, rfl⟩
     simp only [List.take, List.drop]
     rintro _ _ rfl
     refine V_y (Y_move rfl) rfl rfl rfl ?_
     refine V_cut 4 (fun _ : Unit => [(0, v_l), (1, .bool week), (5, .int .i64 (k6 : Int)), (6, .pointer (some ⟨b38, 0, none⟩)), (8, v_l), (9, .int .i64 (l.length : Int)), (10, .int .i64 (k6 : Int)), (34, .bool (((decide (x33.day < 0)) || (decide ((6 : Int) < x33.day))) || (decide (x33.from_ < 0))))]) (fun _ w' => w41 = w') ?_ ?_
     ·simp only [List.take, List.drop]
      rcases Bool.eq_false_or_eq_true (((decide (x33.day < 0)) || (decide ((6 : Int) < x33.day)))) with hc54 | hc54
      ·refine V_gn rfl rfl rfl hc54 rfl rfl rfl ?_
       refine V_gn rfl rfl rfl hc54 rfl rfl rfl ?_
       refine V_gn rfl rfl rfl hc54 rfl rfl rfl ?_
       refine V_y (Y_pick_te rfl hc54 rfl) rfl rfl rfl ?_
       exact V_end fun a ha => ⟨(), ha.sub ⟨rfl, rfl, rfl, rfl, rfl, rfl, rfl, (by rw [hc54]; rfl), trivial⟩, rfl⟩
      ·refine V_ge rfl rfl rfl hc54 ?_
       have h56 := El_cal_Shift_1 h43
       refine V_y (Y_fieldAddr Try.underlying106 rfl Try.sizeOf3 (by decide) rfl) rfl rfl rfl ?_
       refine V_ge rfl rfl rfl hc54 ?_
       refine V_y (Y_load (El.int h56) Try.isAgg3 rfl) rfl rfl rfl ?_
       refine V_ge rfl rfl rfl hc54 ?_
       refine V_y (Y_lss rfl rfl) rfl rfl rfl ?_
       refine V_y (Y_pick_fe rfl hc54 rfl) rfl rfl rfl ?_
       exact V_end fun a ha => ⟨(), ha.sub ⟨rfl, rfl, rfl, rfl, rfl, rfl, rfl, (by rw [hc54]; rfl), trivial⟩, rfl⟩
     simp only [List.take, List.drop]
     rintro _ _ rfl
     refine V_y (Y_move rfl) rfl rfl rfl ?_
     refine V_cut 4 (fun _ : Unit => [(0, v_l), (1, .bool week), (5, .int .i64 (k6 : Int)), (6, .pointer (some ⟨b38, 0, none⟩)), (8, v_l), (9, .int .i64 (l.length : Int)), (10, .int .i64 (k6 : Int)), (39, .bool ((((decide (x33.day < 0)) || (decide ((6 : Int) < x33.day))) || (decide (x33.from_ < 0))) || (decide ((1440 : Int) ≤ x33.from_))))]) (fun _ w' => w41 = w') ?_ ?_
     ·simp only [List.take, List.drop]
      rcases Bool.eq_false_or_eq_true ((((decide (x33.day < 0)) || (decide ((6 : Int) < x33.day))) || (decide (x33.from_ < 0)))) with hc57 | hc57
      ·refine V_gn rfl rfl rfl hc57 rfl rfl rfl ?_
       refine V_gn rfl rfl rfl hc57 rfl rfl rfl ?_
       refine V_gn rfl rfl rfl hc57 rfl rfl rfl ?_
       refine V_y (Y_pick_te rfl hc57 rfl) rfl rfl rfl ?_
       exact V_end fun a ha => ⟨(), ha.sub ⟨rfl, rfl, rfl, rfl, rfl, rfl, rfl, (by rw [hc57]; rfl), trivial⟩, rfl⟩
      ·refine V_ge rfl rfl rfl hc57 ?_
       have h59 := El_cal_Shift_1 h43
       refine V_y (Y_fieldAddr Try.underlying106 rfl Try.sizeOf3 (by decide) rfl) rfl rfl rfl ?_
       refine V_ge rfl rfl rfl hc57 ?_
       refine V_y (Y_load (El.int h59) Try.isAgg3 rfl) rfl rfl rfl ?_
       refine V_ge rfl rfl rfl hc57 ?_
       refine V_y (Y_geq rfl rfl) rfl rfl rfl ?_
       refine V_y (Y_pick_fe rfl hc57 rfl) rfl rfl rfl ?_
       exact V_end fun a ha => ⟨(), ha.sub ⟨rfl, rfl, rfl, rfl, rfl, rfl, rfl, (by rw [hc57]; rfl), trivial⟩, rfl⟩
     simp only [List.take, List.drop]
     rintro _ _ rfl
     refine V_y (Y_move rfl) rfl rfl rfl ?_
     refine V_cut 6 (fun _ : Unit => [(0, v_l), (1, .bool week), (5, .int .i64 (k6 : Int)), (6, .pointer (some ⟨b38, 0, none⟩)), (8, v_l), (9, .int .i64 (l.length : Int)), (10, .int .i64 (k6 : Int)), (46, .bool (((((decide (x33.day < 0)) || (decide ((6 : Int) < x33.day))) || (decide (x33.from_ < 0))) || (decide ((1440 : Int) ≤ x33.from_))) || (decide (x33.to_ ≤ x33.from_))))]) (fun _ w' => w41 = w') ?_ ?_
     ·simp only [List.take, List.drop]
      rcases Bool.eq_false_or_eq_true (((((decide (x33.day < 0)) || (decide ((6 : Int) < x33.day))) || (decide (x33.from_ < 0))) || (decide ((1440 : Int) ≤ x33.from_)))) with hc60 | hc60
      ·refine V_gn rfl rfl rfl hc60 rfl rfl rfl ?_
       refine V_gn rfl rfl rfl hc60 rfl rfl rfl ?_
       refine V_gn rfl rfl rfl hc60 rfl rfl rfl ?_
       refine V_gn rfl rfl rfl hc60 rfl rfl rfl ?_
       refine V_gn rfl rfl rfl hc60 rfl rfl rfl ?_
       refine V_y (Y_pick_te rfl hc60 rfl) rfl rfl rfl ?_
       exact V_end fun a ha => ⟨(), ha.sub ⟨rfl, rfl, rfl, rfl, rfl, rfl, rfl, (by rw [hc60]; rfl), trivial⟩, rfl⟩
      ·refine V_ge rfl rfl rfl hc60 ?_
       have h62 := El_cal_Shift_2 h43
       refine V_y (Y_fieldAddr Try.underlying106 rfl Try.sizeOf3 (by decide) rfl) rfl rfl rfl ?_
       refine V_ge rfl rfl rfl hc60 ?_
       refine V_y (Y_load (El.int h62) Try.isAgg3 rfl) rfl rfl rfl ?_
       refine V_ge rfl rfl rfl hc60 ?_
       have h63 := El_cal_Shift_1 h43
       refine V_y (Y_fieldAddr Try.underlying106 rfl Try.sizeOf3 (by decide) rfl) rfl rfl rfl ?_
       refine V_ge rfl rfl rfl hc60 ?_
       refine V_y (Y_load (El.int h63) Try.isAgg3 rfl) rfl rfl rfl ?_
       refine V_ge rfl rfl rfl hc60 ?_
       refine V_y (Y_leq rfl rfl) rfl rfl rfl ?_
       refine V_y (Y_pick_fe rfl hc60 rfl) rfl rfl rfl ?_
       exact V_end fun a ha => ⟨(), ha.sub ⟨rfl, rfl, rfl, rfl, rfl, rfl, rfl, (by rw [hc60]; rfl), trivial⟩, rfl⟩
     simp only [List.take, List.drop]
     rintro _ _ rfl
     refine V_y (Y_move rfl) rfl rfl rfl ?_
     refine V_cut 7 (fun _ : Unit => [(0, v_l), (1, .bool week), (5, .int .i64 (k6 : Int)), (6, .pointer (some ⟨b38, 0, none⟩)), (8, v_l), (9, .int .i64 (l.length : Int)), (10, .int .i64 (k6 : Int)), (54, .bool ((((((decide (x33.day < 0)) || (decide ((6 : Int) < x33.day))) || (decide (x33.from_ < 0))) || (decide ((1440 : Int) ≤ x33.from_))) || (decide (x33.to_ ≤ x33.from_))) || (decide ((w64 (x33.from_ + 1440)) < x33.to_))))]) (fun _ w' => w41 = w') ?_ ?_
     ·simp only [List.take, List.drop]
      rcases Bool.eq_false_or_eq_true ((((((decide (x33.day < 0)) || (decide ((6 : Int) < x33.day))) || (decide (x33.from_ < 0))) || (decide ((1440 : Int) ≤ x33.from_))) || (decide (x33.to_ ≤ x33.from_)))) with hc64 | hc64
      ·refine V_gn rfl rfl rfl hc64 rfl rfl rfl ?_
       refine V_gn rfl rfl rfl hc64 rfl rfl rfl ?_
       refine V_gn rfl rfl rfl hc64 rfl rfl rfl ?_
       refine V_gn rfl rfl rfl hc64 rfl rfl rfl ?_
       refine V_gn rfl rfl rfl hc64 rfl rfl rfl ?_
       refine V_gn rfl rfl rfl hc64 rfl rfl rfl ?_
       refine V_y (Y_pick_te rfl hc64 rfl) rfl rfl rfl ?_
       exact V_end fun a ha => ⟨(), ha.sub ⟨rfl, rfl, rfl, rfl, rfl, rfl, rfl, (by rw [hc64]; rfl), trivial⟩, rfl⟩
      ·refine V_ge rfl rfl rfl hc64 ?_
       have h66 := El_cal_Shift_2 h43
       refine V_y (Y_fieldAddr Try.underlying106 rfl Try.sizeOf3 (by decide) rfl) rfl rfl rfl ?_
       refine V_ge rfl rfl rfl hc64 ?_
       refine V_y (Y_load (El.int h66) Try.isAgg3 rfl) rfl rfl rfl ?_
       refine V_ge rfl rfl rfl hc64 ?_
       have h67 := El_cal_Shift_1 h43
       refine V_y (Y_fieldAddr Try.underlying106 rfl Try.sizeOf3 (by decide) rfl) rfl rfl rfl ?_
       refine V_ge rfl rfl rfl hc64 ?_
       refine V_y (Y_load (El.int h67) Try.isAgg3 rfl) rfl rfl rfl ?_
       refine V_ge rfl rfl rfl hc64 ?_
       refine V_y (Y_addI rfl rfl) rfl rfl rfl ?_
       refine V_ge rfl rfl rfl hc64 ?_
       refine V_y (Y_gtr rfl rfl) rfl rfl rfl ?_
       refine V_y (Y_pick_fe rfl hc64 rfl) rfl rfl rfl ?_
       exact V_end fun a ha => ⟨(), ha.sub ⟨rfl, rfl, rfl, rfl, rfl, rfl, rfl, (by rw [hc64]; rfl), trivial⟩, rfl⟩
     simp only [List.take, List.drop]
     rintro _ _ rfl
     refine V_to (fun _ _ => rfl) ?_
     refine C_cond rfl (fun hc68 => ?_) (fun hc68 => ?_)
     ·rw [if_pos hc68] at ho25
      refine C_seq ?_
      refine C_region ?_
      refine V_y (Y_assign rfl) rfl rfl rfl ?_
      refine V_to (fun _ _ => rfl) ?_
      obtain rfl := Option.some.inj ho25
      rw [Lp.andThen_rt] at h17
      obtain rfl := Option.some.inj h17
      obtain rfl := (h18 : Lp.rt _ = _)
      rw [Lp.andThen_rt] at hm
      obtain rfl := Option.some.inj hm
      refine C_ret ?_
      try simp only [↓inBlock_ret, ↓then_ret]
      exact retQ rfl (Res.one Try.results76 rfl) ⟨rfl, hK.kp⟩
     ·rw [if_neg (nt hc68)] at ho25
      refine C_skip_to (fun _ _ => rfl) ?_
      refine C_seq ?_
      refine C_region ?_
      refine V_y (Y_move rfl) rfl rfl rfl ?_
      refine V_y (Y_gtr rfl rfl) rfl rfl rfl ?_
      refine V_to (fun _ _ => rfl) ?_
      obtain ⟨o69, ho69, ho25⟩ := Option.bind_eq_some_iff.1 ho25
      refine C_cutG (ι := (Unit × (Nat → Prop))) (fun ⟨s70, A75⟩ => [(0, v_l), (1, .bool week), (8, v_l), (9, .int .i64 (l.length : Int)), (10, .int .i64 (k6 : Int))]) (fun ⟨s70, A75⟩ => fun w' => o69 = .fin s70 ∧ Hp w.heap.size A75 w' ([]) ∧ Tr Dw w.heap.size A14 w41 A75 w') ?_ ?_
      ·have hr71 : Tr Dw w.heap.size A14 w41 A14 w41 := Tr.refl (Dw := Dw) hA
       refine C_cond rfl (fun hc77 => ?_) (fun hc77 => ?_)
       ·rw [if_pos hc77] at ho69
        refine C_seq ?_
        refine C_region ?_
        refine V_y (Y_move rfl) rfl rfl rfl ?_
        refine V_y (Y_move rfl) rfl rfl rfl ?_
        refine V_y (Y_subI rfl rfl) rfl rfl rfl ?_
        obtain ⟨x78, hx78, ho69⟩ := Option.bind_eq_some_iff.1 ho69
        refine V_indexAddr h_l hx78 Try.underlying55 Try.sizeOf106 rfl rfl rfl ?_
        intro b79 o80 h81
        obtain ⟨h82, _⟩ := El_cal_Shift h81
        refine V_y (Y_loadA h82 Try.isAgg106 Try.sizeOf106 rfl) rfl rfl rfl ?_
        refine V_alloc Try.zeroValue106 rfl ?_
        intro b83 w84 h85
        refine V_storeNew h85 Try.sizeOf106 rfl rfl rfl rfl (by exact (List.forall_mem_cons.2 ⟨rfl, (List.forall_mem_cons.2 ⟨rfl, (List.forall_mem_cons.2 ⟨rfl, (fun _ h => nomatch h)⟩)⟩)⟩)) ?_
        intro w86 h87
        have hk89 := h87.kp (Dw := Dw)
        have h88 : El (α := cal_Shift) A14 w86 b83 0 x78 := h87.el hA ⟨[.int .i64 x78.day], _, rfl, rfl, ⟨[.int .i64 x78.from_], _, rfl, rfl, rfl⟩⟩
        have ht90 := Kp.tr (Dw := Dw) hk89 hA hB
        replace hH := Hp.kp (Dw := Dw) hH hk89
        replace h43 := El.tr (Dw := Dw) h43 ht90
        replace hK := Tr.trans (Dw := Dw) hK ht90
        replace hr71 := Tr.trans (Dw := Dw) hr71 ht90
        replace hB := Nat.le_trans hB ht90.ex.size
        replace hA := ht90.new
        refine V_to (fun _ _ => rfl) ?_
        refine C_seq ?_
        refine C_region_qt (Dw := Dw) 15 Try_mixed (by kernel_rfl) ?_
        simp only [List.take, List.drop]
        have h91 := El_cal_Shift_0 h88
        refine VQ_y (fun w' hw' => Y_fieldAddr Try.underlying106 rfl Try.sizeOf3 (by decide) rfl) rfl rfl rfl ?_
        refine VQ_y (fun w' hw' => Y_load (El.int (El.kp (Dw := Dw) h91 hw')) Try.isAgg3 rfl) rfl rfl rfl ?_
        have h92 := El_cal_Shift_0 h43
        refine VQ_y (fun w' hw' => Y_fieldAddr Try.underlying106 rfl Try.sizeOf3 (by decide) rfl) rfl rfl rfl ?_
        refine VQ_y (fun w' hw' => Y_load (El.int (El.kp (Dw := Dw) h92 hw')) Try.isAgg3 rfl) rfl rfl rfl ?_
        refine VQ_call (.int .i64 (cmp_Compare_int x78.day x33.day)) Try.call18 rfl rfl rfl rfl (fun w' hw' => (cmp_Compare_int_c w' x78.day x33.day).mono (fun _ _ h => ⟨h.1, h.2 ▸ hw'⟩)) ?_
        have h93 := El_cal_Shift_1 h88
        refine VQ_y (fun w' hw' => Y_fieldAddr Try.underlying106 rfl Try.sizeOf3 (by decide) rfl) rfl rfl rfl ?_
        refine VQ_y (fun w' hw' => Y_load (El.int (El.kp (Dw := Dw) h93 hw')) Try.isAgg3 rfl) rfl rfl rfl ?_
        have h94 := El_cal_Shift_1 h43
        refine VQ_y (fun w' hw' => Y_fieldAddr Try.underlying106 rfl Try.sizeOf3 (by decide) rfl) rfl rfl rfl ?_
        refine VQ_y (fun w' hw' => Y_load (El.int (El.kp (Dw := Dw) h94 hw')) Try.isAgg3 rfl) rfl rfl rfl ?_
        refine VQ_call (.int .i64 (cmp_Compare_int x78.from_ x33.from_)) Try.call18 rfl rfl rfl rfl (fun w' hw' => (cmp_Compare_int_c w' x78.from_ x33.from_).mono (fun _ _ h => ⟨h.1, h.2 ▸ hw'⟩)) ?_
        have h95 := El_cal_Shift_2 h88
        refine VQ_y (fun w' hw' => Y_fieldAddr Try.underlying106 rfl Try.sizeOf3 (by decide) rfl) rfl rfl rfl ?_
        refine VQ_y (fun w' hw' => Y_load (El.int (El.kp (Dw := Dw) h95 hw')) Try.isAgg3 rfl) rfl rfl rfl ?_
        have h96 := El_cal_Shift_2 h43
        refine VQ_y (fun w' hw' => Y_fieldAddr Try.underlying106 rfl Try.sizeOf3 (by decide) rfl) rfl rfl rfl ?_
        refine VQ_y (fun w' hw' => Y_load (El.int (El.kp (Dw := Dw) h96 hw')) Try.isAgg3 rfl) rfl rfl rfl ?_
        refine VQ_call (.int .i64 (cmp_Compare_int x78.to_ x33.to_)) Try.call18 rfl rfl rfl rfl (fun w' hw' => (cmp_Compare_int_c w' x78.to_ x33.to_).mono (fun _ _ h => ⟨h.1, h.2 ▸ hw'⟩)) ?_
        refine VQ_tail (fun w97 hk98 => ?_)
        try simp only [List.take, List.drop]
        have ht99 := Kp.tr (Dw := Dw) hk98 hA hB
        replace hH := Hp.kp (Dw := Dw) hH hk98
        replace hK := Tr.trans (Dw := Dw) hK ht99
        replace hr71 := Tr.trans (Dw := Dw) hr71 ht99
        replace hB := Nat.le_trans hB ht99.ex.size
        replace hA := ht99.new
        refine V_buildSlice (Dw := Dw) (cells := #[.int .i64 (cmp_Compare_int x78.day x33.day), .int .i64 (cmp_Compare_int x78.from_ x33.from_), .int .i64 (cmp_Compare_int x78.to_ x33.to_)]) (l := ([(cmp_Compare_int x78.day x33.day), (cmp_Compare_int x78.from_ x33.from_), (cmp_Compare_int x78.to_ x33.to_)] : List Int)) (len := 3) Try.underlying27 Try.sizeOf3 Try.zeroValue3 rfl (by generalize ((cmp_Compare_int x78.from_ x33.from_) : Int) = z104; generalize ((cmp_Compare_int x78.day x33.day) : Int) = z105; generalize ((cmp_Compare_int x78.to_ x33.to_) : Int) = z106; kernel_rfl) (show (3 * 1 : Nat) ≠ 0 by decide) (show (3 * 1 : Nat) ≤ 2 ^ 24 by decide) hA ⟨[.int .i64 (cmp_Compare_int x78.day x33.day)], _, rfl, rfl, ⟨[.int .i64 (cmp_Compare_int x78.from_ x33.from_)], _, rfl, rfl, ⟨[.int .i64 (cmp_Compare_int x78.to_ x33.to_)], _, rfl, rfl, rfl⟩⟩⟩ rfl rfl ?_
        intro v100 w101 hk103 h102
        have ht107 := Kp.tr (Dw := Dw) hk103 hA hB
        replace hH := Hp.kp (Dw := Dw) hH hk103
        replace hK := Tr.trans (Dw := Dw) hK ht107
        replace hr71 := Tr.trans (Dw := Dw) hr71 ht107
        obtain ⟨x108, hx108, ho69⟩ := Option.bind_eq_some_iff.1 ho69
        refine V_call Try.call17 rfl rfl rfl rfl (cmp_Or_int_c w101 ([(cmp_Compare_int x78.day x33.day), (cmp_Compare_int x78.from_ x33.from_), (cmp_Compare_int x78.to_ x33.to_)] : List Int) v100 h102 hx108) ?_
        rintro _ _ ⟨rfl, rfl⟩
        refine V_y (Y_geq rfl rfl) rfl rfl rfl ?_
        refine V_to (fun _ _ => rfl) ?_
        refine C_cond rfl (fun hc109 => ?_) (fun hc109 => ?_)
        ·rw [if_pos hc109] at ho69
         refine C_seq ?_
         refine C_region ?_
         refine V_y (Y_assign rfl) rfl rfl rfl ?_
         refine V_to (fun _ _ => rfl) ?_
         obtain rfl := Option.some.inj ho69
         rw [Lp.andThen_rt] at ho25
         obtain rfl := Option.some.inj ho25
         rw [Lp.andThen_rt] at h17
         obtain rfl := Option.some.inj h17
         obtain rfl := (h18 : Lp.rt _ = _)
         rw [Lp.andThen_rt] at hm
         obtain rfl := Option.some.inj hm
         refine C_ret ?_
         try simp only [↓inBlock_ret, ↓then_ret]
         exact retQ rfl (Res.one Try.results76 rfl) ⟨rfl, hK.kp⟩
        ·rw [if_neg (nt hc109)] at ho69
         obtain rfl := Option.some.inj ho69
         refine C_skip (fun a ha110 => ?_)
         exact ⟨((), A14), ha110.sub ⟨rfl, rfl, rfl, rfl, rfl, trivial⟩, ⟨rfl, hH, hr71⟩⟩
       ·rw [if_neg (nt hc77)] at ho69
        obtain rfl := Option.some.inj ho69
        refine C_skip (fun a ha111 => ?_)
        exact ⟨((), A14), ha111.sub ⟨rfl, rfl, rfl, rfl, rfl, trivial⟩, ⟨rfl, hH, hr71⟩⟩
      rintro ⟨s70, A75⟩ w72 ⟨rfl, hH76, hk73⟩ a ha74
      rw [Lp.andThen_fin] at ho25
      replace hr27 := Tr.trans (Dw := Dw) hr27 hk73
      replace hA := hk73.new
      replace hH : Hp w.heap.size A75 w72 ([]) := hH76
      obtain rfl := Option.some.inj ho25
      exact ⟨((), A75), ha74.sub ⟨rfl, rfl, rfl, rfl, rfl, trivial⟩, ⟨rfl, hH, hr27⟩⟩
   rintro ⟨s26, A31⟩ w28 ⟨rfl, hH32, hk29⟩ a ha30
   rw [Lp.andThen_fin] at h17
   replace hr5 := Tr.trans (Dw := Dw) hr5 hk29
   replace hA := hk29.new
   replace hH : Hp w.heap.size A31 w28 ([]) := hH32
   refine C_at (n := ⟨81, [], none⟩) (fun _ _ => rfl) ?_ ha30
   refine C_region ?_
   refine V_y (Y_addI rfl rfl) rfl rfl rfl ?_
   refine V_y (Y_move rfl) rfl rfl rfl ?_
   obtain rfl := Option.some.inj h17
   refine V_end (fun a ha113 => ?_)
   exact ⟨(), hlt20, h18, ⟨A31, ha113.sub ⟨rfl, rfl, rfl, rfl, (congrArg (fun z => some (Value.int .i64 z)) (w64_succ hlt20 hn23)), trivial⟩, ⟨hH, hr5⟩⟩⟩
  ·refine C_exit (fun a ha114 => ?_)
   exact ⟨((), A14), ha114.sub trivial, ⟨(h21 (eq_of_dec hle19 hc24)).symm, hH, hr5⟩⟩
 rintro ⟨s4, A10⟩ w7 ⟨rfl, hH11, hk8⟩ a ha9
 rw [Lp.andThen_fin] at hm
 replace hK := Tr.trans (Dw := Dw) hK hk8
 replace hA := hk8.new
 replace hH : Hp w.heap.size A10 w7 ([]) := hH11
 refine C_at (n := ⟨81, [], none⟩) (fun _ _ => rfl) ?_ ha9
 refine C_seq ?_
 refine C_region ?_
 refine V_y (Y_assign rfl) rfl rfl rfl ?_
 refine V_to (fun _ _ => rfl) ?_
 obtain rfl := Option.some.inj hm
 refine C_ret ?_
 try simp only [↓inBlock_ret, ↓then_ret]
 exact retQ rfl (Res.one Try.results76 rfl) ⟨rfl, hK.kp⟩
end Go.Proofs.Ytabkhhpkibbheaa.W
