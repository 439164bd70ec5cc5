/-
  Written by program (gen.py) from the IR of the dump: each function computes its model.
-/
import Derived.Test.YtjjdbhfigpmciaaStaffDemandsW2
namespace Go.Proofs.Ytjjdbhfigpmciaa.W
open Go Go.RowKit Go.Pu Go.Gw Go.Proofs Go.Proofs.Ytjjdbhfigpmciaa.M
set_option linter.unusedVariables false
set_option linter.unusedSimpArgs false

set_option maxRecDepth 4000 in
set_option maxHeartbeats 4000000 in
theorem portref2_ratio_minus_c (w : World) {A : Nat → Prop} (hA : ∀ b, w.heap.size ≤ b → A b) (a_ : portref2_ratio) (v_a_0 : Value) (h_a_0 : Sl A w v_a_0 a_.num) (v_a_1 : Value) (h_a_1 : Sl A w v_a_1 a_.den) (b : portref2_ratio) (v_b0 : Value) (h_b0 : Sl A w v_b0 b.num) (v_b1 : Value) (h_b1 : Sl A w v_b1 b.den) {r : portref2_ratio} (hm : portref2_ratio_minus a_ b = some r) : Ret Try.prog 41 #[.agg #[v_a_0, v_a_1], .agg #[v_b0, v_b1]] w fun v w' => ∃ s0 s1, v = .agg #[s0, s1] ∧ Sl A w' s0 r.num ∧ Sl A w' s1 r.den ∧ Kp w w' := by
  unfold portref2_ratio_minus at hm
  refine enter Try.func41 rfl Try.ntmps41 rfl ?_
  have hA0 := hA
  have hB := Nat.le_refl w.heap.size
  have hK : Tr w.heap.size A w A w := Tr.refl hA
  have hH : Hp w.heap.size A w [] := Hp.nil
  refine C_seq ?_
  refine C_region ?_
  refine V_box rfl rfl ?_
  intro b9 w10 h11
  have hk13 := h11.kp
  have h12 : El (α := portref2_ratio) A w10 b9 0 a_ := h11.el hA ⟨[v_a_0], _, rfl, ⟨_, rfl, h_a_0⟩, ⟨_, rfl, h_a_1⟩⟩
  have ht14 := Kp.tr hk13 hA hB
  replace hH := Hp.kp hH hk13
  replace h_a_0 := Sl.tr h_a_0 ht14
  replace h_a_1 := Sl.tr h_a_1 ht14
  replace h_b0 := Sl.tr h_b0 ht14
  replace h_b1 := Sl.tr h_b1 ht14
  replace hK := Tr.trans hK ht14
  replace hB := Nat.le_trans hB ht14.ex.size
  replace hA := ht14.new
  refine V_box rfl rfl ?_
  intro b15 w17 h18
  have hk20 := h18.kp
  have h19 : El (α := portref2_ratio) A w17 b15 0 b := h18.el hA ⟨[v_b0], _, rfl, ⟨_, rfl, h_b0⟩, ⟨_, rfl, h_b1⟩⟩
  have ht21 := Kp.tr hk20 hA hB
  replace hH := Hp.kp hH hk20
  replace h_a_0 := Sl.tr h_a_0 ht21
  replace h_a_1 := Sl.tr h_a_1 ht21
  replace h_b0 := Sl.tr h_b0 ht21
  replace h_b1 := Sl.tr h_b1 ht21
  replace h12 := El.tr h12 ht21
  replace hK := Tr.trans hK ht21
  replace hB := Nat.le_trans hB ht21.ex.size
  replace hA := ht21.new
  refine V_allocH (B := w.heap.size) hH Try.zeroValue58 hB hA rfl ?_
  intro b22 w23 A24 hH25 ht26
  replace h_a_0 := Sl.tr h_a_0 ht26
  replace h_a_1 := Sl.tr h_a_1 ht26
  replace h_b0 := Sl.tr h_b0 ht26
  replace h_b1 := Sl.tr h_b1 ht26
  replace h12 := El.tr h12 ht26
  replace h19 := El.tr h19 ht26
  replace hK := Tr.trans hK ht26
  replace hB := Nat.le_trans hB ht26.ex.size
  replace hA := ht26.new
  replace hH : Hp w.heap.size A24 w23 (obC b22 [.slice none 0 0, .slice none 0 0] 58 :: []) := hH25
  refine V_to (fun _ _ => rfl) ?_
  refine C_seq ?_
  refine C_region_ch A24 18 [(1, 0), (1, 1), (1, 2), (1, 3), (1, 5), (1, 6), (1, 7), (1, 8), (1, 11), (1, 12), (1, 13), (1, 14), (2, 4), (2, 9), (2, 10), (2, 15), (2, 16), (4, 17)] Try_mixed (by kernel_rfl) (fun w27 hk28 => ?_)
  have ht29 := Kp.tr hk28 hA hB
  replace hH := Hp.kp hH hk28
  replace h12 := El.tr h12 ht29
  replace h19 := El.tr h19 ht29
  replace hK := Tr.trans hK ht29
  replace hB := Nat.le_trans hB ht29.ex.size
  replace hA := ht29.new
  refine CH_q2 rfl ?_
  have h30 := El_portref2_ratio_0 h12
  refine VQ_y (fun w' hw' => Y_fieldAddr Try.underlying58 rfl Try.sizeOf56 (by decide) rfl) rfl rfl rfl ?_
  refine VQ_CH ?_
  refine CH_q2 rfl ?_
  obtain ⟨v31, h32, h33⟩ := El.list h30
  refine VQ_y (fun w' hw' => Y_load ((World.cell?_of_block (hw'.2 _ h30.2.1 h30.1)).trans h32) Try.isAgg56 rfl) rfl rfl rfl ?_
  refine VQ_CH ?_
  refine CH_q2 rfl ?_
  have h34 := El_portref2_ratio_1 h19
  refine VQ_y (fun w' hw' => Y_fieldAddr Try.underlying58 rfl Try.sizeOf56 (by decide) rfl) rfl rfl rfl ?_
  refine VQ_CH ?_
  refine CH_q2 rfl ?_
  obtain ⟨v35, h36, h37⟩ := El.list h34
  refine VQ_y (fun w' hw' => Y_load ((World.cell?_of_block (hw'.2 _ h34.2.1 h34.1)).trans h36) Try.isAgg56 rfl) rfl rfl rfl ?_
  refine VQ_CH ?_
  refine CH_q2 rfl ?_
  have h38 := El_portref2_ratio_0 h19
  refine VQ_y (fun w' hw' => Y_fieldAddr Try.underlying58 rfl Try.sizeOf56 (by decide) rfl) rfl rfl rfl ?_
  refine VQ_CH ?_
  refine CH_q2 rfl ?_
  obtain ⟨v39, h40, h41⟩ := El.list h38
  refine VQ_y (fun w' hw' => Y_load ((World.cell?_of_block (hw'.2 _ h38.2.1 h38.1)).trans h40) Try.isAgg56 rfl) rfl rfl rfl ?_
  refine VQ_CH ?_
  refine CH_q2 rfl ?_
  have h42 := El_portref2_ratio_1 h12
  refine VQ_y (fun w' hw' => Y_fieldAddr Try.underlying58 rfl Try.sizeOf56 (by decide) rfl) rfl rfl rfl ?_
  refine VQ_CH ?_
  refine CH_q2 rfl ?_
  obtain ⟨v43, h44, h45⟩ := El.list h42
  refine VQ_y (fun w' hw' => Y_load ((World.cell?_of_block (hw'.2 _ h42.2.1 h42.1)).trans h44) Try.isAgg56 rfl) rfl rfl rfl ?_
  refine VQ_CH ?_
  refine CH_q2 rfl ?_
  have h46 := El_portref2_ratio_1 h12
  refine VQ_y (fun w' hw' => Y_fieldAddr Try.underlying58 rfl Try.sizeOf56 (by decide) rfl) rfl rfl rfl ?_
  refine VQ_CH ?_
  refine CH_q2 rfl ?_
  obtain ⟨v47, h48, h49⟩ := El.list h46
  refine VQ_y (fun w' hw' => Y_load ((World.cell?_of_block (hw'.2 _ h46.2.1 h46.1)).trans h48) Try.isAgg56 rfl) rfl rfl rfl ?_
  refine VQ_CH ?_
  refine CH_q2 rfl ?_
  have h50 := El_portref2_ratio_1 h19
  refine VQ_y (fun w' hw' => Y_fieldAddr Try.underlying58 rfl Try.sizeOf56 (by decide) rfl) rfl rfl rfl ?_
  refine VQ_CH ?_
  refine CH_q2 rfl ?_
  obtain ⟨v51, h52, h53⟩ := El.list h50
  refine VQ_y (fun w' hw' => Y_load ((World.cell?_of_block (hw'.2 _ h50.2.1 h50.1)).trans h52) Try.isAgg56 rfl) rfl rfl rfl ?_
  refine VQ_CH ?_
  refine CH_l1 (k := 0) rfl ?_
  obtain ⟨x54, hx54, hm⟩ := Option.bind_eq_some_iff.1 hm
  refine V_call Try.call43 rfl rfl rfl rfl (portref2_whole_times_c w27 hA a_.num v31 h33 b.den v35 h37 hx54) ?_
  rintro v55 w57 ⟨_, rfl, h56, hk58⟩
  have ht59 := Kp.tr hk58 hA hB
  replace hH := Hp.kp hH hk58
  replace h12 := El.tr h12 ht59
  replace h19 := El.tr h19 ht59
  replace h30 := El.tr h30 ht59
  replace h33 := Sl.tr h33 ht59
  replace h34 := El.tr h34 ht59
  replace h37 := Sl.tr h37 ht59
  replace h38 := El.tr h38 ht59
  replace h41 := Sl.tr h41 ht59
  replace h42 := El.tr h42 ht59
  replace h45 := Sl.tr h45 ht59
  replace h46 := El.tr h46 ht59
  replace h49 := Sl.tr h49 ht59
  replace h50 := El.tr h50 ht59
  replace h53 := Sl.tr h53 ht59
  replace hK := Tr.trans hK ht59
  replace hB := Nat.le_trans hB ht59.ex.size
  replace hA := ht59.new
  refine V_CH (hk58) ?_
  refine CH_l1 (k := 0) rfl ?_
  obtain ⟨x60, hx60, hm⟩ := Option.bind_eq_some_iff.1 hm
  refine V_call Try.call43 rfl rfl rfl rfl (portref2_whole_times_c w57 hA b.num v39 h41 a_.den v43 h45 hx60) ?_
  rintro v61 w63 ⟨_, rfl, h62, hk64⟩
  have ht65 := Kp.tr hk64 hA hB
  replace hH := Hp.kp hH hk64
  replace h12 := El.tr h12 ht65
  replace h19 := El.tr h19 ht65
  replace h30 := El.tr h30 ht65
  replace h33 := Sl.tr h33 ht65
  replace h34 := El.tr h34 ht65
  replace h37 := Sl.tr h37 ht65
  replace h38 := El.tr h38 ht65
  replace h41 := Sl.tr h41 ht65
  replace h42 := El.tr h42 ht65
  replace h45 := Sl.tr h45 ht65
  replace h46 := El.tr h46 ht65
  replace h49 := Sl.tr h49 ht65
  replace h50 := El.tr h50 ht65
  replace h53 := Sl.tr h53 ht65
  replace h56 := Sl.tr h56 ht65
  replace hK := Tr.trans hK ht65
  replace hB := Nat.le_trans hB ht65.ex.size
  replace hA := ht65.new
  refine V_CH (hk64) ?_
  refine CH_l1 (k := 0) rfl ?_
  obtain ⟨x66, hx66, hm⟩ := Option.bind_eq_some_iff.1 hm
  refine V_call Try.call48 rfl rfl rfl rfl (portref2_whole_minus_c w63 hA x54 v55 h56 x60 v61 h62 hx66) ?_
  rintro v67 w69 ⟨_, rfl, h68, hk70⟩
  have ht71 := Kp.tr hk70 hA hB
  replace hH := Hp.kp hH hk70
  replace h12 := El.tr h12 ht71
  replace h19 := El.tr h19 ht71
  replace h30 := El.tr h30 ht71
  replace h33 := Sl.tr h33 ht71
  replace h34 := El.tr h34 ht71
  replace h37 := Sl.tr h37 ht71
  replace h38 := El.tr h38 ht71
  replace h41 := Sl.tr h41 ht71
  replace h42 := El.tr h42 ht71
  replace h45 := Sl.tr h45 ht71
  replace h46 := El.tr h46 ht71
  replace h49 := Sl.tr h49 ht71
  replace h50 := El.tr h50 ht71
  replace h53 := Sl.tr h53 ht71
  replace h56 := Sl.tr h56 ht71
  replace h62 := Sl.tr h62 ht71
  replace hK := Tr.trans hK ht71
  replace hB := Nat.le_trans hB ht71.ex.size
  replace hA := ht71.new
  refine V_CH (hk70) ?_
  refine CH_l1 (k := 0) rfl ?_
  obtain ⟨x72, hx72, hm⟩ := Option.bind_eq_some_iff.1 hm
  refine V_call Try.call43 rfl rfl rfl rfl (portref2_whole_times_c w69 hA a_.den v47 h49 b.den v51 h53 hx72) ?_
  rintro v73 w75 ⟨_, rfl, h74, hk76⟩
  have ht77 := Kp.tr hk76 hA hB
  replace hH := Hp.kp hH hk76
  replace h12 := El.tr h12 ht77
  replace h19 := El.tr h19 ht77
  replace h30 := El.tr h30 ht77
  replace h33 := Sl.tr h33 ht77
  replace h34 := El.tr h34 ht77
  replace h37 := Sl.tr h37 ht77
  replace h38 := El.tr h38 ht77
  replace h41 := Sl.tr h41 ht77
  replace h42 := El.tr h42 ht77
  replace h45 := Sl.tr h45 ht77
  replace h46 := El.tr h46 ht77
  replace h49 := Sl.tr h49 ht77
  replace h50 := El.tr h50 ht77
  replace h53 := Sl.tr h53 ht77
  replace h56 := Sl.tr h56 ht77
  replace h62 := Sl.tr h62 ht77
  replace h68 := Sl.tr h68 ht77
  replace hK := Tr.trans hK ht77
  replace hB := Nat.le_trans hB ht77.ex.size
  replace hA := ht77.new
  refine V_CH (hk76) ?_
  refine CH_l1 (k := 0) rfl ?_
  obtain ⟨x78, hx78, hm⟩ := Option.bind_eq_some_iff.1 hm
  refine V_call Try.call45 rfl rfl rfl rfl (portref2_lowest_c w75 hA x66 v67 h68 x72 v73 h74 hx78) ?_
  rintro _ w83 ⟨v79, v81, rfl, h80, h82, hk84⟩
  have ht85 := Kp.tr hk84 hA hB
  replace hH := Hp.kp hH hk84
  replace h12 := El.tr h12 ht85
  replace h19 := El.tr h19 ht85
  replace h30 := El.tr h30 ht85
  replace h33 := Sl.tr h33 ht85
  replace h34 := El.tr h34 ht85
  replace h37 := Sl.tr h37 ht85
  replace h38 := El.tr h38 ht85
  replace h41 := Sl.tr h41 ht85
  replace h42 := El.tr h42 ht85
  replace h45 := Sl.tr h45 ht85
  replace h46 := El.tr h46 ht85
  replace h49 := Sl.tr h49 ht85
  replace h50 := El.tr h50 ht85
  replace h53 := Sl.tr h53 ht85
  replace h56 := Sl.tr h56 ht85
  replace h62 := Sl.tr h62 ht85
  replace h68 := Sl.tr h68 ht85
  replace h74 := Sl.tr h74 ht85
  replace hK := Tr.trans hK ht85
  replace hB := Nat.le_trans hB ht85.ex.size
  replace hA := ht85.new
  refine V_CH (hk84) ?_
  refine CH_l1 (k := 2) rfl ?_
  have h91 : (v79).oneCell' = true := by obtain ⟨_, _, e, _⟩ := Sl.form h80; rw [e]; rfl
  have h94 : (v81).oneCell' = true := by obtain ⟨_, _, e, _⟩ := Sl.form h82; rw [e]; rfl
  refine V_storeC (off := 0) (ds := [v79, v81]) hH (i := 0) rfl Try.sizeOf58 rfl (Nat.le_of_ble_eq_true rfl) (by exact (List.forall_mem_cons.2 ⟨h91, (List.forall_mem_cons.2 ⟨h94, (fun _ h => nomatch h)⟩)⟩)) rfl hB hA rfl rfl ?_
  intro w86 hH87 ht88
  replace h12 := El.tr h12 ht88
  replace h19 := El.tr h19 ht88
  replace h30 := El.tr h30 ht88
  replace h33 := Sl.tr h33 ht88
  replace h34 := El.tr h34 ht88
  replace h37 := Sl.tr h37 ht88
  replace h38 := El.tr h38 ht88
  replace h41 := Sl.tr h41 ht88
  replace h42 := El.tr h42 ht88
  replace h45 := Sl.tr h45 ht88
  replace h46 := El.tr h46 ht88
  replace h49 := Sl.tr h49 ht88
  replace h50 := El.tr h50 ht88
  replace h53 := Sl.tr h53 ht88
  replace h56 := Sl.tr h56 ht88
  replace h62 := Sl.tr h62 ht88
  replace h68 := Sl.tr h68 ht88
  replace h74 := Sl.tr h74 ht88
  replace h80 := Sl.tr h80 ht88
  replace h82 := Sl.tr h82 ht88
  replace hK := Tr.trans hK ht88
  replace hB := Nat.le_trans hB ht88.ex.size
  replace hA := ht88.new
  replace hH : Hp w.heap.size A24 w86 (obC b22 [v79, v81] 58 :: []) := hH87
  refine V_CHw ?_
  refine CH_tail ?_
  show V _ _ _ _ [] _ _
  refine V_to (fun _ _ => rfl) ?_
  obtain rfl := Option.some.inj hm
  refine C_ret ?_
  try simp only [↓inBlock_ret, ↓then_ret]
  exact retQ rfl (Res.l1 Try.results41 (RL.cell rfl (loadVar_agg (Hp.part (off := 0) (n := 2) (ds := [v79, v81]) hH (i := 0) rfl rfl) Try.isAgg58 Try.sizeOf58))) ⟨v79, v81, rfl, (Sl.out h80 hA0 hK), (Sl.out h82 hA0 hK), hK.kp⟩

set_option maxRecDepth 4000 in
set_option maxHeartbeats 4000000 in
theorem portref2_ratio_times_c (w : World) {A : Nat → Prop} (hA : ∀ b, w.heap.size ≤ b → A b) (a_ : portref2_ratio) (v_a_0 : Value) (h_a_0 : Sl A w v_a_0 a_.num) (v_a_1 : Value) (h_a_1 : Sl A w v_a_1 a_.den) (b : portref2_ratio) (v_b0 : Value) (h_b0 : Sl A w v_b0 b.num) (v_b1 : Value) (h_b1 : Sl A w v_b1 b.den) {r : portref2_ratio} (hm : portref2_ratio_times a_ b = some r) : Ret Try.prog 39 #[.agg #[v_a_0, v_a_1], .agg #[v_b0, v_b1]] w fun v w' => ∃ s0 s1, v = .agg #[s0, s1] ∧ Sl A w' s0 r.num ∧ Sl A w' s1 r.den ∧ Kp w w' := by
  unfold portref2_ratio_times at hm
  refine enter Try.func39 rfl Try.ntmps39 rfl ?_
  have hA0 := hA
  have hB := Nat.le_refl w.heap.size
  have hK : Tr w.heap.size A w A w := Tr.refl hA
  have hH : Hp w.heap.size A w [] := Hp.nil
  refine C_seq ?_
  refine C_region ?_
  refine V_box rfl rfl ?_
  intro b9 w10 h11
  have hk13 := h11.kp
  have h12 : El (α := portref2_ratio) A w10 b9 0 a_ := h11.el hA ⟨[v_a_0], _, rfl, ⟨_, rfl, h_a_0⟩, ⟨_, rfl, h_a_1⟩⟩
  have ht14 := Kp.tr hk13 hA hB
  replace hH := Hp.kp hH hk13
  replace h_a_0 := Sl.tr h_a_0 ht14
  replace h_a_1 := Sl.tr h_a_1 ht14
  replace h_b0 := Sl.tr h_b0 ht14
  replace h_b1 := Sl.tr h_b1 ht14
  replace hK := Tr.trans hK ht14
  replace hB := Nat.le_trans hB ht14.ex.size
  replace hA := ht14.new
  refine V_box rfl rfl ?_
  intro b15 w17 h18
  have hk20 := h18.kp
  have h19 : El (α := portref2_ratio) A w17 b15 0 b := h18.el hA ⟨[v_b0], _, rfl, ⟨_, rfl, h_b0⟩, ⟨_, rfl, h_b1⟩⟩
  have ht21 := Kp.tr hk20 hA hB
  replace hH := Hp.kp hH hk20
  replace h_a_0 := Sl.tr h_a_0 ht21
  replace h_a_1 := Sl.tr h_a_1 ht21
  replace h_b0 := Sl.tr h_b0 ht21
  replace h_b1 := Sl.tr h_b1 ht21
  replace h12 := El.tr h12 ht21
  replace hK := Tr.trans hK ht21
  replace hB := Nat.le_trans hB ht21.ex.size
  replace hA := ht21.new
  refine V_allocH (B := w.heap.size) hH Try.zeroValue58 hB hA rfl ?_
  intro b22 w23 A24 hH25 ht26
  replace h_a_0 := Sl.tr h_a_0 ht26
  replace h_a_1 := Sl.tr h_a_1 ht26
  replace h_b0 := Sl.tr h_b0 ht26
  replace h_b1 := Sl.tr h_b1 ht26
  replace h12 := El.tr h12 ht26
  replace h19 := El.tr h19 ht26
  replace hK := Tr.trans hK ht26
  replace hB := Nat.le_trans hB ht26.ex.size
  replace hA := ht26.new
  replace hH : Hp w.heap.size A24 w23 (obC b22 [.slice none 0 0, .slice none 0 0] 58 :: []) := hH25
  refine V_to (fun _ _ => rfl) ?_
  refine C_seq ?_
  refine C_region_ch A24 12 [(1, 0), (1, 1), (1, 2), (1, 3), (1, 5), (1, 6), (1, 7), (1, 8), (2, 4), (2, 9), (2, 10), (4, 11)] Try_mixed (by kernel_rfl) (fun w27 hk28 => ?_)
  have ht29 := Kp.tr hk28 hA hB
  replace hH := Hp.kp hH hk28
  replace h12 := El.tr h12 ht29
  replace h19 := El.tr h19 ht29
  replace hK := Tr.trans hK ht29
  replace hB := Nat.le_trans hB ht29.ex.size
  replace hA := ht29.new
  refine CH_q2 rfl ?_
  have h30 := El_portref2_ratio_0 h12
  refine VQ_y (fun w' hw' => Y_fieldAddr Try.underlying58 rfl Try.sizeOf56 (by decide) rfl) rfl rfl rfl ?_
  refine VQ_CH ?_
  refine CH_q2 rfl ?_
  obtain ⟨v31, h32, h33⟩ := El.list h30
  refine VQ_y (fun w' hw' => Y_load ((World.cell?_of_block (hw'.2 _ h30.2.1 h30.1)).trans h32) Try.isAgg56 rfl) rfl rfl rfl ?_
  refine VQ_CH ?_
  refine CH_q2 rfl ?_
  have h34 := El_portref2_ratio_0 h19
  refine VQ_y (fun w' hw' => Y_fieldAddr Try.underlying58 rfl Try.sizeOf56 (by decide) rfl) rfl rfl rfl ?_
  refine VQ_CH ?_
  refine CH_q2 rfl ?_
  obtain ⟨v35, h36, h37⟩ := El.list h34
  refine VQ_y (fun w' hw' => Y_load ((World.cell?_of_block (hw'.2 _ h34.2.1 h34.1)).trans h36) Try.isAgg56 rfl) rfl rfl rfl ?_
  refine VQ_CH ?_
  refine CH_q2 rfl ?_
  have h38 := El_portref2_ratio_1 h12
  refine VQ_y (fun w' hw' => Y_fieldAddr Try.underlying58 rfl Try.sizeOf56 (by decide) rfl) rfl rfl rfl ?_
  refine VQ_CH ?_
  refine CH_q2 rfl ?_
  obtain ⟨v39, h40, h41⟩ := El.list h38
  refine VQ_y (fun w' hw' => Y_load ((World.cell?_of_block (hw'.2 _ h38.2.1 h38.1)).trans h40) Try.isAgg56 rfl) rfl rfl rfl ?_
  refine VQ_CH ?_
  refine CH_q2 rfl ?_
  have h42 := El_portref2_ratio_1 h19
  refine VQ_y (fun w' hw' => Y_fieldAddr Try.underlying58 rfl Try.sizeOf56 (by decide) rfl) rfl rfl rfl ?_
  refine VQ_CH ?_
  refine CH_q2 rfl ?_
  obtain ⟨v43, h44, h45⟩ := El.list h42
  refine VQ_y (fun w' hw' => Y_load ((World.cell?_of_block (hw'.2 _ h42.2.1 h42.1)).trans h44) Try.isAgg56 rfl) rfl rfl rfl ?_
  refine VQ_CH ?_
  refine CH_l1 (k := 0) rfl ?_
  obtain ⟨x46, hx46, hm⟩ := Option.bind_eq_some_iff.1 hm
  refine V_call Try.call43 rfl rfl rfl rfl (portref2_whole_times_c w27 hA a_.num v31 h33 b.num v35 h37 hx46) ?_
  rintro v47 w49 ⟨_, rfl, h48, hk50⟩
  have ht51 := Kp.tr hk50 hA hB
  replace hH := Hp.kp hH hk50
  replace h12 := El.tr h12 ht51
  replace h19 := El.tr h19 ht51
  replace h30 := El.tr h30 ht51
  replace h33 := Sl.tr h33 ht51
  replace h34 := El.tr h34 ht51
  replace h37 := Sl.tr h37 ht51
  replace h38 := El.tr h38 ht51
  replace h41 := Sl.tr h41 ht51
  replace h42 := El.tr h42 ht51
  replace h45 := Sl.tr h45 ht51
  replace hK := Tr.trans hK ht51
  replace hB := Nat.le_trans hB ht51.ex.size
  replace hA := ht51.new
  refine V_CH (hk50) ?_
  refine CH_l1 (k := 0) rfl ?_
  obtain ⟨x52, hx52, hm⟩ := Option.bind_eq_some_iff.1 hm
  refine V_call Try.call43 rfl rfl rfl rfl (portref2_whole_times_c w49 hA a_.den v39 h41 b.den v43 h45 hx52) ?_
  rintro v53 w55 ⟨_, rfl, h54, hk56⟩
  have ht57 := Kp.tr hk56 hA hB
  replace hH := Hp.kp hH hk56
  replace h12 := El.tr h12 ht57
  replace h19 := El.tr h19 ht57
  replace h30 := El.tr h30 ht57
  replace h33 := Sl.tr h33 ht57
  replace h34 := El.tr h34 ht57
  replace h37 := Sl.tr h37 ht57
  replace h38 := El.tr h38 ht57
  replace h41 := Sl.tr h41 ht57
  replace h42 := El.tr h42 ht57
  replace h45 := Sl.tr h45 ht57
  replace h48 := Sl.tr h48 ht57
  replace hK := Tr.trans hK ht57
  replace hB := Nat.le_trans hB ht57.ex.size
  replace hA := ht57.new
  refine V_CH (hk56) ?_
  refine CH_l1 (k := 0) rfl ?_
  obtain ⟨x58, hx58, hm⟩ := Option.bind_eq_some_iff.1 hm
  refine V_call Try.call45 rfl rfl rfl rfl (portref2_lowest_c w55 hA x46 v47 h48 x52 v53 h54 hx58) ?_
  rintro _ w63 ⟨v59, v61, rfl, h60, h62, hk64⟩
  have ht65 := Kp.tr hk64 hA hB
  replace hH := Hp.kp hH hk64
  replace h12 := El.tr h12 ht65
  replace h19 := El.tr h19 ht65
  replace h30 := El.tr h30 ht65
  replace h33 := Sl.tr h33 ht65
  replace h34 := El.tr h34 ht65
  replace h37 := Sl.tr h37 ht65
  replace h38 := El.tr h38 ht65
  replace h41 := Sl.tr h41 ht65
  replace h42 := El.tr h42 ht65
  replace h45 := Sl.tr h45 ht65
  replace h48 := Sl.tr h48 ht65
  replace h54 := Sl.tr h54 ht65
  replace hK := Tr.trans hK ht65
  replace hB := Nat.le_trans hB ht65.ex.size
  replace hA := ht65.new
  refine V_CH (hk64) ?_
  refine CH_l1 (k := 2) rfl ?_
  have h71 : (v59).oneCell' = true := by obtain ⟨_, _, e, _⟩ := Sl.form h60; rw [e]; rfl
  have h74 : (v61).oneCell' = true := by obtain ⟨_, _, e, _⟩ := Sl.form h62; rw [e]; rfl
  refine V_storeC (off := 0) (ds := [v59, v61]) hH (i := 0) rfl Try.sizeOf58 rfl (Nat.le_of_ble_eq_true rfl) (by exact (List.forall_mem_cons.2 ⟨h71, (List.forall_mem_cons.2 ⟨h74, (fun _ h => nomatch h)⟩)⟩)) rfl hB hA rfl rfl ?_
  intro w66 hH67 ht68
  replace h12 := El.tr h12 ht68
  replace h19 := El.tr h19 ht68
  replace h30 := El.tr h30 ht68
  replace h33 := Sl.tr h33 ht68
  replace h34 := El.tr h34 ht68
  replace h37 := Sl.tr h37 ht68
  replace h38 := El.tr h38 ht68
  replace h41 := Sl.tr h41 ht68
  replace h42 := El.tr h42 ht68
  replace h45 := Sl.tr h45 ht68
  replace h48 := Sl.tr h48 ht68
  replace h54 := Sl.tr h54 ht68
  replace h60 := Sl.tr h60 ht68
  replace h62 := Sl.tr h62 ht68
  replace hK := Tr.trans hK ht68
  replace hB := Nat.le_trans hB ht68.ex.size
  replace hA := ht68.new
  replace hH : Hp w.heap.size A24 w66 (obC b22 [v59, v61] 58 :: []) := hH67
  refine V_CHw ?_
  refine CH_tail ?_
  show V _ _ _ _ [] _ _
  refine V_to (fun _ _ => rfl) ?_
  obtain rfl := Option.some.inj hm
  refine C_ret ?_
  try simp only [↓inBlock_ret, ↓then_ret]
  exact retQ rfl (Res.l1 Try.results39 (RL.cell rfl (loadVar_agg (Hp.part (off := 0) (n := 2) (ds := [v59, v61]) hH (i := 0) rfl rfl) Try.isAgg58 Try.sizeOf58))) ⟨v59, v61, rfl, (Sl.out h60 hA0 hK), (Sl.out h62 hA0 hK), hK.kp⟩

set_option maxRecDepth 4000 in
set_option maxHeartbeats 4000000 in
theorem portref2_ratio_by_c (w : World) {A : Nat → Prop} (hA : ∀ b, w.heap.size ≤ b → A b) (a_ : portref2_ratio) (v_a_0 : Value) (h_a_0 : Sl A w v_a_0 a_.num) (v_a_1 : Value) (h_a_1 : Sl A w v_a_1 a_.den) (b : portref2_ratio) (v_b0 : Value) (h_b0 : Sl A w v_b0 b.num) (v_b1 : Value) (h_b1 : Sl A w v_b1 b.den) {r : portref2_ratio} (hm : portref2_ratio_by a_ b = some r) : Ret Try.prog 40 #[.agg #[v_a_0, v_a_1], .agg #[v_b0, v_b1]] w fun v w' => ∃ s0 s1, v = .agg #[s0, s1] ∧ Sl A w' s0 r.num ∧ Sl A w' s1 r.den ∧ Kp w w' := by
  unfold portref2_ratio_by at hm
  refine enter Try.func40 rfl Try.ntmps40 rfl ?_
  have hA0 := hA
  have hB := Nat.le_refl w.heap.size
  have hK : Tr w.heap.size A w A w := Tr.refl hA
  have hH : Hp w.heap.size A w [] := Hp.nil
  refine C_seq ?_
  refine C_region ?_
  refine V_box rfl rfl ?_
  intro b9 w10 h11
  have hk13 := h11.kp
  have h12 : El (α := portref2_ratio) A w10 b9 0 a_ := h11.el hA ⟨[v_a_0], _, rfl, ⟨_, rfl, h_a_0⟩, ⟨_, rfl, h_a_1⟩⟩
  have ht14 := Kp.tr hk13 hA hB
  replace hH := Hp.kp hH hk13
  replace h_a_0 := Sl.tr h_a_0 ht14
  replace h_a_1 := Sl.tr h_a_1 ht14
  replace h_b0 := Sl.tr h_b0 ht14
  replace h_b1 := Sl.tr h_b1 ht14
  replace hK := Tr.trans hK ht14
  replace hB := Nat.le_trans hB ht14.ex.size
  replace hA := ht14.new
  refine V_box rfl rfl ?_
  intro b15 w17 h18
  have hk20 := h18.kp
  have h19 : El (α := portref2_ratio) A w17 b15 0 b := h18.el hA ⟨[v_b0], _, rfl, ⟨_, rfl, h_b0⟩, ⟨_, rfl, h_b1⟩⟩
  have ht21 := Kp.tr hk20 hA hB
  replace hH := Hp.kp hH hk20
  replace h_a_0 := Sl.tr h_a_0 ht21
  replace h_a_1 := Sl.tr h_a_1 ht21
  replace h_b0 := Sl.tr h_b0 ht21
  replace h_b1 := Sl.tr h_b1 ht21
  replace h12 := El.tr h12 ht21
  replace hK := Tr.trans hK ht21
  replace hB := Nat.le_trans hB ht21.ex.size
  replace hA := ht21.new
  refine V_allocH (B := w.heap.size) hH Try.zeroValue58 hB hA rfl ?_
  intro b22 w23 A24 hH25 ht26
  replace h_a_0 := Sl.tr h_a_0 ht26
  replace h_a_1 := Sl.tr h_a_1 ht26
  replace h_b0 := Sl.tr h_b0 ht26
  replace h_b1 := Sl.tr h_b1 ht26
  replace h12 := El.tr h12 ht26
  replace h19 := El.tr h19 ht26
  replace hK := Tr.trans hK ht26
  replace hB := Nat.le_trans hB ht26.ex.size
  replace hA := ht26.new
  replace hH : Hp w.heap.size A24 w23 (obC b22 [.slice none 0 0, .slice none 0 0] 58 :: []) := hH25
  refine V_to (fun _ _ => rfl) ?_
  refine C_seq ?_
  refine C_region_ch A24 12 [(1, 0), (1, 1), (1, 2), (1, 3), (1, 5), (1, 6), (1, 7), (1, 8), (2, 4), (2, 9), (2, 10), (4, 11)] Try_mixed (by kernel_rfl) (fun w27 hk28 => ?_)
  have ht29 := Kp.tr hk28 hA hB
  replace hH := Hp.kp hH hk28
  replace h12 := El.tr h12 ht29
  replace h19 := El.tr h19 ht29
  replace hK := Tr.trans hK ht29
  replace hB := Nat.le_trans hB ht29.ex.size
  replace hA := ht29.new
  refine CH_q2 rfl ?_
  have h30 := El_portref2_ratio_0 h12
  refine VQ_y (fun w' hw' => Y_fieldAddr Try.underlying58 rfl Try.sizeOf56 (by decide) rfl) rfl rfl rfl ?_
  refine VQ_CH ?_
  refine CH_q2 rfl ?_
  obtain ⟨v31, h32, h33⟩ := El.list h30
  refine VQ_y (fun w' hw' => Y_load ((World.cell?_of_block (hw'.2 _ h30.2.1 h30.1)).trans h32) Try.isAgg56 rfl) rfl rfl rfl ?_
  refine VQ_CH ?_
  refine CH_q2 rfl ?_
  have h34 := El_portref2_ratio_1 h19
  refine VQ_y (fun w' hw' => Y_fieldAddr Try.underlying58 rfl Try.sizeOf56 (by decide) rfl) rfl rfl rfl ?_
  refine VQ_CH ?_
  refine CH_q2 rfl ?_
  obtain ⟨v35, h36, h37⟩ := El.list h34
  refine VQ_y (fun w' hw' => Y_load ((World.cell?_of_block (hw'.2 _ h34.2.1 h34.1)).trans h36) Try.isAgg56 rfl) rfl rfl rfl ?_
  refine VQ_CH ?_
  refine CH_q2 rfl ?_
  have h38 := El_portref2_ratio_1 h12
  refine VQ_y (fun w' hw' => Y_fieldAddr Try.underlying58 rfl Try.sizeOf56 (by decide) rfl) rfl rfl rfl ?_
  refine VQ_CH ?_
  refine CH_q2 rfl ?_
  obtain ⟨v39, h40, h41⟩ := El.list h38
  refine VQ_y (fun w' hw' => Y_load ((World.cell?_of_block (hw'.2 _ h38.2.1 h38.1)).trans h40) Try.isAgg56 rfl) rfl rfl rfl ?_
  refine VQ_CH ?_
  refine CH_q2 rfl ?_
  have h42 := El_portref2_ratio_0 h19
  refine VQ_y (fun w' hw' => Y_fieldAddr Try.underlying58 rfl Try.sizeOf56 (by decide) rfl) rfl rfl rfl ?_
  refine VQ_CH ?_
  refine CH_q2 rfl ?_
  obtain ⟨v43, h44, h45⟩ := El.list h42
  refine VQ_y (fun w' hw' => Y_load ((World.cell?_of_block (hw'.2 _ h42.2.1 h42.1)).trans h44) Try.isAgg56 rfl) rfl rfl rfl ?_
  refine VQ_CH ?_
  refine CH_l1 (k := 0) rfl ?_
  obtain ⟨x46, hx46, hm⟩ := Option.bind_eq_some_iff.1 hm
  refine V_call Try.call43 rfl rfl rfl rfl (portref2_whole_times_c w27 hA a_.num v31 h33 b.den v35 h37 hx46) ?_
  rintro v47 w49 ⟨_, rfl, h48, hk50⟩
  have ht51 := Kp.tr hk50 hA hB
  replace hH := Hp.kp hH hk50
  replace h12 := El.tr h12 ht51
  replace h19 := El.tr h19 ht51
  replace h30 := El.tr h30 ht51
  replace h33 := Sl.tr h33 ht51
  replace h34 := El.tr h34 ht51
  replace h37 := Sl.tr h37 ht51
  replace h38 := El.tr h38 ht51
  replace h41 := Sl.tr h41 ht51
  replace h42 := El.tr h42 ht51
  replace h45 := Sl.tr h45 ht51
  replace hK := Tr.trans hK ht51
  replace hB := Nat.le_trans hB ht51.ex.size
  replace hA := ht51.new
  refine V_CH (hk50) ?_
  refine CH_l1 (k := 0) rfl ?_
  obtain ⟨x52, hx52, hm⟩ := Option.bind_eq_some_iff.1 hm
  refine V_call Try.call43 rfl rfl rfl rfl (portref2_whole_times_c w49 hA a_.den v39 h41 b.num v43 h45 hx52) ?_
  rintro v53 w55 ⟨_, rfl, h54, hk56⟩
  have ht57 := Kp.tr hk56 hA hB
  replace hH := Hp.kp hH hk56
  replace h12 := El.tr h12 ht57
  replace h19 := El.tr h19 ht57
  replace h30 := El.tr h30 ht57
  replace h33 := Sl.tr h33 ht57
  replace h34 := El.tr h34 ht57
  replace h37 := Sl.tr h37 ht57
  replace h38 := El.tr h38 ht57
  replace h41 := Sl.tr h41 ht57
  replace h42 := El.tr h42 ht57
  replace h45 := Sl.tr h45 ht57
  replace h48 := Sl.tr h48 ht57
  replace hK := Tr.trans hK ht57
  replace hB := Nat.le_trans hB ht57.ex.size
  replace hA := ht57.new
  refine V_CH (hk56) ?_
  refine CH_l1 (k := 0) rfl ?_
  obtain ⟨x58, hx58, hm⟩ := Option.bind_eq_some_iff.1 hm
  refine V_call Try.call45 rfl rfl rfl rfl (portref2_lowest_c w55 hA x46 v47 h48 x52 v53 h54 hx58) ?_
  rintro _ w63 ⟨v59, v61, rfl, h60, h62, hk64⟩
  have ht65 := Kp.tr hk64 hA hB
  replace hH := Hp.kp hH hk64
  replace h12 := El.tr h12 ht65
  replace h19 := El.tr h19 ht65
  replace h30 := El.tr h30 ht65
  replace h33 := Sl.tr h33 ht65
  replace h34 := El.tr h34 ht65
  replace h37 := Sl.tr h37 ht65
  replace h38 := El.tr h38 ht65
  replace h41 := Sl.tr h41 ht65
  replace h42 := El.tr h42 ht65
  replace h45 := Sl.tr h45 ht65
  replace h48 := Sl.tr h48 ht65
  replace h54 := Sl.tr h54 ht65
  replace hK := Tr.trans hK ht65
  replace hB := Nat.le_trans hB ht65.ex.size
  replace hA := ht65.new
  refine V_CH (hk64) ?_
  refine CH_l1 (k := 2) rfl ?_
  have h71 : (v59).oneCell' = true := by obtain ⟨_, _, e, _⟩ := Sl.form h60; rw [e]; rfl
  have h74 : (v61).oneCell' = true := by obtain ⟨_, _, e, _⟩ := Sl.form h62; rw [e]; rfl
  refine V_storeC (off := 0) (ds := [v59, v61]) hH (i := 0) rfl Try.sizeOf58 rfl (Nat.le_of_ble_eq_true rfl) (by exact (List.forall_mem_cons.2 ⟨h71, (List.forall_mem_cons.2 ⟨h74, (fun _ h => nomatch h)⟩)⟩)) rfl hB hA rfl rfl ?_
  intro w66 hH67 ht68
  replace h12 := El.tr h12 ht68
  replace h19 := El.tr h19 ht68
  replace h30 := El.tr h30 ht68
  replace h33 := Sl.tr h33 ht68
  replace h34 := El.tr h34 ht68
  replace h37 := Sl.tr h37 ht68
  replace h38 := El.tr h38 ht68
  replace h41 := Sl.tr h41 ht68
  replace h42 := El.tr h42 ht68
  replace h45 := Sl.tr h45 ht68
  replace h48 := Sl.tr h48 ht68
  replace h54 := Sl.tr h54 ht68
  replace h60 := Sl.tr h60 ht68
  replace h62 := Sl.tr h62 ht68
  replace hK := Tr.trans hK ht68
  replace hB := Nat.le_trans hB ht68.ex.size
  replace hA := ht68.new
  replace hH : Hp w.heap.size A24 w66 (obC b22 [v59, v61] 58 :: []) := hH67
  refine V_CHw ?_
  refine CH_tail ?_
  show V _ _ _ _ [] _ _
  refine V_to (fun _ _ => rfl) ?_
  obtain rfl := Option.some.inj hm
  refine C_ret ?_
  try simp only [↓inBlock_ret, ↓then_ret]
  exact retQ rfl (Res.l1 Try.results40 (RL.cell rfl (loadVar_agg (Hp.part (off := 0) (n := 2) (ds := [v59, v61]) hH (i := 0) rfl rfl) Try.isAgg58 Try.sizeOf58))) ⟨v59, v61, rfl, (Sl.out h60 hA0 hK), (Sl.out h62 hA0 hK), hK.kp⟩

set_option maxRecDepth 4000 in
set_option maxHeartbeats 4000000 in
theorem portref2_waits_c (w : World) {A : Nat → Prop} (hA : ∀ b, w.heap.size ≤ b → A b) (l : staff_Load) (n : Int) {r : portref2_ratio} (hm : portref2_waits l n = some r) : Ret Try.prog 28 #[.agg #[.int .i64 l.calls, .int .i64 l.length, .int .i64 l.span], .int .i64 n] w fun v w' => ∃ s0 s1, v = .agg #[s0, s1] ∧ Sl A w' s0 r.num ∧ Sl A w' s1 r.den ∧ Kp w w' := by
  unfold portref2_waits at hm
  refine enter Try.func28 rfl Try.ntmps28 rfl ?_
  have hA0 := hA
  have hB := Nat.le_refl w.heap.size
  have hK : Tr w.heap.size A w A w := Tr.refl hA
  have hH : Hp w.heap.size A w [] := Hp.nil
  refine C_seq ?_
  refine C_region ?_
  refine V_box rfl rfl ?_
  intro b1 w2 h3
  have hk5 := h3.kp
  have h4 : El (α := staff_Load) A w2 b1 0 l := h3.el hA ⟨[.int .i64 l.calls], _, rfl, rfl, ⟨[.int .i64 l.length], _, rfl, rfl, rfl⟩⟩
  have ht6 := Kp.tr hk5 hA hB
  replace hH := Hp.kp hH hk5
  replace hK := Tr.trans hK ht6
  replace hB := Nat.le_trans hB ht6.ex.size
  replace hA := ht6.new
  refine V_allocH (B := w.heap.size) hH Try.zeroValue58 hB hA rfl ?_
  intro b7 w9 A10 hH11 ht12
  replace h4 := El.tr h4 ht12
  replace hK := Tr.trans hK ht12
  replace hB := Nat.le_trans hB ht12.ex.size
  replace hA := ht12.new
  replace hH : Hp w.heap.size A10 w9 (obC b7 [.slice none 0 0, .slice none 0 0] 58 :: []) := hH11
  refine V_to (fun _ _ => rfl) ?_
  refine C_seq ?_
  refine C_region ?_
  obtain ⟨h13, _⟩ := El_staff_Load h4
  refine V_y (Y_loadA h13 Try.isAgg23 Try.sizeOf23 rfl) rfl rfl rfl ?_
  obtain ⟨x14, hx14, hm⟩ := Option.bind_eq_some_iff.1 hm
  refine V_call Try.call38 rfl rfl rfl rfl (portref2_offered_c w9 hA l hx14) ?_
  rintro _ w19 ⟨v15, v17, rfl, h16, h18, hk20⟩
  have ht21 := Kp.tr hk20 hA hB
  replace hH := Hp.kp hH hk20
  replace h4 := El.tr h4 ht21
  replace hK := Tr.trans hK ht21
  replace hB := Nat.le_trans hB ht21.ex.size
  replace hA := ht21.new
  refine V_alloc Try.zeroValue58 rfl ?_
  intro b22 w23 h24
  have h29 : (v15).oneCell' = true := by obtain ⟨_, _, e, _⟩ := Sl.form h16; rw [e]; rfl
  have h32 : (v17).oneCell' = true := by obtain ⟨_, _, e, _⟩ := Sl.form h18; rw [e]; rfl
  refine V_storeNew h24 Try.sizeOf58 rfl rfl rfl rfl (by exact (List.forall_mem_cons.2 ⟨h29, (List.forall_mem_cons.2 ⟨h32, (fun _ h => nomatch h)⟩)⟩)) ?_
  intro w25 h26
  have hk34 := h26.kp
  have h33 : El (α := portref2_ratio) A10 w25 b22 0 x14 := h26.el hA ⟨[v15], _, rfl, ⟨_, rfl, h16⟩, ⟨_, rfl, h18⟩⟩
  have ht35 := Kp.tr hk34 hA hB
  replace hH := Hp.kp hH hk34
  replace h4 := El.tr h4 ht35
  replace h16 := Sl.tr h16 ht35
  replace h18 := Sl.tr h18 ht35
  replace hK := Tr.trans hK ht35
  replace hB := Nat.le_trans hB ht35.ex.size
  replace hA := ht35.new
  refine V_to (fun _ _ => rfl) ?_
  refine C_seq ?_
  refine C_seq ?_
  refine C_region ?_
  have h36 := El_staff_Load_0 h4
  refine V_y (Y_fieldAddr Try.underlying23 rfl Try.sizeOf3 (by decide) rfl) rfl rfl rfl ?_
  refine V_y (Y_load (El.int h36) Try.isAgg3 rfl) rfl rfl rfl ?_
  refine V_y (Y_eql rfl rfl) rfl rfl rfl ?_
  refine V_to (fun _ _ => rfl) ?_
  refine C_cond rfl (fun hc37 => ?_) (fun hc37 => ?_)
  · rw [if_pos hc37] at hm
    refine C_seq ?_
    refine C_region ?_
    obtain ⟨x38, hx38, hm⟩ := Option.bind_eq_some_iff.1 hm
    refine V_call Try.call30 rfl rfl rfl rfl (portref2_rat_c w25 hA 0 1 hx38) ?_
    rintro _ w43 ⟨v39, v41, rfl, h40, h42, hk44⟩
    have ht45 := Kp.tr hk44 hA hB
    replace hH := Hp.kp hH hk44
    replace h4 := El.tr h4 ht45
    replace h33 := El.tr h33 ht45
    replace hK := Tr.trans hK ht45
    replace hB := Nat.le_trans hB ht45.ex.size
    replace hA := ht45.new
    have h51 : (v39).oneCell' = true := by obtain ⟨_, _, e, _⟩ := Sl.form h40; rw [e]; rfl
    have h54 : (v41).oneCell' = true := by obtain ⟨_, _, e, _⟩ := Sl.form h42; rw [e]; rfl
    refine V_storeC (off := 0) (ds := [v39, v41]) hH (i := 0) rfl Try.sizeOf58 rfl (Nat.le_of_ble_eq_true rfl) (by exact (List.forall_mem_cons.2 ⟨h51, (List.forall_mem_cons.2 ⟨h54, (fun _ h => nomatch h)⟩)⟩)) rfl hB hA rfl rfl ?_
    intro w46 hH47 ht48
    replace h4 := El.tr h4 ht48
    replace h33 := El.tr h33 ht48
    replace h40 := Sl.tr h40 ht48
    replace h42 := Sl.tr h42 ht48
    replace hK := Tr.trans hK ht48
    replace hB := Nat.le_trans hB ht48.ex.size
    replace hA := ht48.new
    replace hH : Hp w.heap.size A10 w46 (obC b7 [v39, v41] 58 :: []) := hH47
    refine V_to (fun _ _ => rfl) ?_
    obtain rfl := Option.some.inj hm
    refine C_ret ?_
    try simp only [↓inBlock_ret, ↓then_ret]
    exact retQ rfl (Res.l1 Try.results28 (RL.cell rfl (loadVar_agg (Hp.part (off := 0) (n := 2) (ds := [v39, v41]) hH (i := 0) rfl rfl) Try.isAgg58 Try.sizeOf58))) ⟨v39, v41, rfl, (Sl.out h40 hA0 hK), (Sl.out h42 hA0 hK), hK.kp⟩
  · rw [if_neg (nt hc37)] at hm
    refine C_skip_to (fun _ _ => rfl) ?_
    refine C_seq ?_
    refine C_seq ?_
    refine C_region_ch A10 5 [(1, 0), (1, 2), (2, 1), (2, 3), (1, 4)] Try_mixed (by kernel_rfl) (fun w55 hk56 => ?_)
    have ht57 := Kp.tr hk56 hA hB
    replace hH := Hp.kp hH hk56
    replace h4 := El.tr h4 ht57
    replace h33 := El.tr h33 ht57
    replace hK := Tr.trans hK ht57
    replace hB := Nat.le_trans hB ht57.ex.size
    replace hA := ht57.new
    refine CH_q2 rfl ?_
    refine VQ_y (fun w' hw' => Y_move rfl) rfl rfl rfl ?_
    refine VQ_CH ?_
    refine CH_q2 rfl ?_
    obtain ⟨v58, v60, h62, h59, h61⟩ := El_portref2_ratio h33
    refine VQ_y (fun w' hw' => Y_loadA (At.same h62 (hw'.2 _ h33.2.1 h33.1)) Try.isAgg58 Try.sizeOf58 rfl) rfl rfl rfl ?_
    refine VQ_CH ?_
    refine CH_l1 (k := 0) rfl ?_
    obtain ⟨x63, hx63, hm⟩ := Option.bind_eq_some_iff.1 hm
    refine V_call Try.call30 rfl rfl rfl rfl (portref2_rat_c w55 hA n 1 hx63) ?_
    rintro _ w68 ⟨v64, v66, rfl, h65, h67, hk69⟩
    have ht70 := Kp.tr hk69 hA hB
    replace hH := Hp.kp hH hk69
    replace h4 := El.tr h4 ht70
    replace h33 := El.tr h33 ht70
    replace h59 := Sl.tr h59 ht70
    replace h61 := Sl.tr h61 ht70
    replace hK := Tr.trans hK ht70
    replace hB := Nat.le_trans hB ht70.ex.size
    replace hA := ht70.new
    refine V_CH (hk69) ?_
    refine CH_l1 (k := 0) rfl ?_
    obtain ⟨x71, hx71, hm⟩ := Option.bind_eq_some_iff.1 hm
    refine V_call Try.call29 rfl rfl rfl rfl (portref2_ratio_cmp_c w68 hA x63 v64 h65 v66 h67 x14 v58 h59 v60 h61 hx71) ?_
    rintro _ w72 ⟨rfl, hk73⟩
    have ht74 := Kp.tr hk73 hA hB
    replace hH := Hp.kp hH hk73
    replace h4 := El.tr h4 ht74
    replace h33 := El.tr h33 ht74
    replace h59 := Sl.tr h59 ht74
    replace h61 := Sl.tr h61 ht74
    replace h65 := Sl.tr h65 ht74
    replace h67 := Sl.tr h67 ht74
    replace hK := Tr.trans hK ht74
    replace hB := Nat.le_trans hB ht74.ex.size
    replace hA := ht74.new
    refine V_CH (hk73) ?_
    refine CH_q2 rfl ?_
    refine VQ_y (fun w' hw' => Y_leq rfl rfl) rfl rfl rfl ?_
    refine VQ_CH ?_
    refine CH_tail ?_
    show V _ _ _ _ [] _ _
    refine V_to (fun _ _ => rfl) ?_
    refine C_cond rfl (fun hc75 => ?_) (fun hc75 => ?_)
    · rw [if_pos hc75] at hm
      refine C_seq ?_
      refine C_region ?_
      obtain ⟨x76, hx76, hm⟩ := Option.bind_eq_some_iff.1 hm
      refine V_call Try.call30 rfl rfl rfl rfl (portref2_rat_c w72 hA 1 1 hx76) ?_
      rintro _ w81 ⟨v77, v79, rfl, h78, h80, hk82⟩
      have ht83 := Kp.tr hk82 hA hB
      replace hH := Hp.kp hH hk82
      replace h4 := El.tr h4 ht83
      replace h33 := El.tr h33 ht83
      replace hK := Tr.trans hK ht83
      replace hB := Nat.le_trans hB ht83.ex.size
      replace hA := ht83.new
      have h89 : (v77).oneCell' = true := by obtain ⟨_, _, e, _⟩ := Sl.form h78; rw [e]; rfl
      have h92 : (v79).oneCell' = true := by obtain ⟨_, _, e, _⟩ := Sl.form h80; rw [e]; rfl
      refine V_storeC (off := 0) (ds := [v77, v79]) hH (i := 0) rfl Try.sizeOf58 rfl (Nat.le_of_ble_eq_true rfl) (by exact (List.forall_mem_cons.2 ⟨h89, (List.forall_mem_cons.2 ⟨h92, (fun _ h => nomatch h)⟩)⟩)) rfl hB hA rfl rfl ?_
      intro w84 hH85 ht86
      replace h4 := El.tr h4 ht86
      replace h33 := El.tr h33 ht86
      replace h78 := Sl.tr h78 ht86
      replace h80 := Sl.tr h80 ht86
      replace hK := Tr.trans hK ht86
      replace hB := Nat.le_trans hB ht86.ex.size
      replace hA := ht86.new
      replace hH : Hp w.heap.size A10 w84 (obC b7 [v77, v79] 58 :: []) := hH85
      refine V_to (fun _ _ => rfl) ?_
      obtain rfl := Option.some.inj hm
      refine C_ret ?_
      try simp only [↓inBlock_ret, ↓then_ret]
      exact retQ rfl (Res.l1 Try.results28 (RL.cell rfl (loadVar_agg (Hp.part (off := 0) (n := 2) (ds := [v77, v79]) hH (i := 0) rfl rfl) Try.isAgg58 Try.sizeOf58))) ⟨v77, v79, rfl, (Sl.out h78 hA0 hK), (Sl.out h80 hA0 hK), hK.kp⟩
    · rw [if_neg (nt hc75)] at hm
      refine C_skip_to (fun _ _ => rfl) ?_
      refine C_seq ?_
      refine C_region ?_
      obtain ⟨h93, _⟩ := El_staff_Load h4
      refine V_y (Y_loadA h93 Try.isAgg23 Try.sizeOf23 rfl) rfl rfl rfl ?_
      refine V_y (Y_move rfl) rfl rfl rfl ?_
      obtain ⟨x94, hx94, hm⟩ := Option.bind_eq_some_iff.1 hm
      refine V_call Try.call42 rfl rfl rfl rfl (portref2_blocked_c w72 hA l n hx94) ?_
      rintro _ w99 ⟨v95, v97, rfl, h96, h98, hk100⟩
      have ht101 := Kp.tr hk100 hA hB
      replace hH := Hp.kp hH hk100
      replace h4 := El.tr h4 ht101
      replace h33 := El.tr h33 ht101
      replace hK := Tr.trans hK ht101
      replace hB := Nat.le_trans hB ht101.ex.size
      replace hA := ht101.new
      refine V_alloc Try.zeroValue58 rfl ?_
      intro b102 w103 h104
      have h109 : (v95).oneCell' = true := by obtain ⟨_, _, e, _⟩ := Sl.form h96; rw [e]; rfl
      have h112 : (v97).oneCell' = true := by obtain ⟨_, _, e, _⟩ := Sl.form h98; rw [e]; rfl
      refine V_storeNew h104 Try.sizeOf58 rfl rfl rfl rfl (by exact (List.forall_mem_cons.2 ⟨h109, (List.forall_mem_cons.2 ⟨h112, (fun _ h => nomatch h)⟩)⟩)) ?_
      intro w105 h106
      have hk114 := h106.kp
      have h113 : El (α := portref2_ratio) A10 w105 b102 0 x94 := h106.el hA ⟨[v95], _, rfl, ⟨_, rfl, h96⟩, ⟨_, rfl, h98⟩⟩
      have ht115 := Kp.tr hk114 hA hB
      replace hH := Hp.kp hH hk114
      replace h4 := El.tr h4 ht115
      replace h33 := El.tr h33 ht115
      replace h96 := Sl.tr h96 ht115
      replace h98 := Sl.tr h98 ht115
      replace hK := Tr.trans hK ht115
      replace hB := Nat.le_trans hB ht115.ex.size
      replace hA := ht115.new
      refine V_to (fun _ _ => rfl) ?_
      refine C_seq ?_
      refine C_region_chz A10 8 [(1, 1), (1, 3), (1, 5), (2, 0), (2, 2), (2, 4), (2, 6), (2, 7)] [(4, 9)] Try_mixed (by kernel_rfl) (fun w116 hk117 => ?_)
      have ht118 := Kp.tr hk117 hA hB
      replace hH := Hp.kp hH hk117
      replace h33 := El.tr h33 ht118
      replace h113 := El.tr h113 ht118
      replace hK := Tr.trans hK ht118
      replace hB := Nat.le_trans hB ht118.ex.size
      replace hA := ht118.new
      refine CHZ_q2 rfl ?_
      obtain ⟨v119, v121, h123, h120, h122⟩ := El_portref2_ratio h113
      refine VQ_y (fun w' hw' => Y_loadA (At.same h123 (hw'.2 _ h113.2.1 h113.1)) Try.isAgg58 Try.sizeOf58 rfl) rfl rfl rfl ?_
      refine VQ_CHZ ?_
      refine CHZ_q2 rfl ?_
      obtain ⟨v124, v126, h128, h125, h127⟩ := El_portref2_ratio h33
      refine VQ_y (fun w' hw' => Y_loadA (At.same h128 (hw'.2 _ h33.2.1 h33.1)) Try.isAgg58 Try.sizeOf58 rfl) rfl rfl rfl ?_
      refine VQ_CHZ ?_
      refine CHZ_q2 rfl ?_
      refine VQ_y (fun w' hw' => Y_move rfl) rfl rfl rfl ?_
      refine VQ_CHZ ?_
      refine CHZ_l1 (k := 0) [(2, 8), (2, 0), (2, 2), (2, 4), (2, 6), (2, 7), (4, 9)] rfl ?_ rfl ?_
      · refine CH_l1 (k := 0) rfl ?_
        refine V_allocHk (B := w.heap.size) hH Try.zeroValue58 hB hA rfl ?_
        intro b129 w130 A131 hk134 hH132 ht133
        replace h33 := El.tr h33 ht133
        replace h113 := El.tr h113 ht133
        replace h120 := Sl.tr h120 ht133
        replace h122 := Sl.tr h122 ht133
        replace h125 := Sl.tr h125 ht133
        replace h127 := Sl.tr h127 ht133
        replace hK := Tr.trans hK ht133
        replace hB := Nat.le_trans hB ht133.ex.size
        replace hA := ht133.new
        replace hH : Hp w.heap.size A131 w130 (obC b129 [.slice none 0 0, .slice none 0 0] 58 :: obC b7 [.slice none 0 0, .slice none 0 0] 58 :: []) := hH132
        refine V_CH (hk134) ?_
        refine CH_l1 (k := 0) rfl ?_
        obtain ⟨x135, hx135, hm⟩ := Option.bind_eq_some_iff.1 hm
        refine V_call Try.call30 rfl rfl rfl rfl (portref2_rat_c w130 hA 1 1 hx135) ?_
        rintro _ w140 ⟨v136, v138, rfl, h137, h139, hk141⟩
        have ht142 := Kp.tr hk141 hA hB
        replace hH := Hp.kp hH hk141
        replace h33 := El.tr h33 ht142
        replace h113 := El.tr h113 ht142
        replace h120 := Sl.tr h120 ht142
        replace h122 := Sl.tr h122 ht142
        replace h125 := Sl.tr h125 ht142
        replace h127 := Sl.tr h127 ht142
        replace hK := Tr.trans hK ht142
        replace hB := Nat.le_trans hB ht142.ex.size
        replace hA := ht142.new
        refine V_CH (hk141) ?_
        refine CH_l1 (k := 0) rfl ?_
        obtain ⟨x143, hx143, hm⟩ := Option.bind_eq_some_iff.1 hm
        refine V_call Try.call41 rfl rfl rfl rfl (portref2_ratio_minus_c w140 hA x135 v136 h137 v138 h139 x94 v119 h120 v121 h122 hx143) ?_
        rintro _ w148 ⟨v144, v146, rfl, h145, h147, hk149⟩
        have ht150 := Kp.tr hk149 hA hB
        replace hH := Hp.kp hH hk149
        replace h33 := El.tr h33 ht150
        replace h113 := El.tr h113 ht150
        replace h120 := Sl.tr h120 ht150
        replace h122 := Sl.tr h122 ht150
        replace h125 := Sl.tr h125 ht150
        replace h127 := Sl.tr h127 ht150
        replace h137 := Sl.tr h137 ht150
        replace h139 := Sl.tr h139 ht150
        replace hK := Tr.trans hK ht150
        replace hB := Nat.le_trans hB ht150.ex.size
        replace hA := ht150.new
        refine V_CH (hk149) ?_
        refine CH_l1 (k := 0) rfl ?_
        obtain ⟨x151, hx151, hm⟩ := Option.bind_eq_some_iff.1 hm
        refine V_call Try.call39 rfl rfl rfl rfl (portref2_ratio_times_c w148 hA x143 v144 h145 v146 h147 x14 v124 h125 v126 h127 hx151) ?_
        rintro _ w156 ⟨v152, v154, rfl, h153, h155, hk157⟩
        have ht158 := Kp.tr hk157 hA hB
        replace hH := Hp.kp hH hk157
        replace h33 := El.tr h33 ht158
        replace h113 := El.tr h113 ht158
        replace h120 := Sl.tr h120 ht158
        replace h122 := Sl.tr h122 ht158
        replace h125 := Sl.tr h125 ht158
        replace h127 := Sl.tr h127 ht158
        replace h137 := Sl.tr h137 ht158
        replace h139 := Sl.tr h139 ht158
        replace h145 := Sl.tr h145 ht158
        replace h147 := Sl.tr h147 ht158
        replace hK := Tr.trans hK ht158
        replace hB := Nat.le_trans hB ht158.ex.size
        replace hA := ht158.new
        refine V_CH (hk157) ?_
        refine CH_l1 (k := 0) rfl ?_
        obtain ⟨x159, hx159, hm⟩ := Option.bind_eq_some_iff.1 hm
        refine V_call Try.call30 rfl rfl rfl rfl (portref2_rat_c w156 hA n 1 hx159) ?_
        rintro _ w164 ⟨v160, v162, rfl, h161, h163, hk165⟩
        have ht166 := Kp.tr hk165 hA hB
        replace hH := Hp.kp hH hk165
        replace h33 := El.tr h33 ht166
        replace h113 := El.tr h113 ht166
        replace h120 := Sl.tr h120 ht166
        replace h122 := Sl.tr h122 ht166
        replace h125 := Sl.tr h125 ht166
        replace h127 := Sl.tr h127 ht166
        replace h137 := Sl.tr h137 ht166
        replace h139 := Sl.tr h139 ht166
        replace h145 := Sl.tr h145 ht166
        replace h147 := Sl.tr h147 ht166
        replace h153 := Sl.tr h153 ht166
        replace h155 := Sl.tr h155 ht166
        replace hK := Tr.trans hK ht166
        replace hB := Nat.le_trans hB ht166.ex.size
        replace hA := ht166.new
        refine V_CH (hk165) ?_
        refine CH_l1 (k := 0) rfl ?_
        obtain ⟨x167, hx167, hm⟩ := Option.bind_eq_some_iff.1 hm
        refine V_call Try.call40 rfl rfl rfl rfl (portref2_ratio_by_c w164 hA x151 v152 h153 v154 h155 x159 v160 h161 v162 h163 hx167) ?_
        rintro _ w172 ⟨v168, v170, rfl, h169, h171, hk173⟩
        have ht174 := Kp.tr hk173 hA hB
        replace hH := Hp.kp hH hk173
        replace h33 := El.tr h33 ht174
        replace h113 := El.tr h113 ht174
        replace h120 := Sl.tr h120 ht174
        replace h122 := Sl.tr h122 ht174
        replace h125 := Sl.tr h125 ht174
        replace h127 := Sl.tr h127 ht174
        replace h137 := Sl.tr h137 ht174
        replace h139 := Sl.tr h139 ht174
        replace h145 := Sl.tr h145 ht174
        replace h147 := Sl.tr h147 ht174
        replace h153 := Sl.tr h153 ht174
        replace h155 := Sl.tr h155 ht174
        replace h161 := Sl.tr h161 ht174
        replace h163 := Sl.tr h163 ht174
        replace hK := Tr.trans hK ht174
        replace hB := Nat.le_trans hB ht174.ex.size
        replace hA := ht174.new
        refine V_CH (hk173) ?_
        refine CH_l1 (k := 2) rfl ?_
        have h180 : (v168).oneCell' = true := by obtain ⟨_, _, e, _⟩ := Sl.form h169; rw [e]; rfl
        have h183 : (v170).oneCell' = true := by obtain ⟨_, _, e, _⟩ := Sl.form h171; rw [e]; rfl
        refine V_storeC (off := 0) (ds := [v168, v170]) hH (i := 0) rfl Try.sizeOf58 rfl (Nat.le_of_ble_eq_true rfl) (by exact (List.forall_mem_cons.2 ⟨h180, (List.forall_mem_cons.2 ⟨h183, (fun _ h => nomatch h)⟩)⟩)) rfl hB hA rfl rfl ?_
        intro w175 hH176 ht177
        replace h33 := El.tr h33 ht177
        replace h113 := El.tr h113 ht177
        replace h120 := Sl.tr h120 ht177
        replace h122 := Sl.tr h122 ht177
        replace h125 := Sl.tr h125 ht177
        replace h127 := Sl.tr h127 ht177
        replace h137 := Sl.tr h137 ht177
        replace h139 := Sl.tr h139 ht177
        replace h145 := Sl.tr h145 ht177
        replace h147 := Sl.tr h147 ht177
        replace h153 := Sl.tr h153 ht177
        replace h155 := Sl.tr h155 ht177
        replace h161 := Sl.tr h161 ht177
        replace h163 := Sl.tr h163 ht177
        replace h169 := Sl.tr h169 ht177
        replace h171 := Sl.tr h171 ht177
        replace hK := Tr.trans hK ht177
        replace hB := Nat.le_trans hB ht177.ex.size
        replace hA := ht177.new
        replace hH : Hp w.heap.size A131 w175 (obC b129 [v168, v170] 58 :: obC b7 [.slice none 0 0, .slice none 0 0] 58 :: []) := hH176
        obtain ⟨A184, ht185, h186, hH187⟩ := Hp.freezeC (α := portref2_ratio) (x := x167) hH (i := 0) rfl hA (by exact ⟨[v168], _, rfl, ⟨_, rfl, h169⟩, ⟨_, rfl, h171⟩⟩)
        replace h33 := El.tr h33 ht185
        replace h113 := El.tr h113 ht185
        replace h120 := Sl.tr h120 ht185
        replace h122 := Sl.tr h122 ht185
        replace h125 := Sl.tr h125 ht185
        replace h127 := Sl.tr h127 ht185
        replace h137 := Sl.tr h137 ht185
        replace h139 := Sl.tr h139 ht185
        replace h145 := Sl.tr h145 ht185
        replace h147 := Sl.tr h147 ht185
        replace h153 := Sl.tr h153 ht185
        replace h155 := Sl.tr h155 ht185
        replace h161 := Sl.tr h161 ht185
        replace h163 := Sl.tr h163 ht185
        replace h169 := Sl.tr h169 ht185
        replace h171 := Sl.tr h171 ht185
        replace hK := Tr.trans hK ht185
        replace hB := Nat.le_trans hB ht185.ex.size
        replace hA := ht185.new
        replace hH : Hp w.heap.size A184 w175 (obC b7 [.slice none 0 0, .slice none 0 0] 58 :: []) := hH187
        refine V_CHw ?_
        refine CH_tail ?_
        show V _ _ _ _ [] _ _
        refine V_to (fun _ _ => rfl) ?_
        refine C_seq ?_
        refine C_region_ch A184 6 [(1, 0), (1, 2), (2, 1), (2, 3), (2, 4), (4, 5)] Try_mixed (by kernel_rfl) (fun w188 hk189 => ?_)
        have ht190 := Kp.tr hk189 hA hB
        replace hH := Hp.kp hH hk189
        replace h113 := El.tr h113 ht190
        replace h186 := El.tr h186 ht190
        replace hK := Tr.trans hK ht190
        replace hB := Nat.le_trans hB ht190.ex.size
        replace hA := ht190.new
        refine CH_q2 rfl ?_
        obtain ⟨v191, v193, h195, h192, h194⟩ := El_portref2_ratio h113
        refine VQ_y (fun w' hw' => Y_loadA (At.same h195 (hw'.2 _ h113.2.1 h113.1)) Try.isAgg58 Try.sizeOf58 rfl) rfl rfl rfl ?_
        refine VQ_CH ?_
        refine CH_q2 rfl ?_
        obtain ⟨v196, v198, h200, h197, h199⟩ := El_portref2_ratio h186
        refine VQ_y (fun w' hw' => Y_loadA (At.same h200 (hw'.2 _ h186.2.1 h186.1)) Try.isAgg58 Try.sizeOf58 rfl) rfl rfl rfl ?_
        refine VQ_CH ?_
        refine CH_l1 (k := 0) rfl ?_
        obtain ⟨x201, hx201, hm⟩ := Option.bind_eq_some_iff.1 hm
        refine V_call Try.call30 rfl rfl rfl rfl (portref2_rat_c w188 hA 1 1 hx201) ?_
        rintro _ w206 ⟨v202, v204, rfl, h203, h205, hk207⟩
        have ht208 := Kp.tr hk207 hA hB
        replace hH := Hp.kp hH hk207
        replace h113 := El.tr h113 ht208
        replace h186 := El.tr h186 ht208
        replace h192 := Sl.tr h192 ht208
        replace h194 := Sl.tr h194 ht208
        replace h197 := Sl.tr h197 ht208
        replace h199 := Sl.tr h199 ht208
        replace hK := Tr.trans hK ht208
        replace hB := Nat.le_trans hB ht208.ex.size
        replace hA := ht208.new
        refine V_CH (hk207) ?_
        refine CH_l1 (k := 0) rfl ?_
        obtain ⟨x209, hx209, hm⟩ := Option.bind_eq_some_iff.1 hm
        refine V_call Try.call41 rfl rfl rfl rfl (portref2_ratio_minus_c w206 hA x201 v202 h203 v204 h205 x167 v196 h197 v198 h199 hx209) ?_
        rintro _ w214 ⟨v210, v212, rfl, h211, h213, hk215⟩
        have ht216 := Kp.tr hk215 hA hB
        replace hH := Hp.kp hH hk215
        replace h113 := El.tr h113 ht216
        replace h186 := El.tr h186 ht216
        replace h192 := Sl.tr h192 ht216
        replace h194 := Sl.tr h194 ht216
        replace h197 := Sl.tr h197 ht216
        replace h199 := Sl.tr h199 ht216
        replace h203 := Sl.tr h203 ht216
        replace h205 := Sl.tr h205 ht216
        replace hK := Tr.trans hK ht216
        replace hB := Nat.le_trans hB ht216.ex.size
        replace hA := ht216.new
        refine V_CH (hk215) ?_
        refine CH_l1 (k := 0) rfl ?_
        obtain ⟨x217, hx217, hm⟩ := Option.bind_eq_some_iff.1 hm
        refine V_call Try.call40 rfl rfl rfl rfl (portref2_ratio_by_c w214 hA x94 v191 h192 v193 h194 x209 v210 h211 v212 h213 hx217) ?_
        rintro _ w222 ⟨v218, v220, rfl, h219, h221, hk223⟩
        have ht224 := Kp.tr hk223 hA hB
        replace hH := Hp.kp hH hk223
        replace h113 := El.tr h113 ht224
        replace h186 := El.tr h186 ht224
        replace h192 := Sl.tr h192 ht224
        replace h194 := Sl.tr h194 ht224
        replace h197 := Sl.tr h197 ht224
        replace h199 := Sl.tr h199 ht224
        replace h203 := Sl.tr h203 ht224
        replace h205 := Sl.tr h205 ht224
        replace h211 := Sl.tr h211 ht224
        replace h213 := Sl.tr h213 ht224
        replace hK := Tr.trans hK ht224
        replace hB := Nat.le_trans hB ht224.ex.size
        replace hA := ht224.new
        refine V_CH (hk223) ?_
        refine CH_l1 (k := 2) rfl ?_
        have h230 : (v218).oneCell' = true := by obtain ⟨_, _, e, _⟩ := Sl.form h219; rw [e]; rfl
        have h233 : (v220).oneCell' = true := by obtain ⟨_, _, e, _⟩ := Sl.form h221; rw [e]; rfl
        refine V_storeC (off := 0) (ds := [v218, v220]) hH (i := 0) rfl Try.sizeOf58 rfl (Nat.le_of_ble_eq_true rfl) (by exact (List.forall_mem_cons.2 ⟨h230, (List.forall_mem_cons.2 ⟨h233, (fun _ h => nomatch h)⟩)⟩)) rfl hB hA rfl rfl ?_
        intro w225 hH226 ht227
        replace h113 := El.tr h113 ht227
        replace h186 := El.tr h186 ht227
        replace h192 := Sl.tr h192 ht227
        replace h194 := Sl.tr h194 ht227
        replace h197 := Sl.tr h197 ht227
        replace h199 := Sl.tr h199 ht227
        replace h203 := Sl.tr h203 ht227
        replace h205 := Sl.tr h205 ht227
        replace h211 := Sl.tr h211 ht227
        replace h213 := Sl.tr h213 ht227
        replace h219 := Sl.tr h219 ht227
        replace h221 := Sl.tr h221 ht227
        replace hK := Tr.trans hK ht227
        replace hB := Nat.le_trans hB ht227.ex.size
        replace hA := ht227.new
        replace hH : Hp w.heap.size A184 w225 (obC b7 [v218, v220] 58 :: []) := hH226
        refine V_CHw ?_
        refine CH_tail ?_
        show V _ _ _ _ [] _ _
        refine V_to (fun _ _ => rfl) ?_
        obtain rfl := Option.some.inj hm
        refine C_ret ?_
        try simp only [↓inBlock_ret, ↓then_ret]
        exact retQ rfl (Res.l1 Try.results28 (RL.cell rfl (loadVar_agg (Hp.part (off := 0) (n := 2) (ds := [v218, v220]) hH (i := 0) rfl rfl) Try.isAgg58 Try.sizeOf58))) ⟨v218, v220, rfl, (Sl.out h219 hA0 hK), (Sl.out h221 hA0 hK), hK.kp⟩
      obtain ⟨x234, hx234, hm⟩ := Option.bind_eq_some_iff.1 hm
      refine V_call Try.call30 rfl rfl rfl rfl (portref2_rat_c w116 hA 1 1 hx234) ?_
      rintro _ w239 ⟨v235, v237, rfl, h236, h238, hk240⟩
      have ht241 := Kp.tr hk240 hA hB
      replace hH := Hp.kp hH hk240
      replace h33 := El.tr h33 ht241
      replace h113 := El.tr h113 ht241
      replace h120 := Sl.tr h120 ht241
      replace h122 := Sl.tr h122 ht241
      replace h125 := Sl.tr h125 ht241
      replace h127 := Sl.tr h127 ht241
      replace hK := Tr.trans hK ht241
      replace hB := Nat.le_trans hB ht241.ex.size
      replace hA := ht241.new
      refine V_CHZ (hk240) ?_
      refine CHZ_l1 (k := 0) [(2, 8), (2, 2), (2, 4), (2, 6), (2, 7), (4, 9)] rfl ?_ rfl ?_
      · refine CH_l1 (k := 0) rfl ?_
        refine V_allocHk (B := w.heap.size) hH Try.zeroValue58 hB hA rfl ?_
        intro b242 w243 A244 hk247 hH245 ht246
        replace h33 := El.tr h33 ht246
        replace h113 := El.tr h113 ht246
        replace h120 := Sl.tr h120 ht246
        replace h122 := Sl.tr h122 ht246
        replace h125 := Sl.tr h125 ht246
        replace h127 := Sl.tr h127 ht246
        replace h236 := Sl.tr h236 ht246
        replace h238 := Sl.tr h238 ht246
        replace hK := Tr.trans hK ht246
        replace hB := Nat.le_trans hB ht246.ex.size
        replace hA := ht246.new
        replace hH : Hp w.heap.size A244 w243 (obC b242 [.slice none 0 0, .slice none 0 0] 58 :: obC b7 [.slice none 0 0, .slice none 0 0] 58 :: []) := hH245
        refine V_CH (hk247) ?_
        refine CH_l1 (k := 0) rfl ?_
        obtain ⟨x248, hx248, hm⟩ := Option.bind_eq_some_iff.1 hm
        refine V_call Try.call41 rfl rfl rfl rfl (portref2_ratio_minus_c w243 hA x234 v235 h236 v237 h238 x94 v119 h120 v121 h122 hx248) ?_
        rintro _ w253 ⟨v249, v251, rfl, h250, h252, hk254⟩
        have ht255 := Kp.tr hk254 hA hB
        replace hH := Hp.kp hH hk254
        replace h33 := El.tr h33 ht255
        replace h113 := El.tr h113 ht255
        replace h120 := Sl.tr h120 ht255
        replace h122 := Sl.tr h122 ht255
        replace h125 := Sl.tr h125 ht255
        replace h127 := Sl.tr h127 ht255
        replace h236 := Sl.tr h236 ht255
        replace h238 := Sl.tr h238 ht255
        replace hK := Tr.trans hK ht255
        replace hB := Nat.le_trans hB ht255.ex.size
        replace hA := ht255.new
        refine V_CH (hk254) ?_
        refine CH_l1 (k := 0) rfl ?_
        obtain ⟨x256, hx256, hm⟩ := Option.bind_eq_some_iff.1 hm
        refine V_call Try.call39 rfl rfl rfl rfl (portref2_ratio_times_c w253 hA x248 v249 h250 v251 h252 x14 v124 h125 v126 h127 hx256) ?_
        rintro _ w261 ⟨v257, v259, rfl, h258, h260, hk262⟩
        have ht263 := Kp.tr hk262 hA hB
        replace hH := Hp.kp hH hk262
        replace h33 := El.tr h33 ht263
        replace h113 := El.tr h113 ht263
        replace h120 := Sl.tr h120 ht263
        replace h122 := Sl.tr h122 ht263
        replace h125 := Sl.tr h125 ht263
        replace h127 := Sl.tr h127 ht263
        replace h236 := Sl.tr h236 ht263
        replace h238 := Sl.tr h238 ht263
        replace h250 := Sl.tr h250 ht263
        replace h252 := Sl.tr h252 ht263
        replace hK := Tr.trans hK ht263
        replace hB := Nat.le_trans hB ht263.ex.size
        replace hA := ht263.new
        refine V_CH (hk262) ?_
        refine CH_l1 (k := 0) rfl ?_
        obtain ⟨x264, hx264, hm⟩ := Option.bind_eq_some_iff.1 hm
        refine V_call Try.call30 rfl rfl rfl rfl (portref2_rat_c w261 hA n 1 hx264) ?_
        rintro _ w269 ⟨v265, v267, rfl, h266, h268, hk270⟩
        have ht271 := Kp.tr hk270 hA hB
        replace hH := Hp.kp hH hk270
        replace h33 := El.tr h33 ht271
        replace h113 := El.tr h113 ht271
        replace h120 := Sl.tr h120 ht271
        replace h122 := Sl.tr h122 ht271
        replace h125 := Sl.tr h125 ht271
        replace h127 := Sl.tr h127 ht271
        replace h236 := Sl.tr h236 ht271
        replace h238 := Sl.tr h238 ht271
        replace h250 := Sl.tr h250 ht271
        replace h252 := Sl.tr h252 ht271
        replace h258 := Sl.tr h258 ht271
        replace h260 := Sl.tr h260 ht271
        replace hK := Tr.trans hK ht271
        replace hB := Nat.le_trans hB ht271.ex.size
        replace hA := ht271.new
        refine V_CH (hk270) ?_
        refine CH_l1 (k := 0) rfl ?_
        obtain ⟨x272, hx272, hm⟩ := Option.bind_eq_some_iff.1 hm
        refine V_call Try.call40 rfl rfl rfl rfl (portref2_ratio_by_c w269 hA x256 v257 h258 v259 h260 x264 v265 h266 v267 h268 hx272) ?_
        rintro _ w277 ⟨v273, v275, rfl, h274, h276, hk278⟩
        have ht279 := Kp.tr hk278 hA hB
        replace hH := Hp.kp hH hk278
        replace h33 := El.tr h33 ht279
        replace h113 := El.tr h113 ht279
        replace h120 := Sl.tr h120 ht279
        replace h122 := Sl.tr h122 ht279
        replace h125 := Sl.tr h125 ht279
        replace h127 := Sl.tr h127 ht279
        replace h236 := Sl.tr h236 ht279
        replace h238 := Sl.tr h238 ht279
        replace h250 := Sl.tr h250 ht279
        replace h252 := Sl.tr h252 ht279
        replace h258 := Sl.tr h258 ht279
        replace h260 := Sl.tr h260 ht279
        replace h266 := Sl.tr h266 ht279
        replace h268 := Sl.tr h268 ht279
        replace hK := Tr.trans hK ht279
        replace hB := Nat.le_trans hB ht279.ex.size
        replace hA := ht279.new
        refine V_CH (hk278) ?_
        refine CH_l1 (k := 2) rfl ?_
        have h285 : (v273).oneCell' = true := by obtain ⟨_, _, e, _⟩ := Sl.form h274; rw [e]; rfl
        have h288 : (v275).oneCell' = true := by obtain ⟨_, _, e, _⟩ := Sl.form h276; rw [e]; rfl
        refine V_storeC (off := 0) (ds := [v273, v275]) hH (i := 0) rfl Try.sizeOf58 rfl (Nat.le_of_ble_eq_true rfl) (by exact (List.forall_mem_cons.2 ⟨h285, (List.forall_mem_cons.2 ⟨h288, (fun _ h => nomatch h)⟩)⟩)) rfl hB hA rfl rfl ?_
        intro w280 hH281 ht282
        replace h33 := El.tr h33 ht282
        replace h113 := El.tr h113 ht282
        replace h120 := Sl.tr h120 ht282
        replace h122 := Sl.tr h122 ht282
        replace h125 := Sl.tr h125 ht282
        replace h127 := Sl.tr h127 ht282
        replace h236 := Sl.tr h236 ht282
        replace h238 := Sl.tr h238 ht282
        replace h250 := Sl.tr h250 ht282
        replace h252 := Sl.tr h252 ht282
        replace h258 := Sl.tr h258 ht282
        replace h260 := Sl.tr h260 ht282
        replace h266 := Sl.tr h266 ht282
        replace h268 := Sl.tr h268 ht282
        replace h274 := Sl.tr h274 ht282
        replace h276 := Sl.tr h276 ht282
        replace hK := Tr.trans hK ht282
        replace hB := Nat.le_trans hB ht282.ex.size
        replace hA := ht282.new
        replace hH : Hp w.heap.size A244 w280 (obC b242 [v273, v275] 58 :: obC b7 [.slice none 0 0, .slice none 0 0] 58 :: []) := hH281
        obtain ⟨A289, ht290, h291, hH292⟩ := Hp.freezeC (α := portref2_ratio) (x := x272) hH (i := 0) rfl hA (by exact ⟨[v273], _, rfl, ⟨_, rfl, h274⟩, ⟨_, rfl, h276⟩⟩)
        replace h33 := El.tr h33 ht290
        replace h113 := El.tr h113 ht290
        replace h120 := Sl.tr h120 ht290
        replace h122 := Sl.tr h122 ht290
        replace h125 := Sl.tr h125 ht290
        replace h127 := Sl.tr h127 ht290
        replace h236 := Sl.tr h236 ht290
        replace h238 := Sl.tr h238 ht290
        replace h250 := Sl.tr h250 ht290
        replace h252 := Sl.tr h252 ht290
        replace h258 := Sl.tr h258 ht290
        replace h260 := Sl.tr h260 ht290
        replace h266 := Sl.tr h266 ht290
        replace h268 := Sl.tr h268 ht290
        replace h274 := Sl.tr h274 ht290
        replace h276 := Sl.tr h276 ht290
        replace hK := Tr.trans hK ht290
        replace hB := Nat.le_trans hB ht290.ex.size
        replace hA := ht290.new
        replace hH : Hp w.heap.size A289 w280 (obC b7 [.slice none 0 0, .slice none 0 0] 58 :: []) := hH292
        refine V_CHw ?_
        refine CH_tail ?_
        show V _ _ _ _ [] _ _
        refine V_to (fun _ _ => rfl) ?_
        refine C_seq ?_
        refine C_region_ch A289 6 [(1, 0), (1, 2), (2, 1), (2, 3), (2, 4), (4, 5)] Try_mixed (by kernel_rfl) (fun w293 hk294 => ?_)
        have ht295 := Kp.tr hk294 hA hB
        replace hH := Hp.kp hH hk294
        replace h113 := El.tr h113 ht295
        replace h291 := El.tr h291 ht295
        replace hK := Tr.trans hK ht295
        replace hB := Nat.le_trans hB ht295.ex.size
        replace hA := ht295.new
        refine CH_q2 rfl ?_
        obtain ⟨v296, v298, h300, h297, h299⟩ := El_portref2_ratio h113
        refine VQ_y (fun w' hw' => Y_loadA (At.same h300 (hw'.2 _ h113.2.1 h113.1)) Try.isAgg58 Try.sizeOf58 rfl) rfl rfl rfl ?_
        refine VQ_CH ?_
        refine CH_q2 rfl ?_
        obtain ⟨v301, v303, h305, h302, h304⟩ := El_portref2_ratio h291
        refine VQ_y (fun w' hw' => Y_loadA (At.same h305 (hw'.2 _ h291.2.1 h291.1)) Try.isAgg58 Try.sizeOf58 rfl) rfl rfl rfl ?_
        refine VQ_CH ?_
        refine CH_l1 (k := 0) rfl ?_
        obtain ⟨x306, hx306, hm⟩ := Option.bind_eq_some_iff.1 hm
        refine V_call Try.call30 rfl rfl rfl rfl (portref2_rat_c w293 hA 1 1 hx306) ?_
        rintro _ w311 ⟨v307, v309, rfl, h308, h310, hk312⟩
        have ht313 := Kp.tr hk312 hA hB
        replace hH := Hp.kp hH hk312
        replace h113 := El.tr h113 ht313
        replace h291 := El.tr h291 ht313
        replace h297 := Sl.tr h297 ht313
        replace h299 := Sl.tr h299 ht313
        replace h302 := Sl.tr h302 ht313
        replace h304 := Sl.tr h304 ht313
        replace hK := Tr.trans hK ht313
        replace hB := Nat.le_trans hB ht313.ex.size
        replace hA := ht313.new
        refine V_CH (hk312) ?_
        refine CH_l1 (k := 0) rfl ?_
        obtain ⟨x314, hx314, hm⟩ := Option.bind_eq_some_iff.1 hm
        refine V_call Try.call41 rfl rfl rfl rfl (portref2_ratio_minus_c w311 hA x306 v307 h308 v309 h310 x272 v301 h302 v303 h304 hx314) ?_
        rintro _ w319 ⟨v315, v317, rfl, h316, h318, hk320⟩
        have ht321 := Kp.tr hk320 hA hB
        replace hH := Hp.kp hH hk320
        replace h113 := El.tr h113 ht321
        replace h291 := El.tr h291 ht321
        replace h297 := Sl.tr h297 ht321
        replace h299 := Sl.tr h299 ht321
        replace h302 := Sl.tr h302 ht321
        replace h304 := Sl.tr h304 ht321
        replace h308 := Sl.tr h308 ht321
        replace h310 := Sl.tr h310 ht321
        replace hK := Tr.trans hK ht321
        replace hB := Nat.le_trans hB ht321.ex.size
        replace hA := ht321.new
        refine V_CH (hk320) ?_
        refine CH_l1 (k := 0) rfl ?_
        obtain ⟨x322, hx322, hm⟩ := Option.bind_eq_some_iff.1 hm
        refine V_call Try.call40 rfl rfl rfl rfl (portref2_ratio_by_c w319 hA x94 v296 h297 v298 h299 x314 v315 h316 v317 h318 hx322) ?_
        rintro _ w327 ⟨v323, v325, rfl, h324, h326, hk328⟩
        have ht329 := Kp.tr hk328 hA hB
        replace hH := Hp.kp hH hk328
        replace h113 := El.tr h113 ht329
        replace h291 := El.tr h291 ht329
        replace h297 := Sl.tr h297 ht329
        replace h299 := Sl.tr h299 ht329
        replace h302 := Sl.tr h302 ht329
        replace h304 := Sl.tr h304 ht329
        replace h308 := Sl.tr h308 ht329
        replace h310 := Sl.tr h310 ht329
        replace h316 := Sl.tr h316 ht329
        replace h318 := Sl.tr h318 ht329
        replace hK := Tr.trans hK ht329
        replace hB := Nat.le_trans hB ht329.ex.size
        replace hA := ht329.new
        refine V_CH (hk328) ?_
        refine CH_l1 (k := 2) rfl ?_
        have h335 : (v323).oneCell' = true := by obtain ⟨_, _, e, _⟩ := Sl.form h324; rw [e]; rfl
        have h338 : (v325).oneCell' = true := by obtain ⟨_, _, e, _⟩ := Sl.form h326; rw [e]; rfl
        refine V_storeC (off := 0) (ds := [v323, v325]) hH (i := 0) rfl Try.sizeOf58 rfl (Nat.le_of_ble_eq_true rfl) (by exact (List.forall_mem_cons.2 ⟨h335, (List.forall_mem_cons.2 ⟨h338, (fun _ h => nomatch h)⟩)⟩)) rfl hB hA rfl rfl ?_
        intro w330 hH331 ht332
        replace h113 := El.tr h113 ht332
        replace h291 := El.tr h291 ht332
        replace h297 := Sl.tr h297 ht332
        replace h299 := Sl.tr h299 ht332
        replace h302 := Sl.tr h302 ht332
        replace h304 := Sl.tr h304 ht332
        replace h308 := Sl.tr h308 ht332
        replace h310 := Sl.tr h310 ht332
        replace h316 := Sl.tr h316 ht332
        replace h318 := Sl.tr h318 ht332
        replace h324 := Sl.tr h324 ht332
        replace h326 := Sl.tr h326 ht332
        replace hK := Tr.trans hK ht332
        replace hB := Nat.le_trans hB ht332.ex.size
        replace hA := ht332.new
        replace hH : Hp w.heap.size A289 w330 (obC b7 [v323, v325] 58 :: []) := hH331
        refine V_CHw ?_
        refine CH_tail ?_
        show V _ _ _ _ [] _ _
        refine V_to (fun _ _ => rfl) ?_
        obtain rfl := Option.some.inj hm
        refine C_ret ?_
        try simp only [↓inBlock_ret, ↓then_ret]
        exact retQ rfl (Res.l1 Try.results28 (RL.cell rfl (loadVar_agg (Hp.part (off := 0) (n := 2) (ds := [v323, v325]) hH (i := 0) rfl rfl) Try.isAgg58 Try.sizeOf58))) ⟨v323, v325, rfl, (Sl.out h324 hA0 hK), (Sl.out h326 hA0 hK), hK.kp⟩
      obtain ⟨x339, hx339, hm⟩ := Option.bind_eq_some_iff.1 hm
      refine V_call Try.call41 rfl rfl rfl rfl (portref2_ratio_minus_c w239 hA x234 v235 h236 v237 h238 x94 v119 h120 v121 h122 hx339) ?_
      rintro _ w344 ⟨v340, v342, rfl, h341, h343, hk345⟩
      have ht346 := Kp.tr hk345 hA hB
      replace hH := Hp.kp hH hk345
      replace h33 := El.tr h33 ht346
      replace h113 := El.tr h113 ht346
      replace h120 := Sl.tr h120 ht346
      replace h122 := Sl.tr h122 ht346
      replace h125 := Sl.tr h125 ht346
      replace h127 := Sl.tr h127 ht346
      replace h236 := Sl.tr h236 ht346
      replace h238 := Sl.tr h238 ht346
      replace hK := Tr.trans hK ht346
      replace hB := Nat.le_trans hB ht346.ex.size
      replace hA := ht346.new
      refine V_CHZ (hk345) ?_
      refine CHZ_l1 (k := 0) [(2, 8), (2, 4), (2, 6), (2, 7), (4, 9)] rfl ?_ rfl ?_
      · refine CH_l1 (k := 0) rfl ?_
        refine V_allocHk (B := w.heap.size) hH Try.zeroValue58 hB hA rfl ?_
        intro b347 w348 A349 hk352 hH350 ht351
        replace h33 := El.tr h33 ht351
        replace h113 := El.tr h113 ht351
        replace h120 := Sl.tr h120 ht351
        replace h122 := Sl.tr h122 ht351
        replace h125 := Sl.tr h125 ht351
        replace h127 := Sl.tr h127 ht351
        replace h236 := Sl.tr h236 ht351
        replace h238 := Sl.tr h238 ht351
        replace h341 := Sl.tr h341 ht351
        replace h343 := Sl.tr h343 ht351
        replace hK := Tr.trans hK ht351
        replace hB := Nat.le_trans hB ht351.ex.size
        replace hA := ht351.new
        replace hH : Hp w.heap.size A349 w348 (obC b347 [.slice none 0 0, .slice none 0 0] 58 :: obC b7 [.slice none 0 0, .slice none 0 0] 58 :: []) := hH350
        refine V_CH (hk352) ?_
        refine CH_l1 (k := 0) rfl ?_
        obtain ⟨x353, hx353, hm⟩ := Option.bind_eq_some_iff.1 hm
        refine V_call Try.call39 rfl rfl rfl rfl (portref2_ratio_times_c w348 hA x339 v340 h341 v342 h343 x14 v124 h125 v126 h127 hx353) ?_
        rintro _ w358 ⟨v354, v356, rfl, h355, h357, hk359⟩
        have ht360 := Kp.tr hk359 hA hB
        replace hH := Hp.kp hH hk359
        replace h33 := El.tr h33 ht360
        replace h113 := El.tr h113 ht360
        replace h120 := Sl.tr h120 ht360
        replace h122 := Sl.tr h122 ht360
        replace h125 := Sl.tr h125 ht360
        replace h127 := Sl.tr h127 ht360
        replace h236 := Sl.tr h236 ht360
        replace h238 := Sl.tr h238 ht360
        replace h341 := Sl.tr h341 ht360
        replace h343 := Sl.tr h343 ht360
        replace hK := Tr.trans hK ht360
        replace hB := Nat.le_trans hB ht360.ex.size
        replace hA := ht360.new
        refine V_CH (hk359) ?_
        refine CH_l1 (k := 0) rfl ?_
        obtain ⟨x361, hx361, hm⟩ := Option.bind_eq_some_iff.1 hm
        refine V_call Try.call30 rfl rfl rfl rfl (portref2_rat_c w358 hA n 1 hx361) ?_
        rintro _ w366 ⟨v362, v364, rfl, h363, h365, hk367⟩
        have ht368 := Kp.tr hk367 hA hB
        replace hH := Hp.kp hH hk367
        replace h33 := El.tr h33 ht368
        replace h113 := El.tr h113 ht368
        replace h120 := Sl.tr h120 ht368
        replace h122 := Sl.tr h122 ht368
        replace h125 := Sl.tr h125 ht368
        replace h127 := Sl.tr h127 ht368
        replace h236 := Sl.tr h236 ht368
        replace h238 := Sl.tr h238 ht368
        replace h341 := Sl.tr h341 ht368
        replace h343 := Sl.tr h343 ht368
        replace h355 := Sl.tr h355 ht368
        replace h357 := Sl.tr h357 ht368
        replace hK := Tr.trans hK ht368
        replace hB := Nat.le_trans hB ht368.ex.size
        replace hA := ht368.new
        refine V_CH (hk367) ?_
        refine CH_l1 (k := 0) rfl ?_
        obtain ⟨x369, hx369, hm⟩ := Option.bind_eq_some_iff.1 hm
        refine V_call Try.call40 rfl rfl rfl rfl (portref2_ratio_by_c w366 hA x353 v354 h355 v356 h357 x361 v362 h363 v364 h365 hx369) ?_
        rintro _ w374 ⟨v370, v372, rfl, h371, h373, hk375⟩
        have ht376 := Kp.tr hk375 hA hB
        replace hH := Hp.kp hH hk375
        replace h33 := El.tr h33 ht376
        replace h113 := El.tr h113 ht376
        replace h120 := Sl.tr h120 ht376
        replace h122 := Sl.tr h122 ht376
        replace h125 := Sl.tr h125 ht376
        replace h127 := Sl.tr h127 ht376
        replace h236 := Sl.tr h236 ht376
        replace h238 := Sl.tr h238 ht376
        replace h341 := Sl.tr h341 ht376
        replace h343 := Sl.tr h343 ht376
        replace h355 := Sl.tr h355 ht376
        replace h357 := Sl.tr h357 ht376
        replace h363 := Sl.tr h363 ht376
        replace h365 := Sl.tr h365 ht376
        replace hK := Tr.trans hK ht376
        replace hB := Nat.le_trans hB ht376.ex.size
        replace hA := ht376.new
        refine V_CH (hk375) ?_
        refine CH_l1 (k := 2) rfl ?_
        have h382 : (v370).oneCell' = true := by obtain ⟨_, _, e, _⟩ := Sl.form h371; rw [e]; rfl
        have h385 : (v372).oneCell' = true := by obtain ⟨_, _, e, _⟩ := Sl.form h373; rw [e]; rfl
        refine V_storeC (off := 0) (ds := [v370, v372]) hH (i := 0) rfl Try.sizeOf58 rfl (Nat.le_of_ble_eq_true rfl) (by exact (List.forall_mem_cons.2 ⟨h382, (List.forall_mem_cons.2 ⟨h385, (fun _ h => nomatch h)⟩)⟩)) rfl hB hA rfl rfl ?_
        intro w377 hH378 ht379
        replace h33 := El.tr h33 ht379
        replace h113 := El.tr h113 ht379
        replace h120 := Sl.tr h120 ht379
        replace h122 := Sl.tr h122 ht379
        replace h125 := Sl.tr h125 ht379
        replace h127 := Sl.tr h127 ht379
        replace h236 := Sl.tr h236 ht379
        replace h238 := Sl.tr h238 ht379
        replace h341 := Sl.tr h341 ht379
        replace h343 := Sl.tr h343 ht379
        replace h355 := Sl.tr h355 ht379
        replace h357 := Sl.tr h357 ht379
        replace h363 := Sl.tr h363 ht379
        replace h365 := Sl.tr h365 ht379
        replace h371 := Sl.tr h371 ht379
        replace h373 := Sl.tr h373 ht379
        replace hK := Tr.trans hK ht379
        replace hB := Nat.le_trans hB ht379.ex.size
        replace hA := ht379.new
        replace hH : Hp w.heap.size A349 w377 (obC b347 [v370, v372] 58 :: obC b7 [.slice none 0 0, .slice none 0 0] 58 :: []) := hH378
        obtain ⟨A386, ht387, h388, hH389⟩ := Hp.freezeC (α := portref2_ratio) (x := x369) hH (i := 0) rfl hA (by exact ⟨[v370], _, rfl, ⟨_, rfl, h371⟩, ⟨_, rfl, h373⟩⟩)
        replace h33 := El.tr h33 ht387
        replace h113 := El.tr h113 ht387
        replace h120 := Sl.tr h120 ht387
        replace h122 := Sl.tr h122 ht387
        replace h125 := Sl.tr h125 ht387
        replace h127 := Sl.tr h127 ht387
        replace h236 := Sl.tr h236 ht387
        replace h238 := Sl.tr h238 ht387
        replace h341 := Sl.tr h341 ht387
        replace h343 := Sl.tr h343 ht387
        replace h355 := Sl.tr h355 ht387
        replace h357 := Sl.tr h357 ht387
        replace h363 := Sl.tr h363 ht387
        replace h365 := Sl.tr h365 ht387
        replace h371 := Sl.tr h371 ht387
        replace h373 := Sl.tr h373 ht387
        replace hK := Tr.trans hK ht387
        replace hB := Nat.le_trans hB ht387.ex.size
        replace hA := ht387.new
        replace hH : Hp w.heap.size A386 w377 (obC b7 [.slice none 0 0, .slice none 0 0] 58 :: []) := hH389
        refine V_CHw ?_
        refine CH_tail ?_
        show V _ _ _ _ [] _ _
        refine V_to (fun _ _ => rfl) ?_
        refine C_seq ?_
        refine C_region_ch A386 6 [(1, 0), (1, 2), (2, 1), (2, 3), (2, 4), (4, 5)] Try_mixed (by kernel_rfl) (fun w390 hk391 => ?_)
        have ht392 := Kp.tr hk391 hA hB
        replace hH := Hp.kp hH hk391
        replace h113 := El.tr h113 ht392
        replace h388 := El.tr h388 ht392
        replace hK := Tr.trans hK ht392
        replace hB := Nat.le_trans hB ht392.ex.size
        replace hA := ht392.new
        refine CH_q2 rfl ?_
        obtain ⟨v393, v395, h397, h394, h396⟩ := El_portref2_ratio h113
        refine VQ_y (fun w' hw' => Y_loadA (At.same h397 (hw'.2 _ h113.2.1 h113.1)) Try.isAgg58 Try.sizeOf58 rfl) rfl rfl rfl ?_
        refine VQ_CH ?_
        refine CH_q2 rfl ?_
        obtain ⟨v398, v400, h402, h399, h401⟩ := El_portref2_ratio h388
        refine VQ_y (fun w' hw' => Y_loadA (At.same h402 (hw'.2 _ h388.2.1 h388.1)) Try.isAgg58 Try.sizeOf58 rfl) rfl rfl rfl ?_
        refine VQ_CH ?_
        refine CH_l1 (k := 0) rfl ?_
        obtain ⟨x403, hx403, hm⟩ := Option.bind_eq_some_iff.1 hm
        refine V_call Try.call30 rfl rfl rfl rfl (portref2_rat_c w390 hA 1 1 hx403) ?_
        rintro _ w408 ⟨v404, v406, rfl, h405, h407, hk409⟩
        have ht410 := Kp.tr hk409 hA hB
        replace hH := Hp.kp hH hk409
        replace h113 := El.tr h113 ht410
        replace h388 := El.tr h388 ht410
        replace h394 := Sl.tr h394 ht410
        replace h396 := Sl.tr h396 ht410
        replace h399 := Sl.tr h399 ht410
        replace h401 := Sl.tr h401 ht410
        replace hK := Tr.trans hK ht410
        replace hB := Nat.le_trans hB ht410.ex.size
        replace hA := ht410.new
        refine V_CH (hk409) ?_
        refine CH_l1 (k := 0) rfl ?_
        obtain ⟨x411, hx411, hm⟩ := Option.bind_eq_some_iff.1 hm
        refine V_call Try.call41 rfl rfl rfl rfl (portref2_ratio_minus_c w408 hA x403 v404 h405 v406 h407 x369 v398 h399 v400 h401 hx411) ?_
        rintro _ w416 ⟨v412, v414, rfl, h413, h415, hk417⟩
        have ht418 := Kp.tr hk417 hA hB
        replace hH := Hp.kp hH hk417
        replace h113 := El.tr h113 ht418
        replace h388 := El.tr h388 ht418
        replace h394 := Sl.tr h394 ht418
        replace h396 := Sl.tr h396 ht418
        replace h399 := Sl.tr h399 ht418
        replace h401 := Sl.tr h401 ht418
        replace h405 := Sl.tr h405 ht418
        replace h407 := Sl.tr h407 ht418
        replace hK := Tr.trans hK ht418
        replace hB := Nat.le_trans hB ht418.ex.size
        replace hA := ht418.new
        refine V_CH (hk417) ?_
        refine CH_l1 (k := 0) rfl ?_
        obtain ⟨x419, hx419, hm⟩ := Option.bind_eq_some_iff.1 hm
        refine V_call Try.call40 rfl rfl rfl rfl (portref2_ratio_by_c w416 hA x94 v393 h394 v395 h396 x411 v412 h413 v414 h415 hx419) ?_
        rintro _ w424 ⟨v420, v422, rfl, h421, h423, hk425⟩
        have ht426 := Kp.tr hk425 hA hB
        replace hH := Hp.kp hH hk425
        replace h113 := El.tr h113 ht426
        replace h388 := El.tr h388 ht426
        replace h394 := Sl.tr h394 ht426
        replace h396 := Sl.tr h396 ht426
        replace h399 := Sl.tr h399 ht426
        replace h401 := Sl.tr h401 ht426
        replace h405 := Sl.tr h405 ht426
        replace h407 := Sl.tr h407 ht426
        replace h413 := Sl.tr h413 ht426
        replace h415 := Sl.tr h415 ht426
        replace hK := Tr.trans hK ht426
        replace hB := Nat.le_trans hB ht426.ex.size
        replace hA := ht426.new
        refine V_CH (hk425) ?_
        refine CH_l1 (k := 2) rfl ?_
        have h432 : (v420).oneCell' = true := by obtain ⟨_, _, e, _⟩ := Sl.form h421; rw [e]; rfl
        have h435 : (v422).oneCell' = true := by obtain ⟨_, _, e, _⟩ := Sl.form h423; rw [e]; rfl
        refine V_storeC (off := 0) (ds := [v420, v422]) hH (i := 0) rfl Try.sizeOf58 rfl (Nat.le_of_ble_eq_true rfl) (by exact (List.forall_mem_cons.2 ⟨h432, (List.forall_mem_cons.2 ⟨h435, (fun _ h => nomatch h)⟩)⟩)) rfl hB hA rfl rfl ?_
        intro w427 hH428 ht429
        replace h113 := El.tr h113 ht429
        replace h388 := El.tr h388 ht429
        replace h394 := Sl.tr h394 ht429
        replace h396 := Sl.tr h396 ht429
        replace h399 := Sl.tr h399 ht429
        replace h401 := Sl.tr h401 ht429
        replace h405 := Sl.tr h405 ht429
        replace h407 := Sl.tr h407 ht429
        replace h413 := Sl.tr h413 ht429
        replace h415 := Sl.tr h415 ht429
        replace h421 := Sl.tr h421 ht429
        replace h423 := Sl.tr h423 ht429
        replace hK := Tr.trans hK ht429
        replace hB := Nat.le_trans hB ht429.ex.size
        replace hA := ht429.new
        replace hH : Hp w.heap.size A386 w427 (obC b7 [v420, v422] 58 :: []) := hH428
        refine V_CHw ?_
        refine CH_tail ?_
        show V _ _ _ _ [] _ _
        refine V_to (fun _ _ => rfl) ?_
        obtain rfl := Option.some.inj hm
        refine C_ret ?_
        try simp only [↓inBlock_ret, ↓then_ret]
        exact retQ rfl (Res.l1 Try.results28 (RL.cell rfl (loadVar_agg (Hp.part (off := 0) (n := 2) (ds := [v420, v422]) hH (i := 0) rfl rfl) Try.isAgg58 Try.sizeOf58))) ⟨v420, v422, rfl, (Sl.out h421 hA0 hK), (Sl.out h423 hA0 hK), hK.kp⟩
      obtain ⟨x436, hx436, hm⟩ := Option.bind_eq_some_iff.1 hm
      refine V_call Try.call39 rfl rfl rfl rfl (portref2_ratio_times_c w344 hA x339 v340 h341 v342 h343 x14 v124 h125 v126 h127 hx436) ?_
      rintro _ w441 ⟨v437, v439, rfl, h438, h440, hk442⟩
      have ht443 := Kp.tr hk442 hA hB
      replace hH := Hp.kp hH hk442
      replace h33 := El.tr h33 ht443
      replace h113 := El.tr h113 ht443
      replace h120 := Sl.tr h120 ht443
      replace h122 := Sl.tr h122 ht443
      replace h125 := Sl.tr h125 ht443
      replace h127 := Sl.tr h127 ht443
      replace h236 := Sl.tr h236 ht443
      replace h238 := Sl.tr h238 ht443
      replace h341 := Sl.tr h341 ht443
      replace h343 := Sl.tr h343 ht443
      replace hK := Tr.trans hK ht443
      replace hB := Nat.le_trans hB ht443.ex.size
      replace hA := ht443.new
      refine V_CHZ (hk442) ?_
      refine CHZ_l1 (k := 0) [(2, 8), (2, 6), (2, 7), (4, 9)] rfl ?_ rfl ?_
      · refine CH_l1 (k := 0) rfl ?_
        refine V_allocHk (B := w.heap.size) hH Try.zeroValue58 hB hA rfl ?_
        intro b444 w445 A446 hk449 hH447 ht448
        replace h33 := El.tr h33 ht448
        replace h113 := El.tr h113 ht448
        replace h120 := Sl.tr h120 ht448
        replace h122 := Sl.tr h122 ht448
        replace h125 := Sl.tr h125 ht448
        replace h127 := Sl.tr h127 ht448
        replace h236 := Sl.tr h236 ht448
        replace h238 := Sl.tr h238 ht448
        replace h341 := Sl.tr h341 ht448
        replace h343 := Sl.tr h343 ht448
        replace h438 := Sl.tr h438 ht448
        replace h440 := Sl.tr h440 ht448
        replace hK := Tr.trans hK ht448
        replace hB := Nat.le_trans hB ht448.ex.size
        replace hA := ht448.new
        replace hH : Hp w.heap.size A446 w445 (obC b444 [.slice none 0 0, .slice none 0 0] 58 :: obC b7 [.slice none 0 0, .slice none 0 0] 58 :: []) := hH447
        refine V_CH (hk449) ?_
        refine CH_l1 (k := 0) rfl ?_
        obtain ⟨x450, hx450, hm⟩ := Option.bind_eq_some_iff.1 hm
        refine V_call Try.call30 rfl rfl rfl rfl (portref2_rat_c w445 hA n 1 hx450) ?_
        rintro _ w455 ⟨v451, v453, rfl, h452, h454, hk456⟩
        have ht457 := Kp.tr hk456 hA hB
        replace hH := Hp.kp hH hk456
        replace h33 := El.tr h33 ht457
        replace h113 := El.tr h113 ht457
        replace h120 := Sl.tr h120 ht457
        replace h122 := Sl.tr h122 ht457
        replace h125 := Sl.tr h125 ht457
        replace h127 := Sl.tr h127 ht457
        replace h236 := Sl.tr h236 ht457
        replace h238 := Sl.tr h238 ht457
        replace h341 := Sl.tr h341 ht457
        replace h343 := Sl.tr h343 ht457
        replace h438 := Sl.tr h438 ht457
        replace h440 := Sl.tr h440 ht457
        replace hK := Tr.trans hK ht457
        replace hB := Nat.le_trans hB ht457.ex.size
        replace hA := ht457.new
        refine V_CH (hk456) ?_
        refine CH_l1 (k := 0) rfl ?_
        obtain ⟨x458, hx458, hm⟩ := Option.bind_eq_some_iff.1 hm
        refine V_call Try.call40 rfl rfl rfl rfl (portref2_ratio_by_c w455 hA x436 v437 h438 v439 h440 x450 v451 h452 v453 h454 hx458) ?_
        rintro _ w463 ⟨v459, v461, rfl, h460, h462, hk464⟩
        have ht465 := Kp.tr hk464 hA hB
        replace hH := Hp.kp hH hk464
        replace h33 := El.tr h33 ht465
        replace h113 := El.tr h113 ht465
        replace h120 := Sl.tr h120 ht465
        replace h122 := Sl.tr h122 ht465
        replace h125 := Sl.tr h125 ht465
        replace h127 := Sl.tr h127 ht465
        replace h236 := Sl.tr h236 ht465
        replace h238 := Sl.tr h238 ht465
        replace h341 := Sl.tr h341 ht465
        replace h343 := Sl.tr h343 ht465
        replace h438 := Sl.tr h438 ht465
        replace h440 := Sl.tr h440 ht465
        replace h452 := Sl.tr h452 ht465
        replace h454 := Sl.tr h454 ht465
        replace hK := Tr.trans hK ht465
        replace hB := Nat.le_trans hB ht465.ex.size
        replace hA := ht465.new
        refine V_CH (hk464) ?_
        refine CH_l1 (k := 2) rfl ?_
        have h471 : (v459).oneCell' = true := by obtain ⟨_, _, e, _⟩ := Sl.form h460; rw [e]; rfl
        have h474 : (v461).oneCell' = true := by obtain ⟨_, _, e, _⟩ := Sl.form h462; rw [e]; rfl
        refine V_storeC (off := 0) (ds := [v459, v461]) hH (i := 0) rfl Try.sizeOf58 rfl (Nat.le_of_ble_eq_true rfl) (by exact (List.forall_mem_cons.2 ⟨h471, (List.forall_mem_cons.2 ⟨h474, (fun _ h => nomatch h)⟩)⟩)) rfl hB hA rfl rfl ?_
        intro w466 hH467 ht468
        replace h33 := El.tr h33 ht468
        replace h113 := El.tr h113 ht468
        replace h120 := Sl.tr h120 ht468
        replace h122 := Sl.tr h122 ht468
        replace h125 := Sl.tr h125 ht468
        replace h127 := Sl.tr h127 ht468
        replace h236 := Sl.tr h236 ht468
        replace h238 := Sl.tr h238 ht468
        replace h341 := Sl.tr h341 ht468
        replace h343 := Sl.tr h343 ht468
        replace h438 := Sl.tr h438 ht468
        replace h440 := Sl.tr h440 ht468
        replace h452 := Sl.tr h452 ht468
        replace h454 := Sl.tr h454 ht468
        replace h460 := Sl.tr h460 ht468
        replace h462 := Sl.tr h462 ht468
        replace hK := Tr.trans hK ht468
        replace hB := Nat.le_trans hB ht468.ex.size
        replace hA := ht468.new
        replace hH : Hp w.heap.size A446 w466 (obC b444 [v459, v461] 58 :: obC b7 [.slice none 0 0, .slice none 0 0] 58 :: []) := hH467
        obtain ⟨A475, ht476, h477, hH478⟩ := Hp.freezeC (α := portref2_ratio) (x := x458) hH (i := 0) rfl hA (by exact ⟨[v459], _, rfl, ⟨_, rfl, h460⟩, ⟨_, rfl, h462⟩⟩)
        replace h33 := El.tr h33 ht476
        replace h113 := El.tr h113 ht476
        replace h120 := Sl.tr h120 ht476
        replace h122 := Sl.tr h122 ht476
        replace h125 := Sl.tr h125 ht476
        replace h127 := Sl.tr h127 ht476
        replace h236 := Sl.tr h236 ht476
        replace h238 := Sl.tr h238 ht476
        replace h341 := Sl.tr h341 ht476
        replace h343 := Sl.tr h343 ht476
        replace h438 := Sl.tr h438 ht476
        replace h440 := Sl.tr h440 ht476
        replace h452 := Sl.tr h452 ht476
        replace h454 := Sl.tr h454 ht476
        replace h460 := Sl.tr h460 ht476
        replace h462 := Sl.tr h462 ht476
        replace hK := Tr.trans hK ht476
        replace hB := Nat.le_trans hB ht476.ex.size
        replace hA := ht476.new
        replace hH : Hp w.heap.size A475 w466 (obC b7 [.slice none 0 0, .slice none 0 0] 58 :: []) := hH478
        refine V_CHw ?_
        refine CH_tail ?_
        show V _ _ _ _ [] _ _
        refine V_to (fun _ _ => rfl) ?_
        refine C_seq ?_
        refine C_region_ch A475 6 [(1, 0), (1, 2), (2, 1), (2, 3), (2, 4), (4, 5)] Try_mixed (by kernel_rfl) (fun w479 hk480 => ?_)
        have ht481 := Kp.tr hk480 hA hB
        replace hH := Hp.kp hH hk480
        replace h113 := El.tr h113 ht481
        replace h477 := El.tr h477 ht481
        replace hK := Tr.trans hK ht481
        replace hB := Nat.le_trans hB ht481.ex.size
        replace hA := ht481.new
        refine CH_q2 rfl ?_
        obtain ⟨v482, v484, h486, h483, h485⟩ := El_portref2_ratio h113
        refine VQ_y (fun w' hw' => Y_loadA (At.same h486 (hw'.2 _ h113.2.1 h113.1)) Try.isAgg58 Try.sizeOf58 rfl) rfl rfl rfl ?_
        refine VQ_CH ?_
        refine CH_q2 rfl ?_
        obtain ⟨v487, v489, h491, h488, h490⟩ := El_portref2_ratio h477
        refine VQ_y (fun w' hw' => Y_loadA (At.same h491 (hw'.2 _ h477.2.1 h477.1)) Try.isAgg58 Try.sizeOf58 rfl) rfl rfl rfl ?_
        refine VQ_CH ?_
        refine CH_l1 (k := 0) rfl ?_
        obtain ⟨x492, hx492, hm⟩ := Option.bind_eq_some_iff.1 hm
        refine V_call Try.call30 rfl rfl rfl rfl (portref2_rat_c w479 hA 1 1 hx492) ?_
        rintro _ w497 ⟨v493, v495, rfl, h494, h496, hk498⟩
        have ht499 := Kp.tr hk498 hA hB
        replace hH := Hp.kp hH hk498
        replace h113 := El.tr h113 ht499
        replace h477 := El.tr h477 ht499
        replace h483 := Sl.tr h483 ht499
        replace h485 := Sl.tr h485 ht499
        replace h488 := Sl.tr h488 ht499
        replace h490 := Sl.tr h490 ht499
        replace hK := Tr.trans hK ht499
        replace hB := Nat.le_trans hB ht499.ex.size
        replace hA := ht499.new
        refine V_CH (hk498) ?_
        refine CH_l1 (k := 0) rfl ?_
        obtain ⟨x500, hx500, hm⟩ := Option.bind_eq_some_iff.1 hm
        refine V_call Try.call41 rfl rfl rfl rfl (portref2_ratio_minus_c w497 hA x492 v493 h494 v495 h496 x458 v487 h488 v489 h490 hx500) ?_
        rintro _ w505 ⟨v501, v503, rfl, h502, h504, hk506⟩
        have ht507 := Kp.tr hk506 hA hB
        replace hH := Hp.kp hH hk506
        replace h113 := El.tr h113 ht507
        replace h477 := El.tr h477 ht507
        replace h483 := Sl.tr h483 ht507
        replace h485 := Sl.tr h485 ht507
        replace h488 := Sl.tr h488 ht507
        replace h490 := Sl.tr h490 ht507
        replace h494 := Sl.tr h494 ht507
        replace h496 := Sl.tr h496 ht507
        replace hK := Tr.trans hK ht507
        replace hB := Nat.le_trans hB ht507.ex.size
        replace hA := ht507.new
        refine V_CH (hk506) ?_
        refine CH_l1 (k := 0) rfl ?_
        obtain ⟨x508, hx508, hm⟩ := Option.bind_eq_some_iff.1 hm
        refine V_call Try.call40 rfl rfl rfl rfl (portref2_ratio_by_c w505 hA x94 v482 h483 v484 h485 x500 v501 h502 v503 h504 hx508) ?_
        rintro _ w513 ⟨v509, v511, rfl, h510, h512, hk514⟩
        have ht515 := Kp.tr hk514 hA hB
        replace hH := Hp.kp hH hk514
        replace h113 := El.tr h113 ht515
        replace h477 := El.tr h477 ht515
        replace h483 := Sl.tr h483 ht515
        replace h485 := Sl.tr h485 ht515
        replace h488 := Sl.tr h488 ht515
        replace h490 := Sl.tr h490 ht515
        replace h494 := Sl.tr h494 ht515
        replace h496 := Sl.tr h496 ht515
        replace h502 := Sl.tr h502 ht515
        replace h504 := Sl.tr h504 ht515
        replace hK := Tr.trans hK ht515
        replace hB := Nat.le_trans hB ht515.ex.size
        replace hA := ht515.new
        refine V_CH (hk514) ?_
        refine CH_l1 (k := 2) rfl ?_
        have h521 : (v509).oneCell' = true := by obtain ⟨_, _, e, _⟩ := Sl.form h510; rw [e]; rfl
        have h524 : (v511).oneCell' = true := by obtain ⟨_, _, e, _⟩ := Sl.form h512; rw [e]; rfl
        refine V_storeC (off := 0) (ds := [v509, v511]) hH (i := 0) rfl Try.sizeOf58 rfl (Nat.le_of_ble_eq_true rfl) (by exact (List.forall_mem_cons.2 ⟨h521, (List.forall_mem_cons.2 ⟨h524, (fun _ h => nomatch h)⟩)⟩)) rfl hB hA rfl rfl ?_
        intro w516 hH517 ht518
        replace h113 := El.tr h113 ht518
        replace h477 := El.tr h477 ht518
        replace h483 := Sl.tr h483 ht518
        replace h485 := Sl.tr h485 ht518
        replace h488 := Sl.tr h488 ht518
        replace h490 := Sl.tr h490 ht518
        replace h494 := Sl.tr h494 ht518
        replace h496 := Sl.tr h496 ht518
        replace h502 := Sl.tr h502 ht518
        replace h504 := Sl.tr h504 ht518
        replace h510 := Sl.tr h510 ht518
        replace h512 := Sl.tr h512 ht518
        replace hK := Tr.trans hK ht518
        replace hB := Nat.le_trans hB ht518.ex.size
        replace hA := ht518.new
        replace hH : Hp w.heap.size A475 w516 (obC b7 [v509, v511] 58 :: []) := hH517
        refine V_CHw ?_
        refine CH_tail ?_
        show V _ _ _ _ [] _ _
        refine V_to (fun _ _ => rfl) ?_
        obtain rfl := Option.some.inj hm
        refine C_ret ?_
        try simp only [↓inBlock_ret, ↓then_ret]
        exact retQ rfl (Res.l1 Try.results28 (RL.cell rfl (loadVar_agg (Hp.part (off := 0) (n := 2) (ds := [v509, v511]) hH (i := 0) rfl rfl) Try.isAgg58 Try.sizeOf58))) ⟨v509, v511, rfl, (Sl.out h510 hA0 hK), (Sl.out h512 hA0 hK), hK.kp⟩
      obtain ⟨x525, hx525, hm⟩ := Option.bind_eq_some_iff.1 hm
      refine V_call Try.call30 rfl rfl rfl rfl (portref2_rat_c w441 hA n 1 hx525) ?_
      rintro _ w530 ⟨v526, v528, rfl, h527, h529, hk531⟩
      have ht532 := Kp.tr hk531 hA hB
      replace hH := Hp.kp hH hk531
      replace h33 := El.tr h33 ht532
      replace h113 := El.tr h113 ht532
      replace h120 := Sl.tr h120 ht532
      replace h122 := Sl.tr h122 ht532
      replace h125 := Sl.tr h125 ht532
      replace h127 := Sl.tr h127 ht532
      replace h236 := Sl.tr h236 ht532
      replace h238 := Sl.tr h238 ht532
      replace h341 := Sl.tr h341 ht532
      replace h343 := Sl.tr h343 ht532
      replace h438 := Sl.tr h438 ht532
      replace h440 := Sl.tr h440 ht532
      replace hK := Tr.trans hK ht532
      replace hB := Nat.le_trans hB ht532.ex.size
      replace hA := ht532.new
      refine V_CHZ (hk531) ?_
      refine CHZ_l1 (k := 0) [(2, 8), (2, 7), (4, 9)] rfl ?_ rfl ?_
      · refine CH_l1 (k := 0) rfl ?_
        refine V_allocHk (B := w.heap.size) hH Try.zeroValue58 hB hA rfl ?_
        intro b533 w534 A535 hk538 hH536 ht537
        replace h33 := El.tr h33 ht537
        replace h113 := El.tr h113 ht537
        replace h120 := Sl.tr h120 ht537
        replace h122 := Sl.tr h122 ht537
        replace h125 := Sl.tr h125 ht537
        replace h127 := Sl.tr h127 ht537
        replace h236 := Sl.tr h236 ht537
        replace h238 := Sl.tr h238 ht537
        replace h341 := Sl.tr h341 ht537
        replace h343 := Sl.tr h343 ht537
        replace h438 := Sl.tr h438 ht537
        replace h440 := Sl.tr h440 ht537
        replace h527 := Sl.tr h527 ht537
        replace h529 := Sl.tr h529 ht537
        replace hK := Tr.trans hK ht537
        replace hB := Nat.le_trans hB ht537.ex.size
        replace hA := ht537.new
        replace hH : Hp w.heap.size A535 w534 (obC b533 [.slice none 0 0, .slice none 0 0] 58 :: obC b7 [.slice none 0 0, .slice none 0 0] 58 :: []) := hH536
        refine V_CH (hk538) ?_
        refine CH_l1 (k := 0) rfl ?_
        obtain ⟨x539, hx539, hm⟩ := Option.bind_eq_some_iff.1 hm
        refine V_call Try.call40 rfl rfl rfl rfl (portref2_ratio_by_c w534 hA x436 v437 h438 v439 h440 x525 v526 h527 v528 h529 hx539) ?_
        rintro _ w544 ⟨v540, v542, rfl, h541, h543, hk545⟩
        have ht546 := Kp.tr hk545 hA hB
        replace hH := Hp.kp hH hk545
        replace h33 := El.tr h33 ht546
        replace h113 := El.tr h113 ht546
        replace h120 := Sl.tr h120 ht546
        replace h122 := Sl.tr h122 ht546
        replace h125 := Sl.tr h125 ht546
        replace h127 := Sl.tr h127 ht546
        replace h236 := Sl.tr h236 ht546
        replace h238 := Sl.tr h238 ht546
        replace h341 := Sl.tr h341 ht546
        replace h343 := Sl.tr h343 ht546
        replace h438 := Sl.tr h438 ht546
        replace h440 := Sl.tr h440 ht546
        replace h527 := Sl.tr h527 ht546
        replace h529 := Sl.tr h529 ht546
        replace hK := Tr.trans hK ht546
        replace hB := Nat.le_trans hB ht546.ex.size
        replace hA := ht546.new
        refine V_CH (hk545) ?_
        refine CH_l1 (k := 2) rfl ?_
        have h552 : (v540).oneCell' = true := by obtain ⟨_, _, e, _⟩ := Sl.form h541; rw [e]; rfl
        have h555 : (v542).oneCell' = true := by obtain ⟨_, _, e, _⟩ := Sl.form h543; rw [e]; rfl
        refine V_storeC (off := 0) (ds := [v540, v542]) hH (i := 0) rfl Try.sizeOf58 rfl (Nat.le_of_ble_eq_true rfl) (by exact (List.forall_mem_cons.2 ⟨h552, (List.forall_mem_cons.2 ⟨h555, (fun _ h => nomatch h)⟩)⟩)) rfl hB hA rfl rfl ?_
        intro w547 hH548 ht549
        replace h33 := El.tr h33 ht549
        replace h113 := El.tr h113 ht549
        replace h120 := Sl.tr h120 ht549
        replace h122 := Sl.tr h122 ht549
        replace h125 := Sl.tr h125 ht549
        replace h127 := Sl.tr h127 ht549
        replace h236 := Sl.tr h236 ht549
        replace h238 := Sl.tr h238 ht549
        replace h341 := Sl.tr h341 ht549
        replace h343 := Sl.tr h343 ht549
        replace h438 := Sl.tr h438 ht549
        replace h440 := Sl.tr h440 ht549
        replace h527 := Sl.tr h527 ht549
        replace h529 := Sl.tr h529 ht549
        replace h541 := Sl.tr h541 ht549
        replace h543 := Sl.tr h543 ht549
        replace hK := Tr.trans hK ht549
        replace hB := Nat.le_trans hB ht549.ex.size
        replace hA := ht549.new
        replace hH : Hp w.heap.size A535 w547 (obC b533 [v540, v542] 58 :: obC b7 [.slice none 0 0, .slice none 0 0] 58 :: []) := hH548
        obtain ⟨A556, ht557, h558, hH559⟩ := Hp.freezeC (α := portref2_ratio) (x := x539) hH (i := 0) rfl hA (by exact ⟨[v540], _, rfl, ⟨_, rfl, h541⟩, ⟨_, rfl, h543⟩⟩)
        replace h33 := El.tr h33 ht557
        replace h113 := El.tr h113 ht557
        replace h120 := Sl.tr h120 ht557
        replace h122 := Sl.tr h122 ht557
        replace h125 := Sl.tr h125 ht557
        replace h127 := Sl.tr h127 ht557
        replace h236 := Sl.tr h236 ht557
        replace h238 := Sl.tr h238 ht557
        replace h341 := Sl.tr h341 ht557
        replace h343 := Sl.tr h343 ht557
        replace h438 := Sl.tr h438 ht557
        replace h440 := Sl.tr h440 ht557
        replace h527 := Sl.tr h527 ht557
        replace h529 := Sl.tr h529 ht557
        replace h541 := Sl.tr h541 ht557
        replace h543 := Sl.tr h543 ht557
        replace hK := Tr.trans hK ht557
        replace hB := Nat.le_trans hB ht557.ex.size
        replace hA := ht557.new
        replace hH : Hp w.heap.size A556 w547 (obC b7 [.slice none 0 0, .slice none 0 0] 58 :: []) := hH559
        refine V_CHw ?_
        refine CH_tail ?_
        show V _ _ _ _ [] _ _
        refine V_to (fun _ _ => rfl) ?_
        refine C_seq ?_
        refine C_region_ch A556 6 [(1, 0), (1, 2), (2, 1), (2, 3), (2, 4), (4, 5)] Try_mixed (by kernel_rfl) (fun w560 hk561 => ?_)
        have ht562 := Kp.tr hk561 hA hB
        replace hH := Hp.kp hH hk561
        replace h113 := El.tr h113 ht562
        replace h558 := El.tr h558 ht562
        replace hK := Tr.trans hK ht562
        replace hB := Nat.le_trans hB ht562.ex.size
        replace hA := ht562.new
        refine CH_q2 rfl ?_
        obtain ⟨v563, v565, h567, h564, h566⟩ := El_portref2_ratio h113
        refine VQ_y (fun w' hw' => Y_loadA (At.same h567 (hw'.2 _ h113.2.1 h113.1)) Try.isAgg58 Try.sizeOf58 rfl) rfl rfl rfl ?_
        refine VQ_CH ?_
        refine CH_q2 rfl ?_
        obtain ⟨v568, v570, h572, h569, h571⟩ := El_portref2_ratio h558
        refine VQ_y (fun w' hw' => Y_loadA (At.same h572 (hw'.2 _ h558.2.1 h558.1)) Try.isAgg58 Try.sizeOf58 rfl) rfl rfl rfl ?_
        refine VQ_CH ?_
        refine CH_l1 (k := 0) rfl ?_
        obtain ⟨x573, hx573, hm⟩ := Option.bind_eq_some_iff.1 hm
        refine V_call Try.call30 rfl rfl rfl rfl (portref2_rat_c w560 hA 1 1 hx573) ?_
        rintro _ w578 ⟨v574, v576, rfl, h575, h577, hk579⟩
        have ht580 := Kp.tr hk579 hA hB
        replace hH := Hp.kp hH hk579
        replace h113 := El.tr h113 ht580
        replace h558 := El.tr h558 ht580
        replace h564 := Sl.tr h564 ht580
        replace h566 := Sl.tr h566 ht580
        replace h569 := Sl.tr h569 ht580
        replace h571 := Sl.tr h571 ht580
        replace hK := Tr.trans hK ht580
        replace hB := Nat.le_trans hB ht580.ex.size
        replace hA := ht580.new
        refine V_CH (hk579) ?_
        refine CH_l1 (k := 0) rfl ?_
        obtain ⟨x581, hx581, hm⟩ := Option.bind_eq_some_iff.1 hm
        refine V_call Try.call41 rfl rfl rfl rfl (portref2_ratio_minus_c w578 hA x573 v574 h575 v576 h577 x539 v568 h569 v570 h571 hx581) ?_
        rintro _ w586 ⟨v582, v584, rfl, h583, h585, hk587⟩
        have ht588 := Kp.tr hk587 hA hB
        replace hH := Hp.kp hH hk587
        replace h113 := El.tr h113 ht588
        replace h558 := El.tr h558 ht588
        replace h564 := Sl.tr h564 ht588
        replace h566 := Sl.tr h566 ht588
        replace h569 := Sl.tr h569 ht588
        replace h571 := Sl.tr h571 ht588
        replace h575 := Sl.tr h575 ht588
        replace h577 := Sl.tr h577 ht588
        replace hK := Tr.trans hK ht588
        replace hB := Nat.le_trans hB ht588.ex.size
        replace hA := ht588.new
        refine V_CH (hk587) ?_
        refine CH_l1 (k := 0) rfl ?_
        obtain ⟨x589, hx589, hm⟩ := Option.bind_eq_some_iff.1 hm
        refine V_call Try.call40 rfl rfl rfl rfl (portref2_ratio_by_c w586 hA x94 v563 h564 v565 h566 x581 v582 h583 v584 h585 hx589) ?_
        rintro _ w594 ⟨v590, v592, rfl, h591, h593, hk595⟩
        have ht596 := Kp.tr hk595 hA hB
        replace hH := Hp.kp hH hk595
        replace h113 := El.tr h113 ht596
        replace h558 := El.tr h558 ht596
        replace h564 := Sl.tr h564 ht596
        replace h566 := Sl.tr h566 ht596
        replace h569 := Sl.tr h569 ht596
        replace h571 := Sl.tr h571 ht596
        replace h575 := Sl.tr h575 ht596
        replace h577 := Sl.tr h577 ht596
        replace h583 := Sl.tr h583 ht596
        replace h585 := Sl.tr h585 ht596
        replace hK := Tr.trans hK ht596
        replace hB := Nat.le_trans hB ht596.ex.size
        replace hA := ht596.new
        refine V_CH (hk595) ?_
        refine CH_l1 (k := 2) rfl ?_
        have h602 : (v590).oneCell' = true := by obtain ⟨_, _, e, _⟩ := Sl.form h591; rw [e]; rfl
        have h605 : (v592).oneCell' = true := by obtain ⟨_, _, e, _⟩ := Sl.form h593; rw [e]; rfl
        refine V_storeC (off := 0) (ds := [v590, v592]) hH (i := 0) rfl Try.sizeOf58 rfl (Nat.le_of_ble_eq_true rfl) (by exact (List.forall_mem_cons.2 ⟨h602, (List.forall_mem_cons.2 ⟨h605, (fun _ h => nomatch h)⟩)⟩)) rfl hB hA rfl rfl ?_
        intro w597 hH598 ht599
        replace h113 := El.tr h113 ht599
        replace h558 := El.tr h558 ht599
        replace h564 := Sl.tr h564 ht599
        replace h566 := Sl.tr h566 ht599
        replace h569 := Sl.tr h569 ht599
        replace h571 := Sl.tr h571 ht599
        replace h575 := Sl.tr h575 ht599
        replace h577 := Sl.tr h577 ht599
        replace h583 := Sl.tr h583 ht599
        replace h585 := Sl.tr h585 ht599
        replace h591 := Sl.tr h591 ht599
        replace h593 := Sl.tr h593 ht599
        replace hK := Tr.trans hK ht599
        replace hB := Nat.le_trans hB ht599.ex.size
        replace hA := ht599.new
        replace hH : Hp w.heap.size A556 w597 (obC b7 [v590, v592] 58 :: []) := hH598
        refine V_CHw ?_
        refine CH_tail ?_
        show V _ _ _ _ [] _ _
        refine V_to (fun _ _ => rfl) ?_
        obtain rfl := Option.some.inj hm
        refine C_ret ?_
        try simp only [↓inBlock_ret, ↓then_ret]
        exact retQ rfl (Res.l1 Try.results28 (RL.cell rfl (loadVar_agg (Hp.part (off := 0) (n := 2) (ds := [v590, v592]) hH (i := 0) rfl rfl) Try.isAgg58 Try.sizeOf58))) ⟨v590, v592, rfl, (Sl.out h591 hA0 hK), (Sl.out h593 hA0 hK), hK.kp⟩
      obtain ⟨x606, hx606, hm⟩ := Option.bind_eq_some_iff.1 hm
      refine V_call Try.call40 rfl rfl rfl rfl (portref2_ratio_by_c w530 hA x436 v437 h438 v439 h440 x525 v526 h527 v528 h529 hx606) ?_
      rintro _ w611 ⟨v607, v609, rfl, h608, h610, hk612⟩
      have ht613 := Kp.tr hk612 hA hB
      replace hH := Hp.kp hH hk612
      replace h33 := El.tr h33 ht613
      replace h113 := El.tr h113 ht613
      replace h120 := Sl.tr h120 ht613
      replace h122 := Sl.tr h122 ht613
      replace h125 := Sl.tr h125 ht613
      replace h127 := Sl.tr h127 ht613
      replace h236 := Sl.tr h236 ht613
      replace h238 := Sl.tr h238 ht613
      replace h341 := Sl.tr h341 ht613
      replace h343 := Sl.tr h343 ht613
      replace h438 := Sl.tr h438 ht613
      replace h440 := Sl.tr h440 ht613
      replace h527 := Sl.tr h527 ht613
      replace h529 := Sl.tr h529 ht613
      replace hK := Tr.trans hK ht613
      replace hB := Nat.le_trans hB ht613.ex.size
      replace hA := ht613.new
      refine V_CHZ (hk612) ?_
      refine CHZ_nil ?_
      refine CH_l1 (k := 0) rfl ?_
      refine V_allocHk (B := w.heap.size) hH Try.zeroValue58 hB hA rfl ?_
      intro b614 w615 A616 hk619 hH617 ht618
      replace h33 := El.tr h33 ht618
      replace h113 := El.tr h113 ht618
      replace h120 := Sl.tr h120 ht618
      replace h122 := Sl.tr h122 ht618
      replace h125 := Sl.tr h125 ht618
      replace h127 := Sl.tr h127 ht618
      replace h236 := Sl.tr h236 ht618
      replace h238 := Sl.tr h238 ht618
      replace h341 := Sl.tr h341 ht618
      replace h343 := Sl.tr h343 ht618
      replace h438 := Sl.tr h438 ht618
      replace h440 := Sl.tr h440 ht618
      replace h527 := Sl.tr h527 ht618
      replace h529 := Sl.tr h529 ht618
      replace h608 := Sl.tr h608 ht618
      replace h610 := Sl.tr h610 ht618
      replace hK := Tr.trans hK ht618
      replace hB := Nat.le_trans hB ht618.ex.size
      replace hA := ht618.new
      replace hH : Hp w.heap.size A616 w615 (obC b614 [.slice none 0 0, .slice none 0 0] 58 :: obC b7 [.slice none 0 0, .slice none 0 0] 58 :: []) := hH617
      refine V_CH (hk619) ?_
      refine CH_l1 (k := 2) rfl ?_
      have h625 : (v607).oneCell' = true := by obtain ⟨_, _, e, _⟩ := Sl.form h608; rw [e]; rfl
      have h628 : (v609).oneCell' = true := by obtain ⟨_, _, e, _⟩ := Sl.form h610; rw [e]; rfl
      refine V_storeC (off := 0) (ds := [v607, v609]) hH (i := 0) rfl Try.sizeOf58 rfl (Nat.le_of_ble_eq_true rfl) (by exact (List.forall_mem_cons.2 ⟨h625, (List.forall_mem_cons.2 ⟨h628, (fun _ h => nomatch h)⟩)⟩)) rfl hB hA rfl rfl ?_
      intro w620 hH621 ht622
      replace h33 := El.tr h33 ht622
      replace h113 := El.tr h113 ht622
      replace h120 := Sl.tr h120 ht622
      replace h122 := Sl.tr h122 ht622
      replace h125 := Sl.tr h125 ht622
      replace h127 := Sl.tr h127 ht622
      replace h236 := Sl.tr h236 ht622
      replace h238 := Sl.tr h238 ht622
      replace h341 := Sl.tr h341 ht622
      replace h343 := Sl.tr h343 ht622
      replace h438 := Sl.tr h438 ht622
      replace h440 := Sl.tr h440 ht622
      replace h527 := Sl.tr h527 ht622
      replace h529 := Sl.tr h529 ht622
      replace h608 := Sl.tr h608 ht622
      replace h610 := Sl.tr h610 ht622
      replace hK := Tr.trans hK ht622
      replace hB := Nat.le_trans hB ht622.ex.size
      replace hA := ht622.new
      replace hH : Hp w.heap.size A616 w620 (obC b614 [v607, v609] 58 :: obC b7 [.slice none 0 0, .slice none 0 0] 58 :: []) := hH621
      obtain ⟨A629, ht630, h631, hH632⟩ := Hp.freezeC (α := portref2_ratio) (x := x606) hH (i := 0) rfl hA (by exact ⟨[v607], _, rfl, ⟨_, rfl, h608⟩, ⟨_, rfl, h610⟩⟩)
      replace h33 := El.tr h33 ht630
      replace h113 := El.tr h113 ht630
      replace h120 := Sl.tr h120 ht630
      replace h122 := Sl.tr h122 ht630
      replace h125 := Sl.tr h125 ht630
      replace h127 := Sl.tr h127 ht630
      replace h236 := Sl.tr h236 ht630
      replace h238 := Sl.tr h238 ht630
      replace h341 := Sl.tr h341 ht630
      replace h343 := Sl.tr h343 ht630
      replace h438 := Sl.tr h438 ht630
      replace h440 := Sl.tr h440 ht630
      replace h527 := Sl.tr h527 ht630
      replace h529 := Sl.tr h529 ht630
      replace h608 := Sl.tr h608 ht630
      replace h610 := Sl.tr h610 ht630
      replace hK := Tr.trans hK ht630
      replace hB := Nat.le_trans hB ht630.ex.size
      replace hA := ht630.new
      replace hH : Hp w.heap.size A629 w620 (obC b7 [.slice none 0 0, .slice none 0 0] 58 :: []) := hH632
      refine V_CHw ?_
      refine CH_tail ?_
      show V _ _ _ _ [] _ _
      refine V_to (fun _ _ => rfl) ?_
      refine C_seq ?_
      refine C_region_ch A629 6 [(1, 0), (1, 2), (2, 1), (2, 3), (2, 4), (4, 5)] Try_mixed (by kernel_rfl) (fun w633 hk634 => ?_)
      have ht635 := Kp.tr hk634 hA hB
      replace hH := Hp.kp hH hk634
      replace h113 := El.tr h113 ht635
      replace h631 := El.tr h631 ht635
      replace hK := Tr.trans hK ht635
      replace hB := Nat.le_trans hB ht635.ex.size
      replace hA := ht635.new
      refine CH_q2 rfl ?_
      obtain ⟨v636, v638, h640, h637, h639⟩ := El_portref2_ratio h113
      refine VQ_y (fun w' hw' => Y_loadA (At.same h640 (hw'.2 _ h113.2.1 h113.1)) Try.isAgg58 Try.sizeOf58 rfl) rfl rfl rfl ?_
      refine VQ_CH ?_
      refine CH_q2 rfl ?_
      obtain ⟨v641, v643, h645, h642, h644⟩ := El_portref2_ratio h631
      refine VQ_y (fun w' hw' => Y_loadA (At.same h645 (hw'.2 _ h631.2.1 h631.1)) Try.isAgg58 Try.sizeOf58 rfl) rfl rfl rfl ?_
      refine VQ_CH ?_
      refine CH_l1 (k := 0) rfl ?_
      obtain ⟨x646, hx646, hm⟩ := Option.bind_eq_some_iff.1 hm
      refine V_call Try.call30 rfl rfl rfl rfl (portref2_rat_c w633 hA 1 1 hx646) ?_
      rintro _ w651 ⟨v647, v649, rfl, h648, h650, hk652⟩
      have ht653 := Kp.tr hk652 hA hB
      replace hH := Hp.kp hH hk652
      replace h113 := El.tr h113 ht653
      replace h631 := El.tr h631 ht653
      replace h637 := Sl.tr h637 ht653
      replace h639 := Sl.tr h639 ht653
      replace h642 := Sl.tr h642 ht653
      replace h644 := Sl.tr h644 ht653
      replace hK := Tr.trans hK ht653
      replace hB := Nat.le_trans hB ht653.ex.size
      replace hA := ht653.new
      refine V_CH (hk652) ?_
      refine CH_l1 (k := 0) rfl ?_
      obtain ⟨x654, hx654, hm⟩ := Option.bind_eq_some_iff.1 hm
      refine V_call Try.call41 rfl rfl rfl rfl (portref2_ratio_minus_c w651 hA x646 v647 h648 v649 h650 x606 v641 h642 v643 h644 hx654) ?_
      rintro _ w659 ⟨v655, v657, rfl, h656, h658, hk660⟩
      have ht661 := Kp.tr hk660 hA hB
      replace hH := Hp.kp hH hk660
      replace h113 := El.tr h113 ht661
      replace h631 := El.tr h631 ht661
      replace h637 := Sl.tr h637 ht661
      replace h639 := Sl.tr h639 ht661
      replace h642 := Sl.tr h642 ht661
      replace h644 := Sl.tr h644 ht661
      replace h648 := Sl.tr h648 ht661
      replace h650 := Sl.tr h650 ht661
      replace hK := Tr.trans hK ht661
      replace hB := Nat.le_trans hB ht661.ex.size
      replace hA := ht661.new
      refine V_CH (hk660) ?_
      refine CH_l1 (k := 0) rfl ?_
      obtain ⟨x662, hx662, hm⟩ := Option.bind_eq_some_iff.1 hm
      refine V_call Try.call40 rfl rfl rfl rfl (portref2_ratio_by_c w659 hA x94 v636 h637 v638 h639 x654 v655 h656 v657 h658 hx662) ?_
      rintro _ w667 ⟨v663, v665, rfl, h664, h666, hk668⟩
      have ht669 := Kp.tr hk668 hA hB
      replace hH := Hp.kp hH hk668
      replace h113 := El.tr h113 ht669
      replace h631 := El.tr h631 ht669
      replace h637 := Sl.tr h637 ht669
      replace h639 := Sl.tr h639 ht669
      replace h642 := Sl.tr h642 ht669
      replace h644 := Sl.tr h644 ht669
      replace h648 := Sl.tr h648 ht669
      replace h650 := Sl.tr h650 ht669
      replace h656 := Sl.tr h656 ht669
      replace h658 := Sl.tr h658 ht669
      replace hK := Tr.trans hK ht669
      replace hB := Nat.le_trans hB ht669.ex.size
      replace hA := ht669.new
      refine V_CH (hk668) ?_
      refine CH_l1 (k := 2) rfl ?_
      have h675 : (v663).oneCell' = true := by obtain ⟨_, _, e, _⟩ := Sl.form h664; rw [e]; rfl
      have h678 : (v665).oneCell' = true := by obtain ⟨_, _, e, _⟩ := Sl.form h666; rw [e]; rfl
      refine V_storeC (off := 0) (ds := [v663, v665]) hH (i := 0) rfl Try.sizeOf58 rfl (Nat.le_of_ble_eq_true rfl) (by exact (List.forall_mem_cons.2 ⟨h675, (List.forall_mem_cons.2 ⟨h678, (fun _ h => nomatch h)⟩)⟩)) rfl hB hA rfl rfl ?_
      intro w670 hH671 ht672
      replace h113 := El.tr h113 ht672
      replace h631 := El.tr h631 ht672
      replace h637 := Sl.tr h637 ht672
      replace h639 := Sl.tr h639 ht672
      replace h642 := Sl.tr h642 ht672
      replace h644 := Sl.tr h644 ht672
      replace h648 := Sl.tr h648 ht672
      replace h650 := Sl.tr h650 ht672
      replace h656 := Sl.tr h656 ht672
      replace h658 := Sl.tr h658 ht672
      replace h664 := Sl.tr h664 ht672
      replace h666 := Sl.tr h666 ht672
      replace hK := Tr.trans hK ht672
      replace hB := Nat.le_trans hB ht672.ex.size
      replace hA := ht672.new
      replace hH : Hp w.heap.size A629 w670 (obC b7 [v663, v665] 58 :: []) := hH671
      refine V_CHw ?_
      refine CH_tail ?_
      show V _ _ _ _ [] _ _
      refine V_to (fun _ _ => rfl) ?_
      obtain rfl := Option.some.inj hm
      refine C_ret ?_
      try simp only [↓inBlock_ret, ↓then_ret]
      exact retQ rfl (Res.l1 Try.results28 (RL.cell rfl (loadVar_agg (Hp.part (off := 0) (n := 2) (ds := [v663, v665]) hH (i := 0) rfl rfl) Try.isAgg58 Try.sizeOf58))) ⟨v663, v665, rfl, (Sl.out h664 hA0 hK), (Sl.out h666 hA0 hK), hK.kp⟩

set_option maxRecDepth 4000 in
set_option maxHeartbeats 4000000 in
theorem portref2_meanWait_c (w : World) {A : Nat → Prop} (hA : ∀ b, w.heap.size ≤ b → A b) (l : staff_Load) (n : Int) {r : (portref2_ratio × Bool)} (hm : portref2_meanWait l n = some r) : Ret Try.prog 27 #[.agg #[.int .i64 l.calls, .int .i64 l.length, .int .i64 l.span], .int .i64 n] w fun v w' => ∃ s0 s1, v = .tuple #[.agg #[s0, s1], .bool r.2] ∧ Sl A w' s0 r.1.num ∧ Sl A w' s1 r.1.den ∧ Kp w w' := by
  unfold portref2_meanWait at hm
  refine enter Try.func27 rfl Try.ntmps27 rfl ?_
  have hA0 := hA
  have hB := Nat.le_refl w.heap.size
  have hK : Tr w.heap.size A w A w := Tr.refl hA
  have hH : Hp w.heap.size A w [] := Hp.nil
  refine C_seq ?_
  refine C_region ?_
  refine V_box rfl rfl ?_
  intro b1 w2 h3
  have hk5 := h3.kp
  have h4 : El (α := staff_Load) A w2 b1 0 l := h3.el hA ⟨[.int .i64 l.calls], _, rfl, rfl, ⟨[.int .i64 l.length], _, rfl, rfl, rfl⟩⟩
  have ht6 := Kp.tr hk5 hA hB
  replace hH := Hp.kp hH hk5
  replace hK := Tr.trans hK ht6
  replace hB := Nat.le_trans hB ht6.ex.size
  replace hA := ht6.new
  refine V_allocH (B := w.heap.size) hH Try.zeroValue58 hB hA rfl ?_
  intro b7 w9 A10 hH11 ht12
  replace h4 := El.tr h4 ht12
  replace hK := Tr.trans hK ht12
  replace hB := Nat.le_trans hB ht12.ex.size
  replace hA := ht12.new
  replace hH : Hp w.heap.size A10 w9 (obC b7 [.slice none 0 0, .slice none 0 0] 58 :: []) := hH11
  refine V_y (Y_assign rfl) rfl rfl rfl ?_
  refine V_to (fun _ _ => rfl) ?_
  refine C_seq ?_
  refine C_seq ?_
  refine C_region ?_
  have h13 := El_staff_Load_0 h4
  refine V_y (Y_fieldAddr Try.underlying23 rfl Try.sizeOf3 (by decide) rfl) rfl rfl rfl ?_
  refine V_y (Y_load (El.int h13) Try.isAgg3 rfl) rfl rfl rfl ?_
  refine V_y (Y_eql rfl rfl) rfl rfl rfl ?_
  refine V_to (fun _ _ => rfl) ?_
  refine C_cond rfl (fun hc14 => ?_) (fun hc14 => ?_)
  · rw [if_pos hc14] at hm
    refine C_seq ?_
    refine C_region ?_
    obtain ⟨x15, hx15, hm⟩ := Option.bind_eq_some_iff.1 hm
    refine V_call Try.call30 rfl rfl rfl rfl (portref2_rat_c w9 hA 0 1 hx15) ?_
    rintro _ w20 ⟨v16, v18, rfl, h17, h19, hk21⟩
    have ht22 := Kp.tr hk21 hA hB
    replace hH := Hp.kp hH hk21
    replace h4 := El.tr h4 ht22
    replace hK := Tr.trans hK ht22
    replace hB := Nat.le_trans hB ht22.ex.size
    replace hA := ht22.new
    have h28 : (v16).oneCell' = true := by obtain ⟨_, _, e, _⟩ := Sl.form h17; rw [e]; rfl
    have h31 : (v18).oneCell' = true := by obtain ⟨_, _, e, _⟩ := Sl.form h19; rw [e]; rfl
    refine V_storeC (off := 0) (ds := [v16, v18]) hH (i := 0) rfl Try.sizeOf58 rfl (Nat.le_of_ble_eq_true rfl) (by exact (List.forall_mem_cons.2 ⟨h28, (List.forall_mem_cons.2 ⟨h31, (fun _ h => nomatch h)⟩)⟩)) rfl hB hA rfl rfl ?_
    intro w23 hH24 ht25
    replace h4 := El.tr h4 ht25
    replace h17 := Sl.tr h17 ht25
    replace h19 := Sl.tr h19 ht25
    replace hK := Tr.trans hK ht25
    replace hB := Nat.le_trans hB ht25.ex.size
    replace hA := ht25.new
    replace hH : Hp w.heap.size A10 w23 (obC b7 [v16, v18] 58 :: []) := hH24
    refine V_y (Y_assign rfl) rfl rfl rfl ?_
    refine V_to (fun _ _ => rfl) ?_
    obtain rfl := Option.some.inj hm
    refine C_ret ?_
    try simp only [↓inBlock_ret, ↓then_ret]
    exact retQ rfl (Res.l2 Try.results27 (RL.cell rfl (loadVar_agg (Hp.part (off := 0) (n := 2) (ds := [v16, v18]) hH (i := 0) rfl rfl) Try.isAgg58 Try.sizeOf58)) (RL.tmp rfl)) ⟨v16, v18, rfl, (Sl.out h17 hA0 hK), (Sl.out h19 hA0 hK), hK.kp⟩
  · rw [if_neg (nt hc14)] at hm
    refine C_skip_to (fun _ _ => rfl) ?_
    refine C_seq ?_
    refine C_seq ?_
    refine C_region_ch A10 6 [(1, 0), (1, 2), (2, 1), (2, 3), (2, 4), (1, 5)] Try_mixed (by kernel_rfl) (fun w33 hk34 => ?_)
    have ht35 := Kp.tr hk34 hA hB
    replace hH := Hp.kp hH hk34
    replace h4 := El.tr h4 ht35
    replace hK := Tr.trans hK ht35
    replace hB := Nat.le_trans hB ht35.ex.size
    replace hA := ht35.new
    refine CH_q2 rfl ?_
    refine VQ_y (fun w' hw' => Y_move rfl) rfl rfl rfl ?_
    refine VQ_CH ?_
    refine CH_q2 rfl ?_
    obtain ⟨h36, _⟩ := El_staff_Load h4
    refine VQ_y (fun w' hw' => Y_loadA (At.same h36 (hw'.2 _ h4.2.1 h4.1)) Try.isAgg23 Try.sizeOf23 rfl) rfl rfl rfl ?_
    refine VQ_CH ?_
    refine CH_l1 (k := 0) rfl ?_
    obtain ⟨x37, hx37, hm⟩ := Option.bind_eq_some_iff.1 hm
    refine V_call Try.call30 rfl rfl rfl rfl (portref2_rat_c w33 hA n 1 hx37) ?_
    rintro _ w42 ⟨v38, v40, rfl, h39, h41, hk43⟩
    have ht44 := Kp.tr hk43 hA hB
    replace hH := Hp.kp hH hk43
    replace h4 := El.tr h4 ht44
    replace hK := Tr.trans hK ht44
    replace hB := Nat.le_trans hB ht44.ex.size
    replace hA := ht44.new
    refine V_CH (hk43) ?_
    refine CH_l1 (k := 0) rfl ?_
    obtain ⟨x45, hx45, hm⟩ := Option.bind_eq_some_iff.1 hm
    refine V_call Try.call38 rfl rfl rfl rfl (portref2_offered_c w42 hA l hx45) ?_
    rintro _ w50 ⟨v46, v48, rfl, h47, h49, hk51⟩
    have ht52 := Kp.tr hk51 hA hB
    replace hH := Hp.kp hH hk51
    replace h4 := El.tr h4 ht52
    replace h39 := Sl.tr h39 ht52
    replace h41 := Sl.tr h41 ht52
    replace hK := Tr.trans hK ht52
    replace hB := Nat.le_trans hB ht52.ex.size
    replace hA := ht52.new
    refine V_CH (hk51) ?_
    refine CH_l1 (k := 0) rfl ?_
    obtain ⟨x53, hx53, hm⟩ := Option.bind_eq_some_iff.1 hm
    refine V_call Try.call29 rfl rfl rfl rfl (portref2_ratio_cmp_c w50 hA x37 v38 h39 v40 h41 x45 v46 h47 v48 h49 hx53) ?_
    rintro _ w54 ⟨rfl, hk55⟩
    have ht56 := Kp.tr hk55 hA hB
    replace hH := Hp.kp hH hk55
    replace h4 := El.tr h4 ht56
    replace h39 := Sl.tr h39 ht56
    replace h41 := Sl.tr h41 ht56
    replace h47 := Sl.tr h47 ht56
    replace h49 := Sl.tr h49 ht56
    replace hK := Tr.trans hK ht56
    replace hB := Nat.le_trans hB ht56.ex.size
    replace hA := ht56.new
    refine V_CH (hk55) ?_
    refine CH_q2 rfl ?_
    refine VQ_y (fun w' hw' => Y_leq rfl rfl) rfl rfl rfl ?_
    refine VQ_CH ?_
    refine CH_tail ?_
    show V _ _ _ _ [] _ _
    refine V_to (fun _ _ => rfl) ?_
    refine C_cond rfl (fun hc57 => ?_) (fun hc57 => ?_)
    · rw [if_pos hc57] at hm
      refine C_seq ?_
      refine C_region ?_
      refine V_y (Y_build Try.underlying58 Try.zeroValue58 (Try_places58 _ Try.underlying58) rfl (by with_unfolding_all rfl)) rfl rfl rfl ?_
      refine V_storeC (off := 0) (ds := [.slice none 0 0, .slice none 0 0]) hH (i := 0) rfl Try.sizeOf58 rfl (Nat.le_of_ble_eq_true rfl) (by exact (List.forall_mem_cons.2 ⟨rfl, (List.forall_mem_cons.2 ⟨rfl, (fun _ h => nomatch h)⟩)⟩)) rfl hB hA rfl rfl ?_
      intro w58 hH59 ht60
      replace h4 := El.tr h4 ht60
      replace hK := Tr.trans hK ht60
      replace hB := Nat.le_trans hB ht60.ex.size
      replace hA := ht60.new
      replace hH : Hp w.heap.size A10 w58 (obC b7 [.slice none 0 0, .slice none 0 0] 58 :: []) := hH59
      refine V_y (Y_assign rfl) rfl rfl rfl ?_
      refine V_to (fun _ _ => rfl) ?_
      obtain rfl := Option.some.inj hm
      refine C_ret ?_
      try simp only [↓inBlock_ret, ↓then_ret]
      exact retQ rfl (Res.l2 Try.results27 (RL.cell rfl (loadVar_agg (Hp.part (off := 0) (n := 2) (ds := [.slice none 0 0, .slice none 0 0]) hH (i := 0) rfl rfl) Try.isAgg58 Try.sizeOf58)) (RL.tmp rfl)) ⟨.slice none 0 0, .slice none 0 0, rfl, Sl.nil, Sl.nil, hK.kp⟩
    · rw [if_neg (nt hc57)] at hm
      refine C_skip_to (fun _ _ => rfl) ?_
      refine C_seq ?_
      refine C_region_ch A10 15 [(1, 0), (1, 1), (1, 3), (1, 4), (1, 7), (1, 9), (2, 2), (2, 5), (2, 6), (2, 8), (2, 10), (2, 11), (2, 12), (4, 13), (1, 14)] Try_mixed (by kernel_rfl) (fun w61 hk62 => ?_)
      have ht63 := Kp.tr hk62 hA hB
      replace hH := Hp.kp hH hk62
      replace h4 := El.tr h4 ht63
      replace hK := Tr.trans hK ht63
      replace hB := Nat.le_trans hB ht63.ex.size
      replace hA := ht63.new
      refine CH_q2 rfl ?_
      obtain ⟨h64, _⟩ := El_staff_Load h4
      refine VQ_y (fun w' hw' => Y_loadA (At.same h64 (hw'.2 _ h4.2.1 h4.1)) Try.isAgg23 Try.sizeOf23 rfl) rfl rfl rfl ?_
      refine VQ_CH ?_
      refine CH_q2 rfl ?_
      refine VQ_y (fun w' hw' => Y_move rfl) rfl rfl rfl ?_
      refine VQ_CH ?_
      refine CH_q2 rfl ?_
      have h65 := El_staff_Load_1 h4
      refine VQ_y (fun w' hw' => Y_fieldAddr Try.underlying23 rfl Try.sizeOf3 (by decide) rfl) rfl rfl rfl ?_
      refine VQ_CH ?_
      refine CH_q2 rfl ?_
      refine VQ_y (fun w' hw' => Y_load (El.int (El.keep h65 (XA.ex hw'))) Try.isAgg3 rfl) rfl rfl rfl ?_
      refine VQ_CH ?_
      refine CH_q2 rfl ?_
      refine VQ_y (fun w' hw' => Y_move rfl) rfl rfl rfl ?_
      refine VQ_CH ?_
      refine CH_q2 rfl ?_
      obtain ⟨h66, _⟩ := El_staff_Load h4
      refine VQ_y (fun w' hw' => Y_loadA (At.same h66 (hw'.2 _ h4.2.1 h4.1)) Try.isAgg23 Try.sizeOf23 rfl) rfl rfl rfl ?_
      refine VQ_CH ?_
      refine CH_l1 (k := 0) rfl ?_
      obtain ⟨x67, hx67, hm⟩ := Option.bind_eq_some_iff.1 hm
      refine V_call Try.call28 rfl rfl rfl rfl (portref2_waits_c w61 hA l n hx67) ?_
      rintro _ w72 ⟨v68, v70, rfl, h69, h71, hk73⟩
      have ht74 := Kp.tr hk73 hA hB
      replace hH := Hp.kp hH hk73
      replace h4 := El.tr h4 ht74
      replace h65 := El.tr h65 ht74
      replace hK := Tr.trans hK ht74
      replace hB := Nat.le_trans hB ht74.ex.size
      replace hA := ht74.new
      refine V_CH (hk73) ?_
      refine CH_l1 (k := 0) rfl ?_
      obtain ⟨x75, hx75, hm⟩ := Option.bind_eq_some_iff.1 hm
      refine V_call Try.call30 rfl rfl rfl rfl (portref2_rat_c w72 hA l.length 1 hx75) ?_
      rintro _ w80 ⟨v76, v78, rfl, h77, h79, hk81⟩
      have ht82 := Kp.tr hk81 hA hB
      replace hH := Hp.kp hH hk81
      replace h4 := El.tr h4 ht82
      replace h65 := El.tr h65 ht82
      replace h69 := Sl.tr h69 ht82
      replace h71 := Sl.tr h71 ht82
      replace hK := Tr.trans hK ht82
      replace hB := Nat.le_trans hB ht82.ex.size
      replace hA := ht82.new
      refine V_CH (hk81) ?_
      refine CH_l1 (k := 0) rfl ?_
      obtain ⟨x83, hx83, hm⟩ := Option.bind_eq_some_iff.1 hm
      refine V_call Try.call39 rfl rfl rfl rfl (portref2_ratio_times_c w80 hA x67 v68 h69 v70 h71 x75 v76 h77 v78 h79 hx83) ?_
      rintro _ w88 ⟨v84, v86, rfl, h85, h87, hk89⟩
      have ht90 := Kp.tr hk89 hA hB
      replace hH := Hp.kp hH hk89
      replace h4 := El.tr h4 ht90
      replace h65 := El.tr h65 ht90
      replace h69 := Sl.tr h69 ht90
      replace h71 := Sl.tr h71 ht90
      replace h77 := Sl.tr h77 ht90
      replace h79 := Sl.tr h79 ht90
      replace hK := Tr.trans hK ht90
      replace hB := Nat.le_trans hB ht90.ex.size
      replace hA := ht90.new
      refine V_CH (hk89) ?_
      refine CH_l1 (k := 0) rfl ?_
      obtain ⟨x91, hx91, hm⟩ := Option.bind_eq_some_iff.1 hm
      refine V_call Try.call30 rfl rfl rfl rfl (portref2_rat_c w88 hA n 1 hx91) ?_
      rintro _ w96 ⟨v92, v94, rfl, h93, h95, hk97⟩
      have ht98 := Kp.tr hk97 hA hB
      replace hH := Hp.kp hH hk97
      replace h4 := El.tr h4 ht98
      replace h65 := El.tr h65 ht98
      replace h69 := Sl.tr h69 ht98
      replace h71 := Sl.tr h71 ht98
      replace h77 := Sl.tr h77 ht98
      replace h79 := Sl.tr h79 ht98
      replace h85 := Sl.tr h85 ht98
      replace h87 := Sl.tr h87 ht98
      replace hK := Tr.trans hK ht98
      replace hB := Nat.le_trans hB ht98.ex.size
      replace hA := ht98.new
      refine V_CH (hk97) ?_
      refine CH_l1 (k := 0) rfl ?_
      obtain ⟨x99, hx99, hm⟩ := Option.bind_eq_some_iff.1 hm
      refine V_call Try.call38 rfl rfl rfl rfl (portref2_offered_c w96 hA l hx99) ?_
      rintro _ w104 ⟨v100, v102, rfl, h101, h103, hk105⟩
      have ht106 := Kp.tr hk105 hA hB
      replace hH := Hp.kp hH hk105
      replace h4 := El.tr h4 ht106
      replace h65 := El.tr h65 ht106
      replace h69 := Sl.tr h69 ht106
      replace h71 := Sl.tr h71 ht106
      replace h77 := Sl.tr h77 ht106
      replace h79 := Sl.tr h79 ht106
      replace h85 := Sl.tr h85 ht106
      replace h87 := Sl.tr h87 ht106
      replace h93 := Sl.tr h93 ht106
      replace h95 := Sl.tr h95 ht106
      replace hK := Tr.trans hK ht106
      replace hB := Nat.le_trans hB ht106.ex.size
      replace hA := ht106.new
      refine V_CH (hk105) ?_
      refine CH_l1 (k := 0) rfl ?_
      obtain ⟨x107, hx107, hm⟩ := Option.bind_eq_some_iff.1 hm
      refine V_call Try.call41 rfl rfl rfl rfl (portref2_ratio_minus_c w104 hA x91 v92 h93 v94 h95 x99 v100 h101 v102 h103 hx107) ?_
      rintro _ w112 ⟨v108, v110, rfl, h109, h111, hk113⟩
      have ht114 := Kp.tr hk113 hA hB
      replace hH := Hp.kp hH hk113
      replace h4 := El.tr h4 ht114
      replace h65 := El.tr h65 ht114
      replace h69 := Sl.tr h69 ht114
      replace h71 := Sl.tr h71 ht114
      replace h77 := Sl.tr h77 ht114
      replace h79 := Sl.tr h79 ht114
      replace h85 := Sl.tr h85 ht114
      replace h87 := Sl.tr h87 ht114
      replace h93 := Sl.tr h93 ht114
      replace h95 := Sl.tr h95 ht114
      replace h101 := Sl.tr h101 ht114
      replace h103 := Sl.tr h103 ht114
      replace hK := Tr.trans hK ht114
      replace hB := Nat.le_trans hB ht114.ex.size
      replace hA := ht114.new
      refine V_CH (hk113) ?_
      refine CH_l1 (k := 0) rfl ?_
      obtain ⟨x115, hx115, hm⟩ := Option.bind_eq_some_iff.1 hm
      refine V_call Try.call40 rfl rfl rfl rfl (portref2_ratio_by_c w112 hA x83 v84 h85 v86 h87 x107 v108 h109 v110 h111 hx115) ?_
      rintro _ w120 ⟨v116, v118, rfl, h117, h119, hk121⟩
      have ht122 := Kp.tr hk121 hA hB
      replace hH := Hp.kp hH hk121
      replace h4 := El.tr h4 ht122
      replace h65 := El.tr h65 ht122
      replace h69 := Sl.tr h69 ht122
      replace h71 := Sl.tr h71 ht122
      replace h77 := Sl.tr h77 ht122
      replace h79 := Sl.tr h79 ht122
      replace h85 := Sl.tr h85 ht122
      replace h87 := Sl.tr h87 ht122
      replace h93 := Sl.tr h93 ht122
      replace h95 := Sl.tr h95 ht122
      replace h101 := Sl.tr h101 ht122
      replace h103 := Sl.tr h103 ht122
      replace h109 := Sl.tr h109 ht122
      replace h111 := Sl.tr h111 ht122
      replace hK := Tr.trans hK ht122
      replace hB := Nat.le_trans hB ht122.ex.size
      replace hA := ht122.new
      refine V_CH (hk121) ?_
      refine CH_l1 (k := 2) rfl ?_
      have h128 : (v116).oneCell' = true := by obtain ⟨_, _, e, _⟩ := Sl.form h117; rw [e]; rfl
      have h131 : (v118).oneCell' = true := by obtain ⟨_, _, e, _⟩ := Sl.form h119; rw [e]; rfl
      refine V_storeC (off := 0) (ds := [v116, v118]) hH (i := 0) rfl Try.sizeOf58 rfl (Nat.le_of_ble_eq_true rfl) (by exact (List.forall_mem_cons.2 ⟨h128, (List.forall_mem_cons.2 ⟨h131, (fun _ h => nomatch h)⟩)⟩)) rfl hB hA rfl rfl ?_
      intro w123 hH124 ht125
      replace h4 := El.tr h4 ht125
      replace h65 := El.tr h65 ht125
      replace h69 := Sl.tr h69 ht125
      replace h71 := Sl.tr h71 ht125
      replace h77 := Sl.tr h77 ht125
      replace h79 := Sl.tr h79 ht125
      replace h85 := Sl.tr h85 ht125
      replace h87 := Sl.tr h87 ht125
      replace h93 := Sl.tr h93 ht125
      replace h95 := Sl.tr h95 ht125
      replace h101 := Sl.tr h101 ht125
      replace h103 := Sl.tr h103 ht125
      replace h109 := Sl.tr h109 ht125
      replace h111 := Sl.tr h111 ht125
      replace h117 := Sl.tr h117 ht125
      replace h119 := Sl.tr h119 ht125
      replace hK := Tr.trans hK ht125
      replace hB := Nat.le_trans hB ht125.ex.size
      replace hA := ht125.new
      replace hH : Hp w.heap.size A10 w123 (obC b7 [v116, v118] 58 :: []) := hH124
      refine V_CHw ?_
      refine CH_q2 rfl ?_
      refine VQ_y (fun w' hw' => Y_assign rfl) rfl rfl rfl ?_
      refine VQ_CH ?_
      refine CH_tail ?_
      show V _ _ _ _ [] _ _
      refine V_to (fun _ _ => rfl) ?_
      obtain rfl := Option.some.inj hm
      refine C_ret ?_
      try simp only [↓inBlock_ret, ↓then_ret]
      exact retQ rfl (Res.l2 Try.results27 (RL.cell rfl (loadVar_agg (Hp.part (off := 0) (n := 2) (ds := [v116, v118]) hH (i := 0) rfl rfl) Try.isAgg58 Try.sizeOf58)) (RL.tmp rfl)) ⟨v116, v118, rfl, (Sl.out h117 hA0 hK), (Sl.out h119 hA0 hK), hK.kp⟩

set_option maxRecDepth 4000 in
set_option maxHeartbeats 4000000 in
theorem portref2_keeps_c (w : World) {A : Nat → Prop} (hA : ∀ b, w.heap.size ≤ b → A b) (l : staff_Load) (p : staff_Promise) (n : Int) {r : Bool} (hm : portref2_keeps l p n = some r) : Ret Try.prog 19 #[.agg #[.int .i64 l.calls, .int .i64 l.length, .int .i64 l.span], .agg #[.int .i64 p.share, .int .i64 p.of, .int .i64 p.wait, .int .i64 p.parts], .int .i64 n] w fun v w' => v = .bool r ∧ Kp w w' := by
  unfold portref2_keeps at hm
  refine enter Try.func19 rfl Try.ntmps19 rfl ?_
  have hA0 := hA
  have hB := Nat.le_refl w.heap.size
  have hK : Tr w.heap.size A w A w := Tr.refl hA
  have hH : Hp w.heap.size A w [] := Hp.nil
  refine C_seq ?_
  refine C_region ?_
  refine V_box rfl rfl ?_
  intro b1 w2 h3
  have hk5 := h3.kp
  have h4 : El (α := staff_Load) A w2 b1 0 l := h3.el hA ⟨[.int .i64 l.calls], _, rfl, rfl, ⟨[.int .i64 l.length], _, rfl, rfl, rfl⟩⟩
  have ht6 := Kp.tr hk5 hA hB
  replace hH := Hp.kp hH hk5
  replace hK := Tr.trans hK ht6
  replace hB := Nat.le_trans hB ht6.ex.size
  replace hA := ht6.new
  refine V_box rfl rfl ?_
  intro b7 w9 h10
  have hk12 := h10.kp
  have h11 : El (α := staff_Promise) A w9 b7 0 p := h10.el hA ⟨[.int .i64 p.share], _, rfl, rfl, ⟨[.int .i64 p.of], _, rfl, rfl, ⟨[.int .i64 p.wait], _, rfl, rfl, rfl⟩⟩⟩
  have ht13 := Kp.tr hk12 hA hB
  replace hH := Hp.kp hH hk12
  replace h4 := El.tr h4 ht13
  replace hK := Tr.trans hK ht13
  replace hB := Nat.le_trans hB ht13.ex.size
  replace hA := ht13.new
  refine V_y (Y_assign rfl) rfl rfl rfl ?_
  refine V_to (fun _ _ => rfl) ?_
  refine C_seq ?_
  refine C_region ?_
  obtain ⟨h14, _⟩ := El_staff_Load h4
  refine V_y (Y_loadA h14 Try.isAgg23 Try.sizeOf23 rfl) rfl rfl rfl ?_
  refine V_y (Y_move rfl) rfl rfl rfl ?_
  obtain ⟨x15, hx15, hm⟩ := Option.bind_eq_some_iff.1 hm
  refine V_call Try.call27 rfl rfl rfl rfl (portref2_meanWait_c w9 hA l n hx15) ?_
  rintro _ w20 ⟨v16, v18, rfl, h17, h19, hk21⟩
  have ht22 := Kp.tr hk21 hA hB
  replace hH := Hp.kp hH hk21
  replace h4 := El.tr h4 ht22
  replace h11 := El.tr h11 ht22
  replace hK := Tr.trans hK ht22
  replace hB := Nat.le_trans hB ht22.ex.size
  replace hA := ht22.new
  refine V_y (Y_move rfl) rfl rfl rfl ?_
  refine V_y (Y_extract rfl rfl) rfl rfl rfl ?_
  refine V_y (Y_extract rfl rfl) rfl rfl rfl ?_
  refine V_alloc Try.zeroValue58 rfl ?_
  intro b23 w24 h25
  have h30 : (v16).oneCell' = true := by obtain ⟨_, _, e, _⟩ := Sl.form h17; rw [e]; rfl
  have h33 : (v18).oneCell' = true := by obtain ⟨_, _, e, _⟩ := Sl.form h19; rw [e]; rfl
  refine V_storeNew h25 Try.sizeOf58 rfl rfl rfl rfl (by exact (List.forall_mem_cons.2 ⟨h30, (List.forall_mem_cons.2 ⟨h33, (fun _ h => nomatch h)⟩)⟩)) ?_
  intro w26 h27
  have hk35 := h27.kp
  have h34 : El (α := portref2_ratio) A w26 b23 0 x15.1 := h27.el hA ⟨[v16], _, rfl, ⟨_, rfl, h17⟩, ⟨_, rfl, h19⟩⟩
  have ht36 := Kp.tr hk35 hA hB
  replace hH := Hp.kp hH hk35
  replace h4 := El.tr h4 ht36
  replace h11 := El.tr h11 ht36
  replace h17 := Sl.tr h17 ht36
  replace h19 := Sl.tr h19 ht36
  replace hK := Tr.trans hK ht36
  replace hB := Nat.le_trans hB ht36.ex.size
  replace hA := ht36.new
  refine V_y (Y_assign rfl) rfl rfl rfl ?_
  refine V_to (fun _ _ => rfl) ?_
  refine C_seq ?_
  obtain ⟨s38, ho37, hm⟩ := Option.bind_eq_some_iff.1 hm
  refine C_cutG (ι := (Nat → Prop)) (fun (A43 : (Nat → Prop)) => [(6, .bool s38)]) (fun (A43 : (Nat → Prop)) => fun w' => Hp w.heap.size A43 w' ([]) ∧ Tr w.heap.size A w26 A43 w') ?_ ?_
  · have hr39 : Tr w.heap.size A w26 A w26 := Tr.refl hA
    refine C_region_ch A 24 [(1, 0), (1, 1), (1, 2), (1, 3), (1, 5), (1, 6), (1, 7), (1, 8), (2, 4), (2, 9), (2, 10), (1, 11), (1, 12), (1, 13), (0, 14), (1, 15), (0, 16), (1, 17), (0, 18), (2, 19), (2, 20), (1, 21), (1, 22), (1, 23)] Try_mixed (by kernel_rfl) (fun w45 hk46 => ?_)
    have ht47 := Kp.tr hk46 hA hB
    replace hH := Hp.kp hH hk46
    replace h4 := El.tr h4 ht47
    replace h11 := El.tr h11 ht47
    replace h34 := El.tr h34 ht47
    replace hK := Tr.trans hK ht47
    replace hr39 := Tr.trans hr39 ht47
    replace hB := Nat.le_trans hB ht47.ex.size
    replace hA := ht47.new
    refine CH_q2 rfl ?_
    refine VQ_y (fun w' hw' => Y_move rfl) rfl rfl rfl ?_
    refine VQ_CH ?_
    refine CH_q2 rfl ?_
    refine VQ_y (fun w' hw' => Y_move rfl) rfl rfl rfl ?_
    refine VQ_CH ?_
    rcases Bool.eq_false_or_eq_true (x15.2) with hc48 | hc48
    · rw [if_pos hc48] at ho37
      refine CH_q2 rfl ?_
      refine VQ_ge rfl rfl rfl hc48 ?_
      obtain ⟨h49, _⟩ := El_staff_Load h4
      refine VQ_y (fun w' hw' => Y_loadA (At.same h49 (hw'.2 _ h4.2.1 h4.1)) Try.isAgg23 Try.sizeOf23 rfl) rfl rfl rfl ?_
      refine VQ_CH ?_
      refine CH_q2 rfl ?_
      refine VQ_ge rfl rfl rfl hc48 ?_
      refine VQ_y (fun w' hw' => Y_move rfl) rfl rfl rfl ?_
      refine VQ_CH ?_
      refine CH_q2 rfl ?_
      refine VQ_ge rfl rfl rfl hc48 ?_
      have h50 := El_staff_Promise_0 h11
      refine VQ_y (fun w' hw' => Y_fieldAddr Try.underlying25 rfl Try.sizeOf3 (by decide) rfl) rfl rfl rfl ?_
      refine VQ_CH ?_
      refine CH_q2 rfl ?_
      refine VQ_ge rfl rfl rfl hc48 ?_
      refine VQ_y (fun w' hw' => Y_load (El.int (El.keep h50 (XA.ex hw'))) Try.isAgg3 rfl) rfl rfl rfl ?_
      refine VQ_CH ?_
      refine CH_q2 rfl ?_
      refine VQ_ge rfl rfl rfl hc48 ?_
      have h51 := El_staff_Promise_1 h11
      refine VQ_y (fun w' hw' => Y_fieldAddr Try.underlying25 rfl Try.sizeOf3 (by decide) rfl) rfl rfl rfl ?_
      refine VQ_CH ?_
      refine CH_q2 rfl ?_
      refine VQ_ge rfl rfl rfl hc48 ?_
      refine VQ_y (fun w' hw' => Y_load (El.int (El.keep h51 (XA.ex hw'))) Try.isAgg3 rfl) rfl rfl rfl ?_
      refine VQ_CH ?_
      refine CH_l1 (k := 0) rfl ?_
      refine V_ge rfl rfl rfl hc48 ?_
      obtain ⟨x52, hx52, ho37⟩ := Option.bind_eq_some_iff.1 ho37
      refine V_call Try.call28 rfl rfl rfl rfl (portref2_waits_c w45 hA l n hx52) ?_
      rintro _ w57 ⟨v53, v55, rfl, h54, h56, hk58⟩
      have ht59 := Kp.tr hk58 hA hB
      replace hH := Hp.kp hH hk58
      replace h4 := El.tr h4 ht59
      replace h11 := El.tr h11 ht59
      replace h34 := El.tr h34 ht59
      replace h50 := El.tr h50 ht59
      replace h51 := El.tr h51 ht59
      replace hK := Tr.trans hK ht59
      replace hr39 := Tr.trans hr39 ht59
      replace hB := Nat.le_trans hB ht59.ex.size
      replace hA := ht59.new
      refine V_CH (hk58) ?_
      refine CH_l1 (k := 0) rfl ?_
      refine V_ge rfl rfl rfl hc48 ?_
      obtain ⟨x60, hx60, ho37⟩ := Option.bind_eq_some_iff.1 ho37
      refine V_call Try.call30 rfl rfl rfl rfl (portref2_rat_c w57 hA p.share p.of hx60) ?_
      rintro _ w65 ⟨v61, v63, rfl, h62, h64, hk66⟩
      have ht67 := Kp.tr hk66 hA hB
      replace hH := Hp.kp hH hk66
      replace h4 := El.tr h4 ht67
      replace h11 := El.tr h11 ht67
      replace h34 := El.tr h34 ht67
      replace h50 := El.tr h50 ht67
      replace h51 := El.tr h51 ht67
      replace h54 := Sl.tr h54 ht67
      replace h56 := Sl.tr h56 ht67
      replace hK := Tr.trans hK ht67
      replace hr39 := Tr.trans hr39 ht67
      replace hB := Nat.le_trans hB ht67.ex.size
      replace hA := ht67.new
      refine V_CH (hk66) ?_
      refine CH_l1 (k := 0) rfl ?_
      refine V_ge rfl rfl rfl hc48 ?_
      obtain ⟨x68, hx68, ho37⟩ := Option.bind_eq_some_iff.1 ho37
      refine V_call Try.call29 rfl rfl rfl rfl (portref2_ratio_cmp_c w65 hA x52 v53 h54 v55 h56 x60 v61 h62 v63 h64 hx68) ?_
      rintro _ w69 ⟨rfl, hk70⟩
      have ht71 := Kp.tr hk70 hA hB
      replace hH := Hp.kp hH hk70
      replace h4 := El.tr h4 ht71
      replace h11 := El.tr h11 ht71
      replace h34 := El.tr h34 ht71
      replace h50 := El.tr h50 ht71
      replace h51 := El.tr h51 ht71
      replace h54 := Sl.tr h54 ht71
      replace h56 := Sl.tr h56 ht71
      replace h62 := Sl.tr h62 ht71
      replace h64 := Sl.tr h64 ht71
      replace hK := Tr.trans hK ht71
      replace hr39 := Tr.trans hr39 ht71
      replace hB := Nat.le_trans hB ht71.ex.size
      replace hA := ht71.new
      refine V_CH (hk70) ?_
      refine CH_q2 rfl ?_
      refine VQ_ge rfl rfl rfl hc48 ?_
      refine VQ_y (fun w' hw' => Y_leq rfl rfl) rfl rfl rfl ?_
      refine VQ_CH ?_
      refine CH_q2 rfl ?_
      refine VQ_y (fun _ _ => Y_pick_te rfl hc48 rfl) rfl rfl rfl ?_
      refine VQ_CH ?_
      refine CH_q2 rfl ?_
      refine VQ_y (fun w' hw' => Y_move rfl) rfl rfl rfl ?_
      refine VQ_CH ?_
      rcases Bool.eq_false_or_eq_true (decide (x68 ≤ 0)) with hc72 | hc72
      · rw [if_pos hc72] at ho37
        refine CH_q1 rfl ?_
        refine VQ_ge rfl rfl rfl hc72 ?_
        obtain ⟨v73, v75, h77, h74, h76⟩ := El_portref2_ratio h34
        refine VQ_y (fun w' hw' => Y_loadA (At.kp h77 hw' h34.2.1) Try.isAgg58 Try.sizeOf58 rfl) rfl rfl rfl ?_
        refine VQ_CH ?_
        refine CH_q2 rfl ?_
        refine VQ_ge rfl rfl rfl hc72 ?_
        have h78 := El_staff_Promise_2 h11
        refine VQ_y (fun w' hw' => Y_fieldAddr Try.underlying25 rfl Try.sizeOf3 (by decide) rfl) rfl rfl rfl ?_
        refine VQ_CH ?_
        refine CH_q1 rfl ?_
        refine VQ_ge rfl rfl rfl hc72 ?_
        refine VQ_y (fun w' hw' => Y_load (El.int (El.kp h78 hw')) Try.isAgg3 rfl) rfl rfl rfl ?_
        refine VQ_CH ?_
        refine CH_q2 rfl ?_
        refine VQ_ge rfl rfl rfl hc72 ?_
        have h79 := El_staff_Promise_3 h11
        refine VQ_y (fun w' hw' => Y_fieldAddr Try.underlying25 rfl Try.sizeOf3 (by decide) rfl) rfl rfl rfl ?_
        refine VQ_CH ?_
        refine CH_q1 rfl ?_
        refine VQ_ge rfl rfl rfl hc72 ?_
        refine VQ_y (fun w' hw' => Y_load (El.int (El.kp h79 hw')) Try.isAgg3 rfl) rfl rfl rfl ?_
        refine VQ_CH ?_
        refine CH_l1 (k := 0) rfl ?_
        refine V_ge rfl rfl rfl hc72 ?_
        obtain ⟨x80, hx80, ho37⟩ := Option.bind_eq_some_iff.1 ho37
        refine V_call Try.call30 rfl rfl rfl rfl (portref2_rat_c w69 hA p.wait p.parts hx80) ?_
        rintro _ w85 ⟨v81, v83, rfl, h82, h84, hk86⟩
        have ht87 := Kp.tr hk86 hA hB
        replace hH := Hp.kp hH hk86
        replace h4 := El.tr h4 ht87
        replace h11 := El.tr h11 ht87
        replace h34 := El.tr h34 ht87
        replace h50 := El.tr h50 ht87
        replace h51 := El.tr h51 ht87
        replace h54 := Sl.tr h54 ht87
        replace h56 := Sl.tr h56 ht87
        replace h62 := Sl.tr h62 ht87
        replace h64 := Sl.tr h64 ht87
        replace h74 := Sl.tr h74 ht87
        replace h76 := Sl.tr h76 ht87
        replace h78 := El.tr h78 ht87
        replace h79 := El.tr h79 ht87
        replace hK := Tr.trans hK ht87
        replace hr39 := Tr.trans hr39 ht87
        replace hB := Nat.le_trans hB ht87.ex.size
        replace hA := ht87.new
        refine V_CH (hk86) ?_
        refine CH_l1 (k := 0) rfl ?_
        refine V_ge rfl rfl rfl hc72 ?_
        obtain ⟨x88, hx88, ho37⟩ := Option.bind_eq_some_iff.1 ho37
        refine V_call Try.call29 rfl rfl rfl rfl (portref2_ratio_cmp_c w85 hA x15.1 v73 h74 v75 h76 x80 v81 h82 v83 h84 hx88) ?_
        rintro _ w89 ⟨rfl, hk90⟩
        have ht91 := Kp.tr hk90 hA hB
        replace hH := Hp.kp hH hk90
        replace h4 := El.tr h4 ht91
        replace h11 := El.tr h11 ht91
        replace h34 := El.tr h34 ht91
        replace h50 := El.tr h50 ht91
        replace h51 := El.tr h51 ht91
        replace h54 := Sl.tr h54 ht91
        replace h56 := Sl.tr h56 ht91
        replace h62 := Sl.tr h62 ht91
        replace h64 := Sl.tr h64 ht91
        replace h74 := Sl.tr h74 ht91
        replace h76 := Sl.tr h76 ht91
        replace h78 := El.tr h78 ht91
        replace h79 := El.tr h79 ht91
        replace h82 := Sl.tr h82 ht91
        replace h84 := Sl.tr h84 ht91
        replace hK := Tr.trans hK ht91
        replace hr39 := Tr.trans hr39 ht91
        replace hB := Nat.le_trans hB ht91.ex.size
        replace hA := ht91.new
        refine V_CH (hk90) ?_
        refine CH_q2 rfl ?_
        refine VQ_ge rfl rfl rfl hc72 ?_
        refine VQ_y (fun w' hw' => Y_leq rfl rfl) rfl rfl rfl ?_
        refine VQ_CH ?_
        refine CH_q2 rfl ?_
        refine VQ_y (fun _ _ => Y_pick_te rfl hc72 rfl) rfl rfl rfl ?_
        refine VQ_CH ?_
        refine CH_q2 rfl ?_
        refine VQ_y (fun w' hw' => Y_assign rfl) rfl rfl rfl ?_
        refine VQ_CH ?_
        refine CH_tail ?_
        show V _ _ _ _ [] _ _
        obtain rfl := Option.some.inj ho37
        refine V_end (fun a ha92 => ?_)
        exact ⟨A, ha92.sub ⟨rfl, trivial⟩, ⟨hH, hr39⟩⟩
      · rw [if_neg (nt hc72)] at ho37
        refine CH_q1 rfl ?_
        refine VQ_gn rfl rfl rfl hc72 rfl rfl rfl ?_
        refine VQ_CH ?_
        refine CH_q2 rfl ?_
        refine VQ_gn rfl rfl rfl hc72 rfl rfl rfl ?_
        refine VQ_CH ?_
        refine CH_q1 rfl ?_
        refine VQ_gn rfl rfl rfl hc72 rfl rfl rfl ?_
        refine VQ_CH ?_
        refine CH_q2 rfl ?_
        refine VQ_gn rfl rfl rfl hc72 rfl rfl rfl ?_
        refine VQ_CH ?_
        refine CH_q1 rfl ?_
        refine VQ_gn rfl rfl rfl hc72 rfl rfl rfl ?_
        refine VQ_CH ?_
        refine CH_l1 (k := 0) rfl ?_
        refine V_gn rfl rfl rfl hc72 rfl rfl rfl ?_
        refine V_CH (Kp.refl _) ?_
        refine CH_l1 (k := 0) rfl ?_
        refine V_gn rfl rfl rfl hc72 rfl rfl rfl ?_
        refine V_CH (Kp.refl _) ?_
        refine CH_q2 rfl ?_
        refine VQ_gn rfl rfl rfl hc72 rfl rfl rfl ?_
        refine VQ_CH ?_
        refine CH_q2 rfl ?_
        refine VQ_y (fun _ _ => Y_pick_fe rfl hc72 rfl) rfl rfl rfl ?_
        refine VQ_CH ?_
        refine CH_q2 rfl ?_
        refine VQ_y (fun w' hw' => Y_assign rfl) rfl rfl rfl ?_
        refine VQ_CH ?_
        refine CH_tail ?_
        show V _ _ _ _ [] _ _
        obtain rfl := Option.some.inj ho37
        refine V_end (fun a ha93 => ?_)
        exact ⟨A, ha93.sub ⟨rfl, trivial⟩, ⟨hH, hr39⟩⟩
    · rw [if_neg (nt hc48)] at ho37
      refine CH_q2 rfl ?_
      refine VQ_gn rfl rfl rfl hc48 rfl rfl rfl ?_
      refine VQ_CH ?_
      refine CH_q2 rfl ?_
      refine VQ_gn rfl rfl rfl hc48 rfl rfl rfl ?_
      refine VQ_CH ?_
      refine CH_q2 rfl ?_
      refine VQ_gn rfl rfl rfl hc48 rfl rfl rfl ?_
      refine VQ_CH ?_
      refine CH_q2 rfl ?_
      refine VQ_gn rfl rfl rfl hc48 rfl rfl rfl ?_
      refine VQ_CH ?_
      refine CH_q2 rfl ?_
      refine VQ_gn rfl rfl rfl hc48 rfl rfl rfl ?_
      refine VQ_CH ?_
      refine CH_q2 rfl ?_
      refine VQ_gn rfl rfl rfl hc48 rfl rfl rfl ?_
      refine VQ_CH ?_
      refine CH_l1 (k := 0) rfl ?_
      refine V_gn rfl rfl rfl hc48 rfl rfl rfl ?_
      refine V_CH (Kp.refl _) ?_
      refine CH_l1 (k := 0) rfl ?_
      refine V_gn rfl rfl rfl hc48 rfl rfl rfl ?_
      refine V_CH (Kp.refl _) ?_
      refine CH_l1 (k := 0) rfl ?_
      refine V_gn rfl rfl rfl hc48 rfl rfl rfl ?_
      refine V_CH (Kp.refl _) ?_
      refine CH_q2 rfl ?_
      refine VQ_gn rfl rfl rfl hc48 rfl rfl rfl ?_
      refine VQ_CH ?_
      refine CH_q2 rfl ?_
      refine VQ_y (fun _ _ => Y_pick_fe rfl hc48 rfl) rfl rfl rfl ?_
      refine VQ_CH ?_
      refine CH_q2 rfl ?_
      refine VQ_y (fun w' hw' => Y_move rfl) rfl rfl rfl ?_
      refine VQ_CH ?_
      rcases Bool.eq_false_or_eq_true (false) with hc94 | hc94
      · rw [if_pos hc94] at ho37
        refine CH_q1 rfl ?_
        refine VQ_ge rfl rfl rfl hc94 ?_
        obtain ⟨v95, v97, h99, h96, h98⟩ := El_portref2_ratio h34
        refine VQ_y (fun w' hw' => Y_loadA (At.kp h99 hw' h34.2.1) Try.isAgg58 Try.sizeOf58 rfl) rfl rfl rfl ?_
        refine VQ_CH ?_
        refine CH_q2 rfl ?_
        refine VQ_ge rfl rfl rfl hc94 ?_
        have h100 := El_staff_Promise_2 h11
        refine VQ_y (fun w' hw' => Y_fieldAddr Try.underlying25 rfl Try.sizeOf3 (by decide) rfl) rfl rfl rfl ?_
        refine VQ_CH ?_
        refine CH_q1 rfl ?_
        refine VQ_ge rfl rfl rfl hc94 ?_
        refine VQ_y (fun w' hw' => Y_load (El.int (El.kp h100 hw')) Try.isAgg3 rfl) rfl rfl rfl ?_
        refine VQ_CH ?_
        refine CH_q2 rfl ?_
        refine VQ_ge rfl rfl rfl hc94 ?_
        have h101 := El_staff_Promise_3 h11
        refine VQ_y (fun w' hw' => Y_fieldAddr Try.underlying25 rfl Try.sizeOf3 (by decide) rfl) rfl rfl rfl ?_
        refine VQ_CH ?_
        refine CH_q1 rfl ?_
        refine VQ_ge rfl rfl rfl hc94 ?_
        refine VQ_y (fun w' hw' => Y_load (El.int (El.kp h101 hw')) Try.isAgg3 rfl) rfl rfl rfl ?_
        refine VQ_CH ?_
        refine CH_l1 (k := 0) rfl ?_
        refine V_ge rfl rfl rfl hc94 ?_
        obtain ⟨x102, hx102, ho37⟩ := Option.bind_eq_some_iff.1 ho37
        refine V_call Try.call30 rfl rfl rfl rfl (portref2_rat_c w45 hA p.wait p.parts hx102) ?_
        rintro _ w107 ⟨v103, v105, rfl, h104, h106, hk108⟩
        have ht109 := Kp.tr hk108 hA hB
        replace hH := Hp.kp hH hk108
        replace h4 := El.tr h4 ht109
        replace h11 := El.tr h11 ht109
        replace h34 := El.tr h34 ht109
        replace h96 := Sl.tr h96 ht109
        replace h98 := Sl.tr h98 ht109
        replace h100 := El.tr h100 ht109
        replace h101 := El.tr h101 ht109
        replace hK := Tr.trans hK ht109
        replace hr39 := Tr.trans hr39 ht109
        replace hB := Nat.le_trans hB ht109.ex.size
        replace hA := ht109.new
        refine V_CH (hk108) ?_
        refine CH_l1 (k := 0) rfl ?_
        refine V_ge rfl rfl rfl hc94 ?_
        obtain ⟨x110, hx110, ho37⟩ := Option.bind_eq_some_iff.1 ho37
        refine V_call Try.call29 rfl rfl rfl rfl (portref2_ratio_cmp_c w107 hA x15.1 v95 h96 v97 h98 x102 v103 h104 v105 h106 hx110) ?_
        rintro _ w111 ⟨rfl, hk112⟩
        have ht113 := Kp.tr hk112 hA hB
        replace hH := Hp.kp hH hk112
        replace h4 := El.tr h4 ht113
        replace h11 := El.tr h11 ht113
        replace h34 := El.tr h34 ht113
        replace h96 := Sl.tr h96 ht113
        replace h98 := Sl.tr h98 ht113
        replace h100 := El.tr h100 ht113
        replace h101 := El.tr h101 ht113
        replace h104 := Sl.tr h104 ht113
        replace h106 := Sl.tr h106 ht113
        replace hK := Tr.trans hK ht113
        replace hr39 := Tr.trans hr39 ht113
        replace hB := Nat.le_trans hB ht113.ex.size
        replace hA := ht113.new
        refine V_CH (hk112) ?_
        refine CH_q2 rfl ?_
        refine VQ_ge rfl rfl rfl hc94 ?_
        refine VQ_y (fun w' hw' => Y_leq rfl rfl) rfl rfl rfl ?_
        refine VQ_CH ?_
        refine CH_q2 rfl ?_
        refine VQ_y (fun _ _ => Y_pick_te rfl hc94 rfl) rfl rfl rfl ?_
        refine VQ_CH ?_
        refine CH_q2 rfl ?_
        refine VQ_y (fun w' hw' => Y_assign rfl) rfl rfl rfl ?_
        refine VQ_CH ?_
        refine CH_tail ?_
        show V _ _ _ _ [] _ _
        obtain rfl := Option.some.inj ho37
        refine V_end (fun a ha114 => ?_)
        exact ⟨A, ha114.sub ⟨rfl, trivial⟩, ⟨hH, hr39⟩⟩
      · rw [if_neg (nt hc94)] at ho37
        refine CH_q1 rfl ?_
        refine VQ_gn rfl rfl rfl hc94 rfl rfl rfl ?_
        refine VQ_CH ?_
        refine CH_q2 rfl ?_
        refine VQ_gn rfl rfl rfl hc94 rfl rfl rfl ?_
        refine VQ_CH ?_
        refine CH_q1 rfl ?_
        refine VQ_gn rfl rfl rfl hc94 rfl rfl rfl ?_
        refine VQ_CH ?_
        refine CH_q2 rfl ?_
        refine VQ_gn rfl rfl rfl hc94 rfl rfl rfl ?_
        refine VQ_CH ?_
        refine CH_q1 rfl ?_
        refine VQ_gn rfl rfl rfl hc94 rfl rfl rfl ?_
        refine VQ_CH ?_
        refine CH_l1 (k := 0) rfl ?_
        refine V_gn rfl rfl rfl hc94 rfl rfl rfl ?_
        refine V_CH (Kp.refl _) ?_
        refine CH_l1 (k := 0) rfl ?_
        refine V_gn rfl rfl rfl hc94 rfl rfl rfl ?_
        refine V_CH (Kp.refl _) ?_
        refine CH_q2 rfl ?_
        refine VQ_gn rfl rfl rfl hc94 rfl rfl rfl ?_
        refine VQ_CH ?_
        refine CH_q2 rfl ?_
        refine VQ_y (fun _ _ => Y_pick_fe rfl hc94 rfl) rfl rfl rfl ?_
        refine VQ_CH ?_
        refine CH_q2 rfl ?_
        refine VQ_y (fun w' hw' => Y_assign rfl) rfl rfl rfl ?_
        refine VQ_CH ?_
        refine CH_tail ?_
        show V _ _ _ _ [] _ _
        obtain rfl := Option.some.inj ho37
        refine V_end (fun a ha115 => ?_)
        exact ⟨A, ha115.sub ⟨rfl, trivial⟩, ⟨hH, hr39⟩⟩
  rintro A43 w40 ⟨hH44, hk41⟩ a ha42
  replace hK := Tr.trans hK hk41
  replace hB := Nat.le_trans hB hk41.ex.size
  replace hA := hk41.new
  replace hH : Hp w.heap.size A43 w40 ([]) := hH44
  refine C_at (n := ⟨38, [], none⟩) (fun _ _ => rfl) ?_ ha42
  obtain rfl := Option.some.inj hm
  refine C_ret ?_
  try simp only [↓inBlock_ret, ↓then_ret]
  exact retQ rfl (Res.one Try.results19 rfl) ⟨rfl, hK.kp⟩

end Go.Proofs.Ytjjdbhfigpmciaa.W
