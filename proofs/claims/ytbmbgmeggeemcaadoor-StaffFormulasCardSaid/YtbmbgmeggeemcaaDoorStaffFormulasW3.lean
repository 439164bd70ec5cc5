/-
  Written by program (gen.py) from the IR of the dump: each function computes its model.
-/
import Derived.Test.YtbmbgmeggeemcaaDoorStaffFormulasW2
namespace Go.Proofs.YtbmbgmeggeemcaaDoor.W
open Go Go.RowKit Go.Pu Go.Gw Go.Proofs Go.Proofs.YtbmbgmeggeemcaaDoor.M
set_option linter.unusedVariables false
set_option linter.unusedSimpArgs false
variable {Dw : Prop}

set_option maxRecDepth 4000 in
set_option maxHeartbeats 4000000 in
theorem portref2_waits_c (w : World) {A : Nat → Prop} (hA : ∀ b, w.heap.size ≤ b → A b) (l : staff_Load) (n : Int) {r : portref2_ratio} (hm : portref2_waits l n = some r) : Ret Tryd.prog 16 #[.agg #[.int .i64 l.calls, .int .i64 l.length, .int .i64 l.span], .int .i64 n] w fun v w' => ∃ s0 s1, v = .agg #[s0, s1] ∧ Sl A w' s0 r.num ∧ Sl A w' s1 r.den ∧ Kp Dw w w' := by
 unfold portref2_waits at hm
 refine enter Tryd.func16 rfl Tryd.ntmps16 rfl ?_
 have hA0 := hA
 have hB := Nat.le_refl w.heap.size
 have hK : Tr Dw w.heap.size A w A w := Tr.refl (Dw := Dw) hA
 have hH : Hp w.heap.size A w [] := Hp.nil
 refine C_seq ?_
 refine C_region ?_
 refine V_box rfl rfl ?_
 intro b1 w2 h3
 have hk5 := h3.kp (Dw := Dw)
 have h4 : El (α := staff_Load) A w2 b1 0 l := h3.el hA ⟨[.int .i64 l.calls], _, rfl, rfl, ⟨[.int .i64 l.length], _, rfl, rfl, rfl⟩⟩
 have ht6 := Kp.tr hk5 hA hB
 replace hH := Hp.kp hH hk5
 replace hK := Tr.trans hK ht6
 replace hB := Nat.le_trans hB ht6.ex.size
 replace hA := ht6.new
 refine V_allocH (Dw := Dw) (B := w.heap.size) hH Tryd.zeroValue41 hB hA rfl ?_
 intro b7 w9 A10 hH11 ht12
 replace h4 := El.tr h4 ht12
 replace hK := Tr.trans hK ht12
 replace hB := Nat.le_trans hB ht12.ex.size
 replace hA := ht12.new
 replace hH : Hp w.heap.size A10 w9 (obC b7 [.slice none 0 0, .slice none 0 0] 41 :: []) := hH11
 refine V_to (fun _ _ => rfl) ?_
 refine C_seq ?_
 refine C_region ?_
 obtain ⟨h13, _⟩ := El_staff_Load h4
 refine V_y (Y_loadA h13 Tryd.isAgg23 Tryd.sizeOf23 rfl) rfl rfl rfl ?_
 obtain ⟨x14, hx14, hm⟩ := Option.bind_eq_some_iff.1 hm
 refine V_call Tryd.call14 rfl rfl rfl rfl (portref2_offered_c (Dw := Dw) w9 hA l hx14) ?_
 rintro _ w19 ⟨v15, v17, rfl, h16, h18, hk20⟩
 have ht21 := Kp.tr hk20 hA hB
 replace hH := Hp.kp hH hk20
 replace h4 := El.tr h4 ht21
 replace hK := Tr.trans hK ht21
 replace hB := Nat.le_trans hB ht21.ex.size
 replace hA := ht21.new
 refine V_alloc Tryd.zeroValue41 rfl ?_
 intro b22 w23 h24
 have h29 : (v15).oneCell' = true := by obtain ⟨_, _, e, _⟩ := Sl.form h16; rw [e]; rfl
 have h32 : (v17).oneCell' = true := by obtain ⟨_, _, e, _⟩ := Sl.form h18; rw [e]; rfl
 refine V_storeNew h24 Tryd.sizeOf41 rfl rfl rfl rfl (by exact (List.forall_mem_cons.2 ⟨h29, (List.forall_mem_cons.2 ⟨h32, (fun _ h => nomatch h)⟩)⟩)) ?_
 intro w25 h26
 have hk34 := h26.kp (Dw := Dw)
 have h33 : El (α := portref2_ratio) A10 w25 b22 0 x14 := h26.el hA ⟨[v15], _, rfl, ⟨_, rfl, h16⟩, ⟨_, rfl, h18⟩⟩
 have ht35 := Kp.tr hk34 hA hB
 replace hH := Hp.kp hH hk34
 replace h4 := El.tr h4 ht35
 replace hK := Tr.trans hK ht35
 replace hB := Nat.le_trans hB ht35.ex.size
 replace hA := ht35.new
 refine V_to (fun _ _ => rfl) ?_
 refine C_seq ?_
 refine C_seq ?_
 refine C_region ?_
 have h36 := El_staff_Load_0 h4
 refine V_y (Y_fieldAddr Tryd.underlying23 rfl Tryd.sizeOf3 (by decide) rfl) rfl rfl rfl ?_
 refine V_y (Y_load (El.int h36) Tryd.isAgg3 rfl) rfl rfl rfl ?_
 refine V_y (Y_eql rfl rfl) rfl rfl rfl ?_
 refine V_to (fun _ _ => rfl) ?_
 refine C_cond rfl (fun hc37 => ?_) (fun hc37 => ?_)
 ·rw [if_pos hc37] at hm
  refine C_seq ?_
  refine C_region ?_
  obtain ⟨x38, hx38, hm⟩ := Option.bind_eq_some_iff.1 hm
  refine V_call Tryd.call29 rfl rfl rfl rfl (portref2_rat_c (Dw := Dw) w25 hA 0 1 hx38) ?_
  rintro _ w43 ⟨v39, v41, rfl, h40, h42, hk44⟩
  have ht45 := Kp.tr hk44 hA hB
  replace hH := Hp.kp hH hk44
  replace hK := Tr.trans hK ht45
  replace hB := Nat.le_trans hB ht45.ex.size
  replace hA := ht45.new
  have h51 : (v39).oneCell' = true := by obtain ⟨_, _, e, _⟩ := Sl.form h40; rw [e]; rfl
  have h54 : (v41).oneCell' = true := by obtain ⟨_, _, e, _⟩ := Sl.form h42; rw [e]; rfl
  refine V_storeC (Dw := Dw) (off := 0) (ds := [v39, v41]) hH (i := 0) rfl Tryd.sizeOf41 rfl (Nat.le_of_ble_eq_true rfl) (by exact (List.forall_mem_cons.2 ⟨h51, (List.forall_mem_cons.2 ⟨h54, (fun _ h => nomatch h)⟩)⟩)) rfl hB hA rfl rfl ?_
  intro w46 hH47 ht48
  replace h40 := Sl.tr h40 ht48
  replace h42 := Sl.tr h42 ht48
  replace hK := Tr.trans hK ht48
  replace hH : Hp w.heap.size A10 w46 (obC b7 [v39, v41] 41 :: []) := hH47
  refine V_to (fun _ _ => rfl) ?_
  obtain rfl := Option.some.inj hm
  refine C_ret ?_
  try simp only [↓inBlock_ret, ↓then_ret]
  exact retQ rfl (Res.l1 Tryd.results16 (RL.cell rfl (loadVar_agg (Hp.part (off := 0) (n := 2) (ds := [v39, v41]) hH (i := 0) rfl rfl) Tryd.isAgg41 Tryd.sizeOf41))) ⟨v39, v41, rfl, (Sl.out (Dw := Dw) h40 hA0 hK), (Sl.out (Dw := Dw) h42 hA0 hK), hK.kp⟩
 ·rw [if_neg (nt hc37)] at hm
  refine C_skip_to (fun _ _ => rfl) ?_
  refine C_seq ?_
  refine C_seq ?_
  refine C_region_ch (Dw := Dw) A10 5 [(1, 0), (1, 2), (2, 1), (2, 3), (1, 4)] Tryd_mixed (by kernel_rfl) (fun w55 hk56 => ?_)
  have ht57 := Kp.tr hk56 hA hB
  replace hH := Hp.kp hH hk56
  replace h4 := El.tr h4 ht57
  replace h33 := El.tr h33 ht57
  replace hK := Tr.trans hK ht57
  replace hB := Nat.le_trans hB ht57.ex.size
  replace hA := ht57.new
  refine CH_q2 (Dw := Dw) rfl ?_
  refine VQ_y (fun w' hw' => Y_move rfl) rfl rfl rfl ?_
  refine VQ_CH (Dw := Dw) ?_
  refine CH_q2 (Dw := Dw) rfl ?_
  obtain ⟨v58, v60, h62, h59, h61⟩ := El_portref2_ratio h33
  refine VQ_y (fun w' hw' => Y_loadA (At.same h62 (hw'.2 _ h33.2.1 h33.1)) Tryd.isAgg41 Tryd.sizeOf41 rfl) rfl rfl rfl ?_
  refine VQ_CH (Dw := Dw) ?_
  refine CH_l1 (Dw := Dw) (k := 0) rfl ?_
  obtain ⟨x63, hx63, hm⟩ := Option.bind_eq_some_iff.1 hm
  refine V_call Tryd.call29 rfl rfl rfl rfl (portref2_rat_c (Dw := Dw) w55 hA n 1 hx63) ?_
  rintro _ w68 ⟨v64, v66, rfl, h65, h67, hk69⟩
  have ht70 := Kp.tr hk69 hA hB
  replace hH := Hp.kp hH hk69
  replace h4 := El.tr h4 ht70
  replace h33 := El.tr h33 ht70
  replace h59 := Sl.tr h59 ht70
  replace h61 := Sl.tr h61 ht70
  replace hK := Tr.trans hK ht70
  replace hB := Nat.le_trans hB ht70.ex.size
  replace hA := ht70.new
  refine V_CH (Dw := Dw) (hk69) ?_
  refine CH_l1 (Dw := Dw) (k := 0) rfl ?_
  obtain ⟨x71, hx71, hm⟩ := Option.bind_eq_some_iff.1 hm
  refine V_call Tryd.call34 rfl rfl rfl rfl (portref2_ratio_cmp_c (Dw := Dw) w68 hA x63 v64 h65 v66 h67 x14 v58 h59 v60 h61 hx71) ?_
  rintro _ w72 ⟨rfl, hk73⟩
  have ht74 := Kp.tr hk73 hA hB
  replace hH := Hp.kp hH hk73
  replace h4 := El.tr h4 ht74
  replace h33 := El.tr h33 ht74
  replace hK := Tr.trans hK ht74
  replace hB := Nat.le_trans hB ht74.ex.size
  replace hA := ht74.new
  refine V_CH (Dw := Dw) (hk73) ?_
  refine CH_q2 (Dw := Dw) rfl ?_
  refine VQ_y (fun w' hw' => Y_leq rfl rfl) rfl rfl rfl ?_
  refine VQ_CH (Dw := Dw) ?_
  refine CH_tail (Dw := Dw) ?_
  show V _ _ _ _ [] _ _
  refine V_to (fun _ _ => rfl) ?_
  refine C_cond rfl (fun hc75 => ?_) (fun hc75 => ?_)
  ·rw [if_pos hc75] at hm
   refine C_seq ?_
   refine C_region ?_
   obtain ⟨x76, hx76, hm⟩ := Option.bind_eq_some_iff.1 hm
   refine V_call Tryd.call29 rfl rfl rfl rfl (portref2_rat_c (Dw := Dw) w72 hA 1 1 hx76) ?_
   rintro _ w81 ⟨v77, v79, rfl, h78, h80, hk82⟩
   have ht83 := Kp.tr hk82 hA hB
   replace hH := Hp.kp hH hk82
   replace hK := Tr.trans hK ht83
   replace hB := Nat.le_trans hB ht83.ex.size
   replace hA := ht83.new
   have h89 : (v77).oneCell' = true := by obtain ⟨_, _, e, _⟩ := Sl.form h78; rw [e]; rfl
   have h92 : (v79).oneCell' = true := by obtain ⟨_, _, e, _⟩ := Sl.form h80; rw [e]; rfl
   refine V_storeC (Dw := Dw) (off := 0) (ds := [v77, v79]) hH (i := 0) rfl Tryd.sizeOf41 rfl (Nat.le_of_ble_eq_true rfl) (by exact (List.forall_mem_cons.2 ⟨h89, (List.forall_mem_cons.2 ⟨h92, (fun _ h => nomatch h)⟩)⟩)) rfl hB hA rfl rfl ?_
   intro w84 hH85 ht86
   replace h78 := Sl.tr h78 ht86
   replace h80 := Sl.tr h80 ht86
   replace hK := Tr.trans hK ht86
   replace hH : Hp w.heap.size A10 w84 (obC b7 [v77, v79] 41 :: []) := hH85
   refine V_to (fun _ _ => rfl) ?_
   obtain rfl := Option.some.inj hm
   refine C_ret ?_
   try simp only [↓inBlock_ret, ↓then_ret]
   exact retQ rfl (Res.l1 Tryd.results16 (RL.cell rfl (loadVar_agg (Hp.part (off := 0) (n := 2) (ds := [v77, v79]) hH (i := 0) rfl rfl) Tryd.isAgg41 Tryd.sizeOf41))) ⟨v77, v79, rfl, (Sl.out (Dw := Dw) h78 hA0 hK), (Sl.out (Dw := Dw) h80 hA0 hK), hK.kp⟩
  ·rw [if_neg (nt hc75)] at hm
   refine C_skip_to (fun _ _ => rfl) ?_
   refine C_seq ?_
   refine C_region ?_
   obtain ⟨h93, _⟩ := El_staff_Load h4
   refine V_y (Y_loadA h93 Tryd.isAgg23 Tryd.sizeOf23 rfl) rfl rfl rfl ?_
   refine V_mv rfl rfl ?_
   obtain ⟨x94, hx94, hm⟩ := Option.bind_eq_some_iff.1 hm
   refine V_call Tryd.call15 rfl rfl rfl rfl (portref2_blocked_c (Dw := Dw) w72 hA l n hx94) ?_
   rintro _ w99 ⟨v95, v97, rfl, h96, h98, hk100⟩
   have ht101 := Kp.tr hk100 hA hB
   replace hH := Hp.kp hH hk100
   replace h33 := El.tr h33 ht101
   replace hK := Tr.trans hK ht101
   replace hB := Nat.le_trans hB ht101.ex.size
   replace hA := ht101.new
   refine V_alloc Tryd.zeroValue41 rfl ?_
   intro b102 w103 h104
   have h109 : (v95).oneCell' = true := by obtain ⟨_, _, e, _⟩ := Sl.form h96; rw [e]; rfl
   have h112 : (v97).oneCell' = true := by obtain ⟨_, _, e, _⟩ := Sl.form h98; rw [e]; rfl
   refine V_storeNew h104 Tryd.sizeOf41 rfl rfl rfl rfl (by exact (List.forall_mem_cons.2 ⟨h109, (List.forall_mem_cons.2 ⟨h112, (fun _ h => nomatch h)⟩)⟩)) ?_
   intro w105 h106
   have hk114 := h106.kp (Dw := Dw)
   have h113 : El (α := portref2_ratio) A10 w105 b102 0 x94 := h106.el hA ⟨[v95], _, rfl, ⟨_, rfl, h96⟩, ⟨_, rfl, h98⟩⟩
   have ht115 := Kp.tr hk114 hA hB
   replace hH := Hp.kp hH hk114
   replace h33 := El.tr h33 ht115
   replace hK := Tr.trans hK ht115
   replace hB := Nat.le_trans hB ht115.ex.size
   replace hA := ht115.new
   refine V_to (fun _ _ => rfl) ?_
   refine C_seq ?_
   refine C_region_chz (Dw := Dw) A10 8 [(1, 1), (1, 3), (1, 5), (2, 0), (2, 2), (2, 4), (2, 6), (2, 7)] [(4, 9)] Tryd_mixed (by kernel_rfl) (fun w116 hk117 => ?_)
   have ht118 := Kp.tr hk117 hA hB
   replace hH := Hp.kp hH hk117
   replace h33 := El.tr h33 ht118
   replace h113 := El.tr h113 ht118
   replace hK := Tr.trans hK ht118
   replace hB := Nat.le_trans hB ht118.ex.size
   replace hA := ht118.new
   refine CHZ_q2 (Dw := Dw) rfl ?_
   obtain ⟨v119, v121, h123, h120, h122⟩ := El_portref2_ratio h113
   refine VQ_y (fun w' hw' => Y_loadA (At.same h123 (hw'.2 _ h113.2.1 h113.1)) Tryd.isAgg41 Tryd.sizeOf41 rfl) rfl rfl rfl ?_
   refine VQ_CHZ (Dw := Dw) ?_
   refine CHZ_q2 (Dw := Dw) rfl ?_
   obtain ⟨v124, v126, h128, h125, h127⟩ := El_portref2_ratio h33
   refine VQ_y (fun w' hw' => Y_loadA (At.same h128 (hw'.2 _ h33.2.1 h33.1)) Tryd.isAgg41 Tryd.sizeOf41 rfl) rfl rfl rfl ?_
   refine VQ_CHZ (Dw := Dw) ?_
   refine CHZ_q2 (Dw := Dw) rfl ?_
   refine VQ_y (fun w' hw' => Y_move rfl) rfl rfl rfl ?_
   refine VQ_CHZ (Dw := Dw) ?_
   refine CHZ_l1 (Dw := Dw) (k := 0) [(2, 8), (2, 0), (2, 2), (2, 4), (2, 6), (2, 7), (4, 9)] rfl ?_ rfl ?_
   ·refine CH_l1 (Dw := Dw) (k := 0) rfl ?_
    refine V_allocHk (Dw := Dw) (B := w.heap.size) hH Tryd.zeroValue41 hB hA rfl ?_
    intro b129 w130 A131 hk134 hH132 ht133
    replace h113 := El.tr h113 ht133
    replace h120 := Sl.tr h120 ht133
    replace h122 := Sl.tr h122 ht133
    replace h125 := Sl.tr h125 ht133
    replace h127 := Sl.tr h127 ht133
    replace hK := Tr.trans hK ht133
    replace hB := Nat.le_trans hB ht133.ex.size
    replace hA := ht133.new
    replace hH : Hp w.heap.size A131 w130 (obC b129 [.slice none 0 0, .slice none 0 0] 41 :: obC b7 [.slice none 0 0, .slice none 0 0] 41 :: []) := hH132
    refine V_CH (Dw := Dw) (hk134) ?_
    refine CH_l1 (Dw := Dw) (k := 0) rfl ?_
    obtain ⟨x135, hx135, hm⟩ := Option.bind_eq_some_iff.1 hm
    refine V_call Tryd.call29 rfl rfl rfl rfl (portref2_rat_c (Dw := Dw) w130 hA 1 1 hx135) ?_
    rintro _ w140 ⟨v136, v138, rfl, h137, h139, hk141⟩
    have ht142 := Kp.tr hk141 hA hB
    replace hH := Hp.kp hH hk141
    replace h113 := El.tr h113 ht142
    replace h120 := Sl.tr h120 ht142
    replace h122 := Sl.tr h122 ht142
    replace h125 := Sl.tr h125 ht142
    replace h127 := Sl.tr h127 ht142
    replace hK := Tr.trans hK ht142
    replace hB := Nat.le_trans hB ht142.ex.size
    replace hA := ht142.new
    refine V_CH (Dw := Dw) (hk141) ?_
    refine CH_l1 (Dw := Dw) (k := 0) rfl ?_
    obtain ⟨x143, hx143, hm⟩ := Option.bind_eq_some_iff.1 hm
    refine V_call Tryd.call35 rfl rfl rfl rfl (portref2_ratio_minus_c (Dw := Dw) w140 hA x135 v136 h137 v138 h139 x94 v119 h120 v121 h122 hx143) ?_
    rintro _ w148 ⟨v144, v146, rfl, h145, h147, hk149⟩
    have ht150 := Kp.tr hk149 hA hB
    replace hH := Hp.kp hH hk149
    replace h113 := El.tr h113 ht150
    replace h125 := Sl.tr h125 ht150
    replace h127 := Sl.tr h127 ht150
    replace hK := Tr.trans hK ht150
    replace hB := Nat.le_trans hB ht150.ex.size
    replace hA := ht150.new
    refine V_CH (Dw := Dw) (hk149) ?_
    refine CH_l1 (Dw := Dw) (k := 0) rfl ?_
    obtain ⟨x151, hx151, hm⟩ := Option.bind_eq_some_iff.1 hm
    refine V_call Tryd.call36 rfl rfl rfl rfl (portref2_ratio_times_c (Dw := Dw) w148 hA x143 v144 h145 v146 h147 x14 v124 h125 v126 h127 hx151) ?_
    rintro _ w156 ⟨v152, v154, rfl, h153, h155, hk157⟩
    have ht158 := Kp.tr hk157 hA hB
    replace hH := Hp.kp hH hk157
    replace h113 := El.tr h113 ht158
    replace hK := Tr.trans hK ht158
    replace hB := Nat.le_trans hB ht158.ex.size
    replace hA := ht158.new
    refine V_CH (Dw := Dw) (hk157) ?_
    refine CH_l1 (Dw := Dw) (k := 0) rfl ?_
    obtain ⟨x159, hx159, hm⟩ := Option.bind_eq_some_iff.1 hm
    refine V_call Tryd.call29 rfl rfl rfl rfl (portref2_rat_c (Dw := Dw) w156 hA n 1 hx159) ?_
    rintro _ w164 ⟨v160, v162, rfl, h161, h163, hk165⟩
    have ht166 := Kp.tr hk165 hA hB
    replace hH := Hp.kp hH hk165
    replace h113 := El.tr h113 ht166
    replace h153 := Sl.tr h153 ht166
    replace h155 := Sl.tr h155 ht166
    replace hK := Tr.trans hK ht166
    replace hB := Nat.le_trans hB ht166.ex.size
    replace hA := ht166.new
    refine V_CH (Dw := Dw) (hk165) ?_
    refine CH_l1 (Dw := Dw) (k := 0) rfl ?_
    obtain ⟨x167, hx167, hm⟩ := Option.bind_eq_some_iff.1 hm
    refine V_call Tryd.call37 rfl rfl rfl rfl (portref2_ratio_by_c (Dw := Dw) w164 hA x151 v152 h153 v154 h155 x159 v160 h161 v162 h163 hx167) ?_
    rintro _ w172 ⟨v168, v170, rfl, h169, h171, hk173⟩
    have ht174 := Kp.tr hk173 hA hB
    replace hH := Hp.kp hH hk173
    replace h113 := El.tr h113 ht174
    replace hK := Tr.trans hK ht174
    replace hB := Nat.le_trans hB ht174.ex.size
    replace hA := ht174.new
    refine V_CH (Dw := Dw) (hk173) ?_
    refine CH_l1 (Dw := Dw) (k := 2) rfl ?_
    have h180 : (v168).oneCell' = true := by obtain ⟨_, _, e, _⟩ := Sl.form h169; rw [e]; rfl
    have h183 : (v170).oneCell' = true := by obtain ⟨_, _, e, _⟩ := Sl.form h171; rw [e]; rfl
    refine V_storeC (Dw := Dw) (off := 0) (ds := [v168, v170]) hH (i := 0) rfl Tryd.sizeOf41 rfl (Nat.le_of_ble_eq_true rfl) (by exact (List.forall_mem_cons.2 ⟨h180, (List.forall_mem_cons.2 ⟨h183, (fun _ h => nomatch h)⟩)⟩)) rfl hB hA rfl rfl ?_
    intro w175 hH176 ht177
    replace h113 := El.tr h113 ht177
    replace h169 := Sl.tr h169 ht177
    replace h171 := Sl.tr h171 ht177
    replace hK := Tr.trans hK ht177
    replace hB := Nat.le_trans hB ht177.ex.size
    replace hA := ht177.new
    replace hH : Hp w.heap.size A131 w175 (obC b129 [v168, v170] 41 :: obC b7 [.slice none 0 0, .slice none 0 0] 41 :: []) := hH176
    obtain ⟨A184, ht185, h186, hH187⟩ := Hp.freezeC (Dw := Dw) (α := portref2_ratio) (x := x167) hH (i := 0) rfl hA (by exact ⟨[v168], _, rfl, ⟨_, rfl, h169⟩, ⟨_, rfl, h171⟩⟩)
    replace h113 := El.tr h113 ht185
    replace hK := Tr.trans hK ht185
    replace hB := Nat.le_trans hB ht185.ex.size
    replace hA := ht185.new
    replace hH : Hp w.heap.size A184 w175 (obC b7 [.slice none 0 0, .slice none 0 0] 41 :: []) := hH187
    refine V_CHw (Dw := Dw) ?_
    refine CH_tail (Dw := Dw) ?_
    show V _ _ _ _ [] _ _
    refine V_to (fun _ _ => rfl) ?_
    refine C_seq ?_
    refine C_region_ch (Dw := Dw) A184 6 [(1, 0), (1, 2), (2, 1), (2, 3), (2, 4), (4, 5)] Tryd_mixed (by kernel_rfl) (fun w188 hk189 => ?_)
    have ht190 := Kp.tr hk189 hA hB
    replace hH := Hp.kp hH hk189
    replace h113 := El.tr h113 ht190
    replace h186 := El.tr h186 ht190
    replace hK := Tr.trans hK ht190
    replace hB := Nat.le_trans hB ht190.ex.size
    replace hA := ht190.new
    refine CH_q2 (Dw := Dw) rfl ?_
    obtain ⟨v191, v193, h195, h192, h194⟩ := El_portref2_ratio h113
    refine VQ_y (fun w' hw' => Y_loadA (At.same h195 (hw'.2 _ h113.2.1 h113.1)) Tryd.isAgg41 Tryd.sizeOf41 rfl) rfl rfl rfl ?_
    refine VQ_CH (Dw := Dw) ?_
    refine CH_q2 (Dw := Dw) rfl ?_
    obtain ⟨v196, v198, h200, h197, h199⟩ := El_portref2_ratio h186
    refine VQ_y (fun w' hw' => Y_loadA (At.same h200 (hw'.2 _ h186.2.1 h186.1)) Tryd.isAgg41 Tryd.sizeOf41 rfl) rfl rfl rfl ?_
    refine VQ_CH (Dw := Dw) ?_
    refine CH_l1 (Dw := Dw) (k := 0) rfl ?_
    obtain ⟨x201, hx201, hm⟩ := Option.bind_eq_some_iff.1 hm
    refine V_call Tryd.call29 rfl rfl rfl rfl (portref2_rat_c (Dw := Dw) w188 hA 1 1 hx201) ?_
    rintro _ w206 ⟨v202, v204, rfl, h203, h205, hk207⟩
    have ht208 := Kp.tr hk207 hA hB
    replace hH := Hp.kp hH hk207
    replace h192 := Sl.tr h192 ht208
    replace h194 := Sl.tr h194 ht208
    replace h197 := Sl.tr h197 ht208
    replace h199 := Sl.tr h199 ht208
    replace hK := Tr.trans hK ht208
    replace hB := Nat.le_trans hB ht208.ex.size
    replace hA := ht208.new
    refine V_CH (Dw := Dw) (hk207) ?_
    refine CH_l1 (Dw := Dw) (k := 0) rfl ?_
    obtain ⟨x209, hx209, hm⟩ := Option.bind_eq_some_iff.1 hm
    refine V_call Tryd.call35 rfl rfl rfl rfl (portref2_ratio_minus_c (Dw := Dw) w206 hA x201 v202 h203 v204 h205 x167 v196 h197 v198 h199 hx209) ?_
    rintro _ w214 ⟨v210, v212, rfl, h211, h213, hk215⟩
    have ht216 := Kp.tr hk215 hA hB
    replace hH := Hp.kp hH hk215
    replace h192 := Sl.tr h192 ht216
    replace h194 := Sl.tr h194 ht216
    replace hK := Tr.trans hK ht216
    replace hB := Nat.le_trans hB ht216.ex.size
    replace hA := ht216.new
    refine V_CH (Dw := Dw) (hk215) ?_
    refine CH_l1 (Dw := Dw) (k := 0) rfl ?_
    obtain ⟨x217, hx217, hm⟩ := Option.bind_eq_some_iff.1 hm
    refine V_call Tryd.call37 rfl rfl rfl rfl (portref2_ratio_by_c (Dw := Dw) w214 hA x94 v191 h192 v193 h194 x209 v210 h211 v212 h213 hx217) ?_
    rintro _ w222 ⟨v218, v220, rfl, h219, h221, hk223⟩
    have ht224 := Kp.tr hk223 hA hB
    replace hH := Hp.kp hH hk223
    replace hK := Tr.trans hK ht224
    replace hB := Nat.le_trans hB ht224.ex.size
    replace hA := ht224.new
    refine V_CH (Dw := Dw) (hk223) ?_
    refine CH_l1 (Dw := Dw) (k := 2) rfl ?_
    have h230 : (v218).oneCell' = true := by obtain ⟨_, _, e, _⟩ := Sl.form h219; rw [e]; rfl
    have h233 : (v220).oneCell' = true := by obtain ⟨_, _, e, _⟩ := Sl.form h221; rw [e]; rfl
    refine V_storeC (Dw := Dw) (off := 0) (ds := [v218, v220]) hH (i := 0) rfl Tryd.sizeOf41 rfl (Nat.le_of_ble_eq_true rfl) (by exact (List.forall_mem_cons.2 ⟨h230, (List.forall_mem_cons.2 ⟨h233, (fun _ h => nomatch h)⟩)⟩)) rfl hB hA rfl rfl ?_
    intro w225 hH226 ht227
    replace h219 := Sl.tr h219 ht227
    replace h221 := Sl.tr h221 ht227
    replace hK := Tr.trans hK ht227
    replace hH : Hp w.heap.size A184 w225 (obC b7 [v218, v220] 41 :: []) := hH226
    refine V_CHw (Dw := Dw) ?_
    refine CH_tail (Dw := Dw) ?_
    show V _ _ _ _ [] _ _
    refine V_to (fun _ _ => rfl) ?_
    obtain rfl := Option.some.inj hm
    refine C_ret ?_
    try simp only [↓inBlock_ret, ↓then_ret]
    exact retQ rfl (Res.l1 Tryd.results16 (RL.cell rfl (loadVar_agg (Hp.part (off := 0) (n := 2) (ds := [v218, v220]) hH (i := 0) rfl rfl) Tryd.isAgg41 Tryd.sizeOf41))) ⟨v218, v220, rfl, (Sl.out (Dw := Dw) h219 hA0 hK), (Sl.out (Dw := Dw) h221 hA0 hK), hK.kp⟩
   obtain ⟨x234, hx234, hm⟩ := Option.bind_eq_some_iff.1 hm
   refine V_call Tryd.call29 rfl rfl rfl rfl (portref2_rat_c (Dw := Dw) w116 hA 1 1 hx234) ?_
   rintro _ w239 ⟨v235, v237, rfl, h236, h238, hk240⟩
   have ht241 := Kp.tr hk240 hA hB
   replace hH := Hp.kp hH hk240
   replace h113 := El.tr h113 ht241
   replace h120 := Sl.tr h120 ht241
   replace h122 := Sl.tr h122 ht241
   replace h125 := Sl.tr h125 ht241
   replace h127 := Sl.tr h127 ht241
   replace hK := Tr.trans hK ht241
   replace hB := Nat.le_trans hB ht241.ex.size
   replace hA := ht241.new
   refine V_CHZ (Dw := Dw) (hk240) ?_
   refine CHZ_l1 (Dw := Dw) (k := 0) [(2, 8), (2, 2), (2, 4), (2, 6), (2, 7), (4, 9)] rfl ?_ rfl ?_
   ·refine CH_l1 (Dw := Dw) (k := 0) rfl ?_
    refine V_allocHk (Dw := Dw) (B := w.heap.size) hH Tryd.zeroValue41 hB hA rfl ?_
    intro b242 w243 A244 hk247 hH245 ht246
    replace h113 := El.tr h113 ht246
    replace h120 := Sl.tr h120 ht246
    replace h122 := Sl.tr h122 ht246
    replace h125 := Sl.tr h125 ht246
    replace h127 := Sl.tr h127 ht246
    replace h236 := Sl.tr h236 ht246
    replace h238 := Sl.tr h238 ht246
    replace hK := Tr.trans hK ht246
    replace hB := Nat.le_trans hB ht246.ex.size
    replace hA := ht246.new
    replace hH : Hp w.heap.size A244 w243 (obC b242 [.slice none 0 0, .slice none 0 0] 41 :: obC b7 [.slice none 0 0, .slice none 0 0] 41 :: []) := hH245
    refine V_CH (Dw := Dw) (hk247) ?_
    refine CH_l1 (Dw := Dw) (k := 0) rfl ?_
    obtain ⟨x248, hx248, hm⟩ := Option.bind_eq_some_iff.1 hm
    refine V_call Tryd.call35 rfl rfl rfl rfl (portref2_ratio_minus_c (Dw := Dw) w243 hA x234 v235 h236 v237 h238 x94 v119 h120 v121 h122 hx248) ?_
    rintro _ w253 ⟨v249, v251, rfl, h250, h252, hk254⟩
    have ht255 := Kp.tr hk254 hA hB
    replace hH := Hp.kp hH hk254
    replace h113 := El.tr h113 ht255
    replace h125 := Sl.tr h125 ht255
    replace h127 := Sl.tr h127 ht255
    replace hK := Tr.trans hK ht255
    replace hB := Nat.le_trans hB ht255.ex.size
    replace hA := ht255.new
    refine V_CH (Dw := Dw) (hk254) ?_
    refine CH_l1 (Dw := Dw) (k := 0) rfl ?_
    obtain ⟨x256, hx256, hm⟩ := Option.bind_eq_some_iff.1 hm
    refine V_call Tryd.call36 rfl rfl rfl rfl (portref2_ratio_times_c (Dw := Dw) w253 hA x248 v249 h250 v251 h252 x14 v124 h125 v126 h127 hx256) ?_
    rintro _ w261 ⟨v257, v259, rfl, h258, h260, hk262⟩
    have ht263 := Kp.tr hk262 hA hB
    replace hH := Hp.kp hH hk262
    replace h113 := El.tr h113 ht263
    replace hK := Tr.trans hK ht263
    replace hB := Nat.le_trans hB ht263.ex.size
    replace hA := ht263.new
    refine V_CH (Dw := Dw) (hk262) ?_
    refine CH_l1 (Dw := Dw) (k := 0) rfl ?_
    obtain ⟨x264, hx264, hm⟩ := Option.bind_eq_some_iff.1 hm
    refine V_call Tryd.call29 rfl rfl rfl rfl (portref2_rat_c (Dw := Dw) w261 hA n 1 hx264) ?_
    rintro _ w269 ⟨v265, v267, rfl, h266, h268, hk270⟩
    have ht271 := Kp.tr hk270 hA hB
    replace hH := Hp.kp hH hk270
    replace h113 := El.tr h113 ht271
    replace h258 := Sl.tr h258 ht271
    replace h260 := Sl.tr h260 ht271
    replace hK := Tr.trans hK ht271
    replace hB := Nat.le_trans hB ht271.ex.size
    replace hA := ht271.new
    refine V_CH (Dw := Dw) (hk270) ?_
    refine CH_l1 (Dw := Dw) (k := 0) rfl ?_
    obtain ⟨x272, hx272, hm⟩ := Option.bind_eq_some_iff.1 hm
    refine V_call Tryd.call37 rfl rfl rfl rfl (portref2_ratio_by_c (Dw := Dw) w269 hA x256 v257 h258 v259 h260 x264 v265 h266 v267 h268 hx272) ?_
    rintro _ w277 ⟨v273, v275, rfl, h274, h276, hk278⟩
    have ht279 := Kp.tr hk278 hA hB
    replace hH := Hp.kp hH hk278
    replace h113 := El.tr h113 ht279
    replace hK := Tr.trans hK ht279
    replace hB := Nat.le_trans hB ht279.ex.size
    replace hA := ht279.new
    refine V_CH (Dw := Dw) (hk278) ?_
    refine CH_l1 (Dw := Dw) (k := 2) rfl ?_
    have h285 : (v273).oneCell' = true := by obtain ⟨_, _, e, _⟩ := Sl.form h274; rw [e]; rfl
    have h288 : (v275).oneCell' = true := by obtain ⟨_, _, e, _⟩ := Sl.form h276; rw [e]; rfl
    refine V_storeC (Dw := Dw) (off := 0) (ds := [v273, v275]) hH (i := 0) rfl Tryd.sizeOf41 rfl (Nat.le_of_ble_eq_true rfl) (by exact (List.forall_mem_cons.2 ⟨h285, (List.forall_mem_cons.2 ⟨h288, (fun _ h => nomatch h)⟩)⟩)) rfl hB hA rfl rfl ?_
    intro w280 hH281 ht282
    replace h113 := El.tr h113 ht282
    replace h274 := Sl.tr h274 ht282
    replace h276 := Sl.tr h276 ht282
    replace hK := Tr.trans hK ht282
    replace hB := Nat.le_trans hB ht282.ex.size
    replace hA := ht282.new
    replace hH : Hp w.heap.size A244 w280 (obC b242 [v273, v275] 41 :: obC b7 [.slice none 0 0, .slice none 0 0] 41 :: []) := hH281
    obtain ⟨A289, ht290, h291, hH292⟩ := Hp.freezeC (Dw := Dw) (α := portref2_ratio) (x := x272) hH (i := 0) rfl hA (by exact ⟨[v273], _, rfl, ⟨_, rfl, h274⟩, ⟨_, rfl, h276⟩⟩)
    replace h113 := El.tr h113 ht290
    replace hK := Tr.trans hK ht290
    replace hB := Nat.le_trans hB ht290.ex.size
    replace hA := ht290.new
    replace hH : Hp w.heap.size A289 w280 (obC b7 [.slice none 0 0, .slice none 0 0] 41 :: []) := hH292
    refine V_CHw (Dw := Dw) ?_
    refine CH_tail (Dw := Dw) ?_
    show V _ _ _ _ [] _ _
    refine V_to (fun _ _ => rfl) ?_
    refine C_seq ?_
    refine C_region_ch (Dw := Dw) A289 6 [(1, 0), (1, 2), (2, 1), (2, 3), (2, 4), (4, 5)] Tryd_mixed (by kernel_rfl) (fun w293 hk294 => ?_)
    have ht295 := Kp.tr hk294 hA hB
    replace hH := Hp.kp hH hk294
    replace h113 := El.tr h113 ht295
    replace h291 := El.tr h291 ht295
    replace hK := Tr.trans hK ht295
    replace hB := Nat.le_trans hB ht295.ex.size
    replace hA := ht295.new
    refine CH_q2 (Dw := Dw) rfl ?_
    obtain ⟨v296, v298, h300, h297, h299⟩ := El_portref2_ratio h113
    refine VQ_y (fun w' hw' => Y_loadA (At.same h300 (hw'.2 _ h113.2.1 h113.1)) Tryd.isAgg41 Tryd.sizeOf41 rfl) rfl rfl rfl ?_
    refine VQ_CH (Dw := Dw) ?_
    refine CH_q2 (Dw := Dw) rfl ?_
    obtain ⟨v301, v303, h305, h302, h304⟩ := El_portref2_ratio h291
    refine VQ_y (fun w' hw' => Y_loadA (At.same h305 (hw'.2 _ h291.2.1 h291.1)) Tryd.isAgg41 Tryd.sizeOf41 rfl) rfl rfl rfl ?_
    refine VQ_CH (Dw := Dw) ?_
    refine CH_l1 (Dw := Dw) (k := 0) rfl ?_
    obtain ⟨x306, hx306, hm⟩ := Option.bind_eq_some_iff.1 hm
    refine V_call Tryd.call29 rfl rfl rfl rfl (portref2_rat_c (Dw := Dw) w293 hA 1 1 hx306) ?_
    rintro _ w311 ⟨v307, v309, rfl, h308, h310, hk312⟩
    have ht313 := Kp.tr hk312 hA hB
    replace hH := Hp.kp hH hk312
    replace h297 := Sl.tr h297 ht313
    replace h299 := Sl.tr h299 ht313
    replace h302 := Sl.tr h302 ht313
    replace h304 := Sl.tr h304 ht313
    replace hK := Tr.trans hK ht313
    replace hB := Nat.le_trans hB ht313.ex.size
    replace hA := ht313.new
    refine V_CH (Dw := Dw) (hk312) ?_
    refine CH_l1 (Dw := Dw) (k := 0) rfl ?_
    obtain ⟨x314, hx314, hm⟩ := Option.bind_eq_some_iff.1 hm
    refine V_call Tryd.call35 rfl rfl rfl rfl (portref2_ratio_minus_c (Dw := Dw) w311 hA x306 v307 h308 v309 h310 x272 v301 h302 v303 h304 hx314) ?_
    rintro _ w319 ⟨v315, v317, rfl, h316, h318, hk320⟩
    have ht321 := Kp.tr hk320 hA hB
    replace hH := Hp.kp hH hk320
    replace h297 := Sl.tr h297 ht321
    replace h299 := Sl.tr h299 ht321
    replace hK := Tr.trans hK ht321
    replace hB := Nat.le_trans hB ht321.ex.size
    replace hA := ht321.new
    refine V_CH (Dw := Dw) (hk320) ?_
    refine CH_l1 (Dw := Dw) (k := 0) rfl ?_
    obtain ⟨x322, hx322, hm⟩ := Option.bind_eq_some_iff.1 hm
    refine V_call Tryd.call37 rfl rfl rfl rfl (portref2_ratio_by_c (Dw := Dw) w319 hA x94 v296 h297 v298 h299 x314 v315 h316 v317 h318 hx322) ?_
    rintro _ w327 ⟨v323, v325, rfl, h324, h326, hk328⟩
    have ht329 := Kp.tr hk328 hA hB
    replace hH := Hp.kp hH hk328
    replace hK := Tr.trans hK ht329
    replace hB := Nat.le_trans hB ht329.ex.size
    replace hA := ht329.new
    refine V_CH (Dw := Dw) (hk328) ?_
    refine CH_l1 (Dw := Dw) (k := 2) rfl ?_
    have h335 : (v323).oneCell' = true := by obtain ⟨_, _, e, _⟩ := Sl.form h324; rw [e]; rfl
    have h338 : (v325).oneCell' = true := by obtain ⟨_, _, e, _⟩ := Sl.form h326; rw [e]; rfl
    refine V_storeC (Dw := Dw) (off := 0) (ds := [v323, v325]) hH (i := 0) rfl Tryd.sizeOf41 rfl (Nat.le_of_ble_eq_true rfl) (by exact (List.forall_mem_cons.2 ⟨h335, (List.forall_mem_cons.2 ⟨h338, (fun _ h => nomatch h)⟩)⟩)) rfl hB hA rfl rfl ?_
    intro w330 hH331 ht332
    replace h324 := Sl.tr h324 ht332
    replace h326 := Sl.tr h326 ht332
    replace hK := Tr.trans hK ht332
    replace hH : Hp w.heap.size A289 w330 (obC b7 [v323, v325] 41 :: []) := hH331
    refine V_CHw (Dw := Dw) ?_
    refine CH_tail (Dw := Dw) ?_
    show V _ _ _ _ [] _ _
    refine V_to (fun _ _ => rfl) ?_
    obtain rfl := Option.some.inj hm
    refine C_ret ?_
    try simp only [↓inBlock_ret, ↓then_ret]
    exact retQ rfl (Res.l1 Tryd.results16 (RL.cell rfl (loadVar_agg (Hp.part (off := 0) (n := 2) (ds := [v323, v325]) hH (i := 0) rfl rfl) Tryd.isAgg41 Tryd.sizeOf41))) ⟨v323, v325, rfl, (Sl.out (Dw := Dw) h324 hA0 hK), (Sl.out (Dw := Dw) h326 hA0 hK), hK.kp⟩
   obtain ⟨x339, hx339, hm⟩ := Option.bind_eq_some_iff.1 hm
   refine V_call Tryd.call35 rfl rfl rfl rfl (portref2_ratio_minus_c (Dw := Dw) w239 hA x234 v235 h236 v237 h238 x94 v119 h120 v121 h122 hx339) ?_
   rintro _ w344 ⟨v340, v342, rfl, h341, h343, hk345⟩
   have ht346 := Kp.tr hk345 hA hB
   replace hH := Hp.kp hH hk345
   replace h113 := El.tr h113 ht346
   replace h125 := Sl.tr h125 ht346
   replace h127 := Sl.tr h127 ht346
   replace hK := Tr.trans hK ht346
   replace hB := Nat.le_trans hB ht346.ex.size
   replace hA := ht346.new
   refine V_CHZ (Dw := Dw) (hk345) ?_
   refine CHZ_l1 (Dw := Dw) (k := 0) [(2, 8), (2, 4), (2, 6), (2, 7), (4, 9)] rfl ?_ rfl ?_
   ·refine CH_l1 (Dw := Dw) (k := 0) rfl ?_
    refine V_allocHk (Dw := Dw) (B := w.heap.size) hH Tryd.zeroValue41 hB hA rfl ?_
    intro b347 w348 A349 hk352 hH350 ht351
    replace h113 := El.tr h113 ht351
    replace h125 := Sl.tr h125 ht351
    replace h127 := Sl.tr h127 ht351
    replace h341 := Sl.tr h341 ht351
    replace h343 := Sl.tr h343 ht351
    replace hK := Tr.trans hK ht351
    replace hB := Nat.le_trans hB ht351.ex.size
    replace hA := ht351.new
    replace hH : Hp w.heap.size A349 w348 (obC b347 [.slice none 0 0, .slice none 0 0] 41 :: obC b7 [.slice none 0 0, .slice none 0 0] 41 :: []) := hH350
    refine V_CH (Dw := Dw) (hk352) ?_
    refine CH_l1 (Dw := Dw) (k := 0) rfl ?_
    obtain ⟨x353, hx353, hm⟩ := Option.bind_eq_some_iff.1 hm
    refine V_call Tryd.call36 rfl rfl rfl rfl (portref2_ratio_times_c (Dw := Dw) w348 hA x339 v340 h341 v342 h343 x14 v124 h125 v126 h127 hx353) ?_
    rintro _ w358 ⟨v354, v356, rfl, h355, h357, hk359⟩
    have ht360 := Kp.tr hk359 hA hB
    replace hH := Hp.kp hH hk359
    replace h113 := El.tr h113 ht360
    replace hK := Tr.trans hK ht360
    replace hB := Nat.le_trans hB ht360.ex.size
    replace hA := ht360.new
    refine V_CH (Dw := Dw) (hk359) ?_
    refine CH_l1 (Dw := Dw) (k := 0) rfl ?_
    obtain ⟨x361, hx361, hm⟩ := Option.bind_eq_some_iff.1 hm
    refine V_call Tryd.call29 rfl rfl rfl rfl (portref2_rat_c (Dw := Dw) w358 hA n 1 hx361) ?_
    rintro _ w366 ⟨v362, v364, rfl, h363, h365, hk367⟩
    have ht368 := Kp.tr hk367 hA hB
    replace hH := Hp.kp hH hk367
    replace h113 := El.tr h113 ht368
    replace h355 := Sl.tr h355 ht368
    replace h357 := Sl.tr h357 ht368
    replace hK := Tr.trans hK ht368
    replace hB := Nat.le_trans hB ht368.ex.size
    replace hA := ht368.new
    refine V_CH (Dw := Dw) (hk367) ?_
    refine CH_l1 (Dw := Dw) (k := 0) rfl ?_
    obtain ⟨x369, hx369, hm⟩ := Option.bind_eq_some_iff.1 hm
    refine V_call Tryd.call37 rfl rfl rfl rfl (portref2_ratio_by_c (Dw := Dw) w366 hA x353 v354 h355 v356 h357 x361 v362 h363 v364 h365 hx369) ?_
    rintro _ w374 ⟨v370, v372, rfl, h371, h373, hk375⟩
    have ht376 := Kp.tr hk375 hA hB
    replace hH := Hp.kp hH hk375
    replace h113 := El.tr h113 ht376
    replace hK := Tr.trans hK ht376
    replace hB := Nat.le_trans hB ht376.ex.size
    replace hA := ht376.new
    refine V_CH (Dw := Dw) (hk375) ?_
    refine CH_l1 (Dw := Dw) (k := 2) rfl ?_
    have h382 : (v370).oneCell' = true := by obtain ⟨_, _, e, _⟩ := Sl.form h371; rw [e]; rfl
    have h385 : (v372).oneCell' = true := by obtain ⟨_, _, e, _⟩ := Sl.form h373; rw [e]; rfl
    refine V_storeC (Dw := Dw) (off := 0) (ds := [v370, v372]) hH (i := 0) rfl Tryd.sizeOf41 rfl (Nat.le_of_ble_eq_true rfl) (by exact (List.forall_mem_cons.2 ⟨h382, (List.forall_mem_cons.2 ⟨h385, (fun _ h => nomatch h)⟩)⟩)) rfl hB hA rfl rfl ?_
    intro w377 hH378 ht379
    replace h113 := El.tr h113 ht379
    replace h371 := Sl.tr h371 ht379
    replace h373 := Sl.tr h373 ht379
    replace hK := Tr.trans hK ht379
    replace hB := Nat.le_trans hB ht379.ex.size
    replace hA := ht379.new
    replace hH : Hp w.heap.size A349 w377 (obC b347 [v370, v372] 41 :: obC b7 [.slice none 0 0, .slice none 0 0] 41 :: []) := hH378
    obtain ⟨A386, ht387, h388, hH389⟩ := Hp.freezeC (Dw := Dw) (α := portref2_ratio) (x := x369) hH (i := 0) rfl hA (by exact ⟨[v370], _, rfl, ⟨_, rfl, h371⟩, ⟨_, rfl, h373⟩⟩)
    replace h113 := El.tr h113 ht387
    replace hK := Tr.trans hK ht387
    replace hB := Nat.le_trans hB ht387.ex.size
    replace hA := ht387.new
    replace hH : Hp w.heap.size A386 w377 (obC b7 [.slice none 0 0, .slice none 0 0] 41 :: []) := hH389
    refine V_CHw (Dw := Dw) ?_
    refine CH_tail (Dw := Dw) ?_
    show V _ _ _ _ [] _ _
    refine V_to (fun _ _ => rfl) ?_
    refine C_seq ?_
    refine C_region_ch (Dw := Dw) A386 6 [(1, 0), (1, 2), (2, 1), (2, 3), (2, 4), (4, 5)] Tryd_mixed (by kernel_rfl) (fun w390 hk391 => ?_)
    have ht392 := Kp.tr hk391 hA hB
    replace hH := Hp.kp hH hk391
    replace h113 := El.tr h113 ht392
    replace h388 := El.tr h388 ht392
    replace hK := Tr.trans hK ht392
    replace hB := Nat.le_trans hB ht392.ex.size
    replace hA := ht392.new
    refine CH_q2 (Dw := Dw) rfl ?_
    obtain ⟨v393, v395, h397, h394, h396⟩ := El_portref2_ratio h113
    refine VQ_y (fun w' hw' => Y_loadA (At.same h397 (hw'.2 _ h113.2.1 h113.1)) Tryd.isAgg41 Tryd.sizeOf41 rfl) rfl rfl rfl ?_
    refine VQ_CH (Dw := Dw) ?_
    refine CH_q2 (Dw := Dw) rfl ?_
    obtain ⟨v398, v400, h402, h399, h401⟩ := El_portref2_ratio h388
    refine VQ_y (fun w' hw' => Y_loadA (At.same h402 (hw'.2 _ h388.2.1 h388.1)) Tryd.isAgg41 Tryd.sizeOf41 rfl) rfl rfl rfl ?_
    refine VQ_CH (Dw := Dw) ?_
    refine CH_l1 (Dw := Dw) (k := 0) rfl ?_
    obtain ⟨x403, hx403, hm⟩ := Option.bind_eq_some_iff.1 hm
    refine V_call Tryd.call29 rfl rfl rfl rfl (portref2_rat_c (Dw := Dw) w390 hA 1 1 hx403) ?_
    rintro _ w408 ⟨v404, v406, rfl, h405, h407, hk409⟩
    have ht410 := Kp.tr hk409 hA hB
    replace hH := Hp.kp hH hk409
    replace h394 := Sl.tr h394 ht410
    replace h396 := Sl.tr h396 ht410
    replace h399 := Sl.tr h399 ht410
    replace h401 := Sl.tr h401 ht410
    replace hK := Tr.trans hK ht410
    replace hB := Nat.le_trans hB ht410.ex.size
    replace hA := ht410.new
    refine V_CH (Dw := Dw) (hk409) ?_
    refine CH_l1 (Dw := Dw) (k := 0) rfl ?_
    obtain ⟨x411, hx411, hm⟩ := Option.bind_eq_some_iff.1 hm
    refine V_call Tryd.call35 rfl rfl rfl rfl (portref2_ratio_minus_c (Dw := Dw) w408 hA x403 v404 h405 v406 h407 x369 v398 h399 v400 h401 hx411) ?_
    rintro _ w416 ⟨v412, v414, rfl, h413, h415, hk417⟩
    have ht418 := Kp.tr hk417 hA hB
    replace hH := Hp.kp hH hk417
    replace h394 := Sl.tr h394 ht418
    replace h396 := Sl.tr h396 ht418
    replace hK := Tr.trans hK ht418
    replace hB := Nat.le_trans hB ht418.ex.size
    replace hA := ht418.new
    refine V_CH (Dw := Dw) (hk417) ?_
    refine CH_l1 (Dw := Dw) (k := 0) rfl ?_
    obtain ⟨x419, hx419, hm⟩ := Option.bind_eq_some_iff.1 hm
    refine V_call Tryd.call37 rfl rfl rfl rfl (portref2_ratio_by_c (Dw := Dw) w416 hA x94 v393 h394 v395 h396 x411 v412 h413 v414 h415 hx419) ?_
    rintro _ w424 ⟨v420, v422, rfl, h421, h423, hk425⟩
    have ht426 := Kp.tr hk425 hA hB
    replace hH := Hp.kp hH hk425
    replace hK := Tr.trans hK ht426
    replace hB := Nat.le_trans hB ht426.ex.size
    replace hA := ht426.new
    refine V_CH (Dw := Dw) (hk425) ?_
    refine CH_l1 (Dw := Dw) (k := 2) rfl ?_
    have h432 : (v420).oneCell' = true := by obtain ⟨_, _, e, _⟩ := Sl.form h421; rw [e]; rfl
    have h435 : (v422).oneCell' = true := by obtain ⟨_, _, e, _⟩ := Sl.form h423; rw [e]; rfl
    refine V_storeC (Dw := Dw) (off := 0) (ds := [v420, v422]) hH (i := 0) rfl Tryd.sizeOf41 rfl (Nat.le_of_ble_eq_true rfl) (by exact (List.forall_mem_cons.2 ⟨h432, (List.forall_mem_cons.2 ⟨h435, (fun _ h => nomatch h)⟩)⟩)) rfl hB hA rfl rfl ?_
    intro w427 hH428 ht429
    replace h421 := Sl.tr h421 ht429
    replace h423 := Sl.tr h423 ht429
    replace hK := Tr.trans hK ht429
    replace hH : Hp w.heap.size A386 w427 (obC b7 [v420, v422] 41 :: []) := hH428
    refine V_CHw (Dw := Dw) ?_
    refine CH_tail (Dw := Dw) ?_
    show V _ _ _ _ [] _ _
    refine V_to (fun _ _ => rfl) ?_
    obtain rfl := Option.some.inj hm
    refine C_ret ?_
    try simp only [↓inBlock_ret, ↓then_ret]
    exact retQ rfl (Res.l1 Tryd.results16 (RL.cell rfl (loadVar_agg (Hp.part (off := 0) (n := 2) (ds := [v420, v422]) hH (i := 0) rfl rfl) Tryd.isAgg41 Tryd.sizeOf41))) ⟨v420, v422, rfl, (Sl.out (Dw := Dw) h421 hA0 hK), (Sl.out (Dw := Dw) h423 hA0 hK), hK.kp⟩
   obtain ⟨x436, hx436, hm⟩ := Option.bind_eq_some_iff.1 hm
   refine V_call Tryd.call36 rfl rfl rfl rfl (portref2_ratio_times_c (Dw := Dw) w344 hA x339 v340 h341 v342 h343 x14 v124 h125 v126 h127 hx436) ?_
   rintro _ w441 ⟨v437, v439, rfl, h438, h440, hk442⟩
   have ht443 := Kp.tr hk442 hA hB
   replace hH := Hp.kp hH hk442
   replace h113 := El.tr h113 ht443
   replace hK := Tr.trans hK ht443
   replace hB := Nat.le_trans hB ht443.ex.size
   replace hA := ht443.new
   refine V_CHZ (Dw := Dw) (hk442) ?_
   refine CHZ_l1 (Dw := Dw) (k := 0) [(2, 8), (2, 6), (2, 7), (4, 9)] rfl ?_ rfl ?_
   ·refine CH_l1 (Dw := Dw) (k := 0) rfl ?_
    refine V_allocHk (Dw := Dw) (B := w.heap.size) hH Tryd.zeroValue41 hB hA rfl ?_
    intro b444 w445 A446 hk449 hH447 ht448
    replace h113 := El.tr h113 ht448
    replace h438 := Sl.tr h438 ht448
    replace h440 := Sl.tr h440 ht448
    replace hK := Tr.trans hK ht448
    replace hB := Nat.le_trans hB ht448.ex.size
    replace hA := ht448.new
    replace hH : Hp w.heap.size A446 w445 (obC b444 [.slice none 0 0, .slice none 0 0] 41 :: obC b7 [.slice none 0 0, .slice none 0 0] 41 :: []) := hH447
    refine V_CH (Dw := Dw) (hk449) ?_
    refine CH_l1 (Dw := Dw) (k := 0) rfl ?_
    obtain ⟨x450, hx450, hm⟩ := Option.bind_eq_some_iff.1 hm
    refine V_call Tryd.call29 rfl rfl rfl rfl (portref2_rat_c (Dw := Dw) w445 hA n 1 hx450) ?_
    rintro _ w455 ⟨v451, v453, rfl, h452, h454, hk456⟩
    have ht457 := Kp.tr hk456 hA hB
    replace hH := Hp.kp hH hk456
    replace h113 := El.tr h113 ht457
    replace h438 := Sl.tr h438 ht457
    replace h440 := Sl.tr h440 ht457
    replace hK := Tr.trans hK ht457
    replace hB := Nat.le_trans hB ht457.ex.size
    replace hA := ht457.new
    refine V_CH (Dw := Dw) (hk456) ?_
    refine CH_l1 (Dw := Dw) (k := 0) rfl ?_
    obtain ⟨x458, hx458, hm⟩ := Option.bind_eq_some_iff.1 hm
    refine V_call Tryd.call37 rfl rfl rfl rfl (portref2_ratio_by_c (Dw := Dw) w455 hA x436 v437 h438 v439 h440 x450 v451 h452 v453 h454 hx458) ?_
    rintro _ w463 ⟨v459, v461, rfl, h460, h462, hk464⟩
    have ht465 := Kp.tr hk464 hA hB
    replace hH := Hp.kp hH hk464
    replace h113 := El.tr h113 ht465
    replace hK := Tr.trans hK ht465
    replace hB := Nat.le_trans hB ht465.ex.size
    replace hA := ht465.new
    refine V_CH (Dw := Dw) (hk464) ?_
    refine CH_l1 (Dw := Dw) (k := 2) rfl ?_
    have h471 : (v459).oneCell' = true := by obtain ⟨_, _, e, _⟩ := Sl.form h460; rw [e]; rfl
    have h474 : (v461).oneCell' = true := by obtain ⟨_, _, e, _⟩ := Sl.form h462; rw [e]; rfl
    refine V_storeC (Dw := Dw) (off := 0) (ds := [v459, v461]) hH (i := 0) rfl Tryd.sizeOf41 rfl (Nat.le_of_ble_eq_true rfl) (by exact (List.forall_mem_cons.2 ⟨h471, (List.forall_mem_cons.2 ⟨h474, (fun _ h => nomatch h)⟩)⟩)) rfl hB hA rfl rfl ?_
    intro w466 hH467 ht468
    replace h113 := El.tr h113 ht468
    replace h460 := Sl.tr h460 ht468
    replace h462 := Sl.tr h462 ht468
    replace hK := Tr.trans hK ht468
    replace hB := Nat.le_trans hB ht468.ex.size
    replace hA := ht468.new
    replace hH : Hp w.heap.size A446 w466 (obC b444 [v459, v461] 41 :: obC b7 [.slice none 0 0, .slice none 0 0] 41 :: []) := hH467
    obtain ⟨A475, ht476, h477, hH478⟩ := Hp.freezeC (Dw := Dw) (α := portref2_ratio) (x := x458) hH (i := 0) rfl hA (by exact ⟨[v459], _, rfl, ⟨_, rfl, h460⟩, ⟨_, rfl, h462⟩⟩)
    replace h113 := El.tr h113 ht476
    replace hK := Tr.trans hK ht476
    replace hB := Nat.le_trans hB ht476.ex.size
    replace hA := ht476.new
    replace hH : Hp w.heap.size A475 w466 (obC b7 [.slice none 0 0, .slice none 0 0] 41 :: []) := hH478
    refine V_CHw (Dw := Dw) ?_
    refine CH_tail (Dw := Dw) ?_
    show V _ _ _ _ [] _ _
    refine V_to (fun _ _ => rfl) ?_
    refine C_seq ?_
    refine C_region_ch (Dw := Dw) A475 6 [(1, 0), (1, 2), (2, 1), (2, 3), (2, 4), (4, 5)] Tryd_mixed (by kernel_rfl) (fun w479 hk480 => ?_)
    have ht481 := Kp.tr hk480 hA hB
    replace hH := Hp.kp hH hk480
    replace h113 := El.tr h113 ht481
    replace h477 := El.tr h477 ht481
    replace hK := Tr.trans hK ht481
    replace hB := Nat.le_trans hB ht481.ex.size
    replace hA := ht481.new
    refine CH_q2 (Dw := Dw) rfl ?_
    obtain ⟨v482, v484, h486, h483, h485⟩ := El_portref2_ratio h113
    refine VQ_y (fun w' hw' => Y_loadA (At.same h486 (hw'.2 _ h113.2.1 h113.1)) Tryd.isAgg41 Tryd.sizeOf41 rfl) rfl rfl rfl ?_
    refine VQ_CH (Dw := Dw) ?_
    refine CH_q2 (Dw := Dw) rfl ?_
    obtain ⟨v487, v489, h491, h488, h490⟩ := El_portref2_ratio h477
    refine VQ_y (fun w' hw' => Y_loadA (At.same h491 (hw'.2 _ h477.2.1 h477.1)) Tryd.isAgg41 Tryd.sizeOf41 rfl) rfl rfl rfl ?_
    refine VQ_CH (Dw := Dw) ?_
    refine CH_l1 (Dw := Dw) (k := 0) rfl ?_
    obtain ⟨x492, hx492, hm⟩ := Option.bind_eq_some_iff.1 hm
    refine V_call Tryd.call29 rfl rfl rfl rfl (portref2_rat_c (Dw := Dw) w479 hA 1 1 hx492) ?_
    rintro _ w497 ⟨v493, v495, rfl, h494, h496, hk498⟩
    have ht499 := Kp.tr hk498 hA hB
    replace hH := Hp.kp hH hk498
    replace h483 := Sl.tr h483 ht499
    replace h485 := Sl.tr h485 ht499
    replace h488 := Sl.tr h488 ht499
    replace h490 := Sl.tr h490 ht499
    replace hK := Tr.trans hK ht499
    replace hB := Nat.le_trans hB ht499.ex.size
    replace hA := ht499.new
    refine V_CH (Dw := Dw) (hk498) ?_
    refine CH_l1 (Dw := Dw) (k := 0) rfl ?_
    obtain ⟨x500, hx500, hm⟩ := Option.bind_eq_some_iff.1 hm
    refine V_call Tryd.call35 rfl rfl rfl rfl (portref2_ratio_minus_c (Dw := Dw) w497 hA x492 v493 h494 v495 h496 x458 v487 h488 v489 h490 hx500) ?_
    rintro _ w505 ⟨v501, v503, rfl, h502, h504, hk506⟩
    have ht507 := Kp.tr hk506 hA hB
    replace hH := Hp.kp hH hk506
    replace h483 := Sl.tr h483 ht507
    replace h485 := Sl.tr h485 ht507
    replace hK := Tr.trans hK ht507
    replace hB := Nat.le_trans hB ht507.ex.size
    replace hA := ht507.new
    refine V_CH (Dw := Dw) (hk506) ?_
    refine CH_l1 (Dw := Dw) (k := 0) rfl ?_
    obtain ⟨x508, hx508, hm⟩ := Option.bind_eq_some_iff.1 hm
    refine V_call Tryd.call37 rfl rfl rfl rfl (portref2_ratio_by_c (Dw := Dw) w505 hA x94 v482 h483 v484 h485 x500 v501 h502 v503 h504 hx508) ?_
    rintro _ w513 ⟨v509, v511, rfl, h510, h512, hk514⟩
    have ht515 := Kp.tr hk514 hA hB
    replace hH := Hp.kp hH hk514
    replace hK := Tr.trans hK ht515
    replace hB := Nat.le_trans hB ht515.ex.size
    replace hA := ht515.new
    refine V_CH (Dw := Dw) (hk514) ?_
    refine CH_l1 (Dw := Dw) (k := 2) rfl ?_
    have h521 : (v509).oneCell' = true := by obtain ⟨_, _, e, _⟩ := Sl.form h510; rw [e]; rfl
    have h524 : (v511).oneCell' = true := by obtain ⟨_, _, e, _⟩ := Sl.form h512; rw [e]; rfl
    refine V_storeC (Dw := Dw) (off := 0) (ds := [v509, v511]) hH (i := 0) rfl Tryd.sizeOf41 rfl (Nat.le_of_ble_eq_true rfl) (by exact (List.forall_mem_cons.2 ⟨h521, (List.forall_mem_cons.2 ⟨h524, (fun _ h => nomatch h)⟩)⟩)) rfl hB hA rfl rfl ?_
    intro w516 hH517 ht518
    replace h510 := Sl.tr h510 ht518
    replace h512 := Sl.tr h512 ht518
    replace hK := Tr.trans hK ht518
    replace hH : Hp w.heap.size A475 w516 (obC b7 [v509, v511] 41 :: []) := hH517
    refine V_CHw (Dw := Dw) ?_
    refine CH_tail (Dw := Dw) ?_
    show V _ _ _ _ [] _ _
    refine V_to (fun _ _ => rfl) ?_
    obtain rfl := Option.some.inj hm
    refine C_ret ?_
    try simp only [↓inBlock_ret, ↓then_ret]
    exact retQ rfl (Res.l1 Tryd.results16 (RL.cell rfl (loadVar_agg (Hp.part (off := 0) (n := 2) (ds := [v509, v511]) hH (i := 0) rfl rfl) Tryd.isAgg41 Tryd.sizeOf41))) ⟨v509, v511, rfl, (Sl.out (Dw := Dw) h510 hA0 hK), (Sl.out (Dw := Dw) h512 hA0 hK), hK.kp⟩
   obtain ⟨x525, hx525, hm⟩ := Option.bind_eq_some_iff.1 hm
   refine V_call Tryd.call29 rfl rfl rfl rfl (portref2_rat_c (Dw := Dw) w441 hA n 1 hx525) ?_
   rintro _ w530 ⟨v526, v528, rfl, h527, h529, hk531⟩
   have ht532 := Kp.tr hk531 hA hB
   replace hH := Hp.kp hH hk531
   replace h113 := El.tr h113 ht532
   replace h438 := Sl.tr h438 ht532
   replace h440 := Sl.tr h440 ht532
   replace hK := Tr.trans hK ht532
   replace hB := Nat.le_trans hB ht532.ex.size
   replace hA := ht532.new
   refine V_CHZ (Dw := Dw) (hk531) ?_
   refine CHZ_l1 (Dw := Dw) (k := 0) [(2, 8), (2, 7), (4, 9)] rfl ?_ rfl ?_
   ·refine CH_l1 (Dw := Dw) (k := 0) rfl ?_
    refine V_allocHk (Dw := Dw) (B := w.heap.size) hH Tryd.zeroValue41 hB hA rfl ?_
    intro b533 w534 A535 hk538 hH536 ht537
    replace h113 := El.tr h113 ht537
    replace h438 := Sl.tr h438 ht537
    replace h440 := Sl.tr h440 ht537
    replace h527 := Sl.tr h527 ht537
    replace h529 := Sl.tr h529 ht537
    replace hK := Tr.trans hK ht537
    replace hB := Nat.le_trans hB ht537.ex.size
    replace hA := ht537.new
    replace hH : Hp w.heap.size A535 w534 (obC b533 [.slice none 0 0, .slice none 0 0] 41 :: obC b7 [.slice none 0 0, .slice none 0 0] 41 :: []) := hH536
    refine V_CH (Dw := Dw) (hk538) ?_
    refine CH_l1 (Dw := Dw) (k := 0) rfl ?_
    obtain ⟨x539, hx539, hm⟩ := Option.bind_eq_some_iff.1 hm
    refine V_call Tryd.call37 rfl rfl rfl rfl (portref2_ratio_by_c (Dw := Dw) w534 hA x436 v437 h438 v439 h440 x525 v526 h527 v528 h529 hx539) ?_
    rintro _ w544 ⟨v540, v542, rfl, h541, h543, hk545⟩
    have ht546 := Kp.tr hk545 hA hB
    replace hH := Hp.kp hH hk545
    replace h113 := El.tr h113 ht546
    replace hK := Tr.trans hK ht546
    replace hB := Nat.le_trans hB ht546.ex.size
    replace hA := ht546.new
    refine V_CH (Dw := Dw) (hk545) ?_
    refine CH_l1 (Dw := Dw) (k := 2) rfl ?_
    have h552 : (v540).oneCell' = true := by obtain ⟨_, _, e, _⟩ := Sl.form h541; rw [e]; rfl
    have h555 : (v542).oneCell' = true := by obtain ⟨_, _, e, _⟩ := Sl.form h543; rw [e]; rfl
    refine V_storeC (Dw := Dw) (off := 0) (ds := [v540, v542]) hH (i := 0) rfl Tryd.sizeOf41 rfl (Nat.le_of_ble_eq_true rfl) (by exact (List.forall_mem_cons.2 ⟨h552, (List.forall_mem_cons.2 ⟨h555, (fun _ h => nomatch h)⟩)⟩)) rfl hB hA rfl rfl ?_
    intro w547 hH548 ht549
    replace h113 := El.tr h113 ht549
    replace h541 := Sl.tr h541 ht549
    replace h543 := Sl.tr h543 ht549
    replace hK := Tr.trans hK ht549
    replace hB := Nat.le_trans hB ht549.ex.size
    replace hA := ht549.new
    replace hH : Hp w.heap.size A535 w547 (obC b533 [v540, v542] 41 :: obC b7 [.slice none 0 0, .slice none 0 0] 41 :: []) := hH548
    obtain ⟨A556, ht557, h558, hH559⟩ := Hp.freezeC (Dw := Dw) (α := portref2_ratio) (x := x539) hH (i := 0) rfl hA (by exact ⟨[v540], _, rfl, ⟨_, rfl, h541⟩, ⟨_, rfl, h543⟩⟩)
    replace h113 := El.tr h113 ht557
    replace hK := Tr.trans hK ht557
    replace hB := Nat.le_trans hB ht557.ex.size
    replace hA := ht557.new
    replace hH : Hp w.heap.size A556 w547 (obC b7 [.slice none 0 0, .slice none 0 0] 41 :: []) := hH559
    refine V_CHw (Dw := Dw) ?_
    refine CH_tail (Dw := Dw) ?_
    show V _ _ _ _ [] _ _
    refine V_to (fun _ _ => rfl) ?_
    refine C_seq ?_
    refine C_region_ch (Dw := Dw) A556 6 [(1, 0), (1, 2), (2, 1), (2, 3), (2, 4), (4, 5)] Tryd_mixed (by kernel_rfl) (fun w560 hk561 => ?_)
    have ht562 := Kp.tr hk561 hA hB
    replace hH := Hp.kp hH hk561
    replace h113 := El.tr h113 ht562
    replace h558 := El.tr h558 ht562
    replace hK := Tr.trans hK ht562
    replace hB := Nat.le_trans hB ht562.ex.size
    replace hA := ht562.new
    refine CH_q2 (Dw := Dw) rfl ?_
    obtain ⟨v563, v565, h567, h564, h566⟩ := El_portref2_ratio h113
    refine VQ_y (fun w' hw' => Y_loadA (At.same h567 (hw'.2 _ h113.2.1 h113.1)) Tryd.isAgg41 Tryd.sizeOf41 rfl) rfl rfl rfl ?_
    refine VQ_CH (Dw := Dw) ?_
    refine CH_q2 (Dw := Dw) rfl ?_
    obtain ⟨v568, v570, h572, h569, h571⟩ := El_portref2_ratio h558
    refine VQ_y (fun w' hw' => Y_loadA (At.same h572 (hw'.2 _ h558.2.1 h558.1)) Tryd.isAgg41 Tryd.sizeOf41 rfl) rfl rfl rfl ?_
    refine VQ_CH (Dw := Dw) ?_
    refine CH_l1 (Dw := Dw) (k := 0) rfl ?_
    obtain ⟨x573, hx573, hm⟩ := Option.bind_eq_some_iff.1 hm
    refine V_call Tryd.call29 rfl rfl rfl rfl (portref2_rat_c (Dw := Dw) w560 hA 1 1 hx573) ?_
    rintro _ w578 ⟨v574, v576, rfl, h575, h577, hk579⟩
    have ht580 := Kp.tr hk579 hA hB
    replace hH := Hp.kp hH hk579
    replace h564 := Sl.tr h564 ht580
    replace h566 := Sl.tr h566 ht580
    replace h569 := Sl.tr h569 ht580
    replace h571 := Sl.tr h571 ht580
    replace hK := Tr.trans hK ht580
    replace hB := Nat.le_trans hB ht580.ex.size
    replace hA := ht580.new
    refine V_CH (Dw := Dw) (hk579) ?_
    refine CH_l1 (Dw := Dw) (k := 0) rfl ?_
    obtain ⟨x581, hx581, hm⟩ := Option.bind_eq_some_iff.1 hm
    refine V_call Tryd.call35 rfl rfl rfl rfl (portref2_ratio_minus_c (Dw := Dw) w578 hA x573 v574 h575 v576 h577 x539 v568 h569 v570 h571 hx581) ?_
    rintro _ w586 ⟨v582, v584, rfl, h583, h585, hk587⟩
    have ht588 := Kp.tr hk587 hA hB
    replace hH := Hp.kp hH hk587
    replace h564 := Sl.tr h564 ht588
    replace h566 := Sl.tr h566 ht588
    replace hK := Tr.trans hK ht588
    replace hB := Nat.le_trans hB ht588.ex.size
    replace hA := ht588.new
    refine V_CH (Dw := Dw) (hk587) ?_
    refine CH_l1 (Dw := Dw) (k := 0) rfl ?_
    obtain ⟨x589, hx589, hm⟩ := Option.bind_eq_some_iff.1 hm
    refine V_call Tryd.call37 rfl rfl rfl rfl (portref2_ratio_by_c (Dw := Dw) w586 hA x94 v563 h564 v565 h566 x581 v582 h583 v584 h585 hx589) ?_
    rintro _ w594 ⟨v590, v592, rfl, h591, h593, hk595⟩
    have ht596 := Kp.tr hk595 hA hB
    replace hH := Hp.kp hH hk595
    replace hK := Tr.trans hK ht596
    replace hB := Nat.le_trans hB ht596.ex.size
    replace hA := ht596.new
    refine V_CH (Dw := Dw) (hk595) ?_
    refine CH_l1 (Dw := Dw) (k := 2) rfl ?_
    have h602 : (v590).oneCell' = true := by obtain ⟨_, _, e, _⟩ := Sl.form h591; rw [e]; rfl
    have h605 : (v592).oneCell' = true := by obtain ⟨_, _, e, _⟩ := Sl.form h593; rw [e]; rfl
    refine V_storeC (Dw := Dw) (off := 0) (ds := [v590, v592]) hH (i := 0) rfl Tryd.sizeOf41 rfl (Nat.le_of_ble_eq_true rfl) (by exact (List.forall_mem_cons.2 ⟨h602, (List.forall_mem_cons.2 ⟨h605, (fun _ h => nomatch h)⟩)⟩)) rfl hB hA rfl rfl ?_
    intro w597 hH598 ht599
    replace h591 := Sl.tr h591 ht599
    replace h593 := Sl.tr h593 ht599
    replace hK := Tr.trans hK ht599
    replace hH : Hp w.heap.size A556 w597 (obC b7 [v590, v592] 41 :: []) := hH598
    refine V_CHw (Dw := Dw) ?_
    refine CH_tail (Dw := Dw) ?_
    show V _ _ _ _ [] _ _
    refine V_to (fun _ _ => rfl) ?_
    obtain rfl := Option.some.inj hm
    refine C_ret ?_
    try simp only [↓inBlock_ret, ↓then_ret]
    exact retQ rfl (Res.l1 Tryd.results16 (RL.cell rfl (loadVar_agg (Hp.part (off := 0) (n := 2) (ds := [v590, v592]) hH (i := 0) rfl rfl) Tryd.isAgg41 Tryd.sizeOf41))) ⟨v590, v592, rfl, (Sl.out (Dw := Dw) h591 hA0 hK), (Sl.out (Dw := Dw) h593 hA0 hK), hK.kp⟩
   obtain ⟨x606, hx606, hm⟩ := Option.bind_eq_some_iff.1 hm
   refine V_call Tryd.call37 rfl rfl rfl rfl (portref2_ratio_by_c (Dw := Dw) w530 hA x436 v437 h438 v439 h440 x525 v526 h527 v528 h529 hx606) ?_
   rintro _ w611 ⟨v607, v609, rfl, h608, h610, hk612⟩
   have ht613 := Kp.tr hk612 hA hB
   replace hH := Hp.kp hH hk612
   replace h113 := El.tr h113 ht613
   replace hK := Tr.trans hK ht613
   replace hB := Nat.le_trans hB ht613.ex.size
   replace hA := ht613.new
   refine V_CHZ (Dw := Dw) (hk612) ?_
   refine CHZ_nil (Dw := Dw) ?_
   refine CH_l1 (Dw := Dw) (k := 0) rfl ?_
   refine V_allocHk (Dw := Dw) (B := w.heap.size) hH Tryd.zeroValue41 hB hA rfl ?_
   intro b614 w615 A616 hk619 hH617 ht618
   replace h113 := El.tr h113 ht618
   replace h608 := Sl.tr h608 ht618
   replace h610 := Sl.tr h610 ht618
   replace hK := Tr.trans hK ht618
   replace hB := Nat.le_trans hB ht618.ex.size
   replace hA := ht618.new
   replace hH : Hp w.heap.size A616 w615 (obC b614 [.slice none 0 0, .slice none 0 0] 41 :: obC b7 [.slice none 0 0, .slice none 0 0] 41 :: []) := hH617
   refine V_CH (Dw := Dw) (hk619) ?_
   refine CH_l1 (Dw := Dw) (k := 2) rfl ?_
   have h625 : (v607).oneCell' = true := by obtain ⟨_, _, e, _⟩ := Sl.form h608; rw [e]; rfl
   have h628 : (v609).oneCell' = true := by obtain ⟨_, _, e, _⟩ := Sl.form h610; rw [e]; rfl
   refine V_storeC (Dw := Dw) (off := 0) (ds := [v607, v609]) hH (i := 0) rfl Tryd.sizeOf41 rfl (Nat.le_of_ble_eq_true rfl) (by exact (List.forall_mem_cons.2 ⟨h625, (List.forall_mem_cons.2 ⟨h628, (fun _ h => nomatch h)⟩)⟩)) rfl hB hA rfl rfl ?_
   intro w620 hH621 ht622
   replace h113 := El.tr h113 ht622
   replace h608 := Sl.tr h608 ht622
   replace h610 := Sl.tr h610 ht622
   replace hK := Tr.trans hK ht622
   replace hB := Nat.le_trans hB ht622.ex.size
   replace hA := ht622.new
   replace hH : Hp w.heap.size A616 w620 (obC b614 [v607, v609] 41 :: obC b7 [.slice none 0 0, .slice none 0 0] 41 :: []) := hH621
   obtain ⟨A629, ht630, h631, hH632⟩ := Hp.freezeC (Dw := Dw) (α := portref2_ratio) (x := x606) hH (i := 0) rfl hA (by exact ⟨[v607], _, rfl, ⟨_, rfl, h608⟩, ⟨_, rfl, h610⟩⟩)
   replace h113 := El.tr h113 ht630
   replace hK := Tr.trans hK ht630
   replace hB := Nat.le_trans hB ht630.ex.size
   replace hA := ht630.new
   replace hH : Hp w.heap.size A629 w620 (obC b7 [.slice none 0 0, .slice none 0 0] 41 :: []) := hH632
   refine V_CHw (Dw := Dw) ?_
   refine CH_tail (Dw := Dw) ?_
   show V _ _ _ _ [] _ _
   refine V_to (fun _ _ => rfl) ?_
   refine C_seq ?_
   refine C_region_ch (Dw := Dw) A629 6 [(1, 0), (1, 2), (2, 1), (2, 3), (2, 4), (4, 5)] Tryd_mixed (by kernel_rfl) (fun w633 hk634 => ?_)
   have ht635 := Kp.tr hk634 hA hB
   replace hH := Hp.kp hH hk634
   replace h113 := El.tr h113 ht635
   replace h631 := El.tr h631 ht635
   replace hK := Tr.trans hK ht635
   replace hB := Nat.le_trans hB ht635.ex.size
   replace hA := ht635.new
   refine CH_q2 (Dw := Dw) rfl ?_
   obtain ⟨v636, v638, h640, h637, h639⟩ := El_portref2_ratio h113
   refine VQ_y (fun w' hw' => Y_loadA (At.same h640 (hw'.2 _ h113.2.1 h113.1)) Tryd.isAgg41 Tryd.sizeOf41 rfl) rfl rfl rfl ?_
   refine VQ_CH (Dw := Dw) ?_
   refine CH_q2 (Dw := Dw) rfl ?_
   obtain ⟨v641, v643, h645, h642, h644⟩ := El_portref2_ratio h631
   refine VQ_y (fun w' hw' => Y_loadA (At.same h645 (hw'.2 _ h631.2.1 h631.1)) Tryd.isAgg41 Tryd.sizeOf41 rfl) rfl rfl rfl ?_
   refine VQ_CH (Dw := Dw) ?_
   refine CH_l1 (Dw := Dw) (k := 0) rfl ?_
   obtain ⟨x646, hx646, hm⟩ := Option.bind_eq_some_iff.1 hm
   refine V_call Tryd.call29 rfl rfl rfl rfl (portref2_rat_c (Dw := Dw) w633 hA 1 1 hx646) ?_
   rintro _ w651 ⟨v647, v649, rfl, h648, h650, hk652⟩
   have ht653 := Kp.tr hk652 hA hB
   replace hH := Hp.kp hH hk652
   replace h637 := Sl.tr h637 ht653
   replace h639 := Sl.tr h639 ht653
   replace h642 := Sl.tr h642 ht653
   replace h644 := Sl.tr h644 ht653
   replace hK := Tr.trans hK ht653
   replace hB := Nat.le_trans hB ht653.ex.size
   replace hA := ht653.new
   refine V_CH (Dw := Dw) (hk652) ?_
   refine CH_l1 (Dw := Dw) (k := 0) rfl ?_
   obtain ⟨x654, hx654, hm⟩ := Option.bind_eq_some_iff.1 hm
   refine V_call Tryd.call35 rfl rfl rfl rfl (portref2_ratio_minus_c (Dw := Dw) w651 hA x646 v647 h648 v649 h650 x606 v641 h642 v643 h644 hx654) ?_
   rintro _ w659 ⟨v655, v657, rfl, h656, h658, hk660⟩
   have ht661 := Kp.tr hk660 hA hB
   replace hH := Hp.kp hH hk660
   replace h637 := Sl.tr h637 ht661
   replace h639 := Sl.tr h639 ht661
   replace hK := Tr.trans hK ht661
   replace hB := Nat.le_trans hB ht661.ex.size
   replace hA := ht661.new
   refine V_CH (Dw := Dw) (hk660) ?_
   refine CH_l1 (Dw := Dw) (k := 0) rfl ?_
   obtain ⟨x662, hx662, hm⟩ := Option.bind_eq_some_iff.1 hm
   refine V_call Tryd.call37 rfl rfl rfl rfl (portref2_ratio_by_c (Dw := Dw) w659 hA x94 v636 h637 v638 h639 x654 v655 h656 v657 h658 hx662) ?_
   rintro _ w667 ⟨v663, v665, rfl, h664, h666, hk668⟩
   have ht669 := Kp.tr hk668 hA hB
   replace hH := Hp.kp hH hk668
   replace hK := Tr.trans hK ht669
   replace hB := Nat.le_trans hB ht669.ex.size
   replace hA := ht669.new
   refine V_CH (Dw := Dw) (hk668) ?_
   refine CH_l1 (Dw := Dw) (k := 2) rfl ?_
   have h675 : (v663).oneCell' = true := by obtain ⟨_, _, e, _⟩ := Sl.form h664; rw [e]; rfl
   have h678 : (v665).oneCell' = true := by obtain ⟨_, _, e, _⟩ := Sl.form h666; rw [e]; rfl
   refine V_storeC (Dw := Dw) (off := 0) (ds := [v663, v665]) hH (i := 0) rfl Tryd.sizeOf41 rfl (Nat.le_of_ble_eq_true rfl) (by exact (List.forall_mem_cons.2 ⟨h675, (List.forall_mem_cons.2 ⟨h678, (fun _ h => nomatch h)⟩)⟩)) rfl hB hA rfl rfl ?_
   intro w670 hH671 ht672
   replace h664 := Sl.tr h664 ht672
   replace h666 := Sl.tr h666 ht672
   replace hK := Tr.trans hK ht672
   replace hH : Hp w.heap.size A629 w670 (obC b7 [v663, v665] 41 :: []) := hH671
   refine V_CHw (Dw := Dw) ?_
   refine CH_tail (Dw := Dw) ?_
   show V _ _ _ _ [] _ _
   refine V_to (fun _ _ => rfl) ?_
   obtain rfl := Option.some.inj hm
   refine C_ret ?_
   try simp only [↓inBlock_ret, ↓then_ret]
   exact retQ rfl (Res.l1 Tryd.results16 (RL.cell rfl (loadVar_agg (Hp.part (off := 0) (n := 2) (ds := [v663, v665]) hH (i := 0) rfl rfl) Tryd.isAgg41 Tryd.sizeOf41))) ⟨v663, v665, rfl, (Sl.out (Dw := Dw) h664 hA0 hK), (Sl.out (Dw := Dw) h666 hA0 hK), hK.kp⟩

set_option maxRecDepth 4000 in
set_option maxHeartbeats 4000000 in
theorem portref2_meanWait_c (w : World) {A : Nat → Prop} (hA : ∀ b, w.heap.size ≤ b → A b) (l : staff_Load) (n : Int) {r : (portref2_ratio × Bool)} (hm : portref2_meanWait l n = some r) : Ret Tryd.prog 17 #[.agg #[.int .i64 l.calls, .int .i64 l.length, .int .i64 l.span], .int .i64 n] w fun v w' => ∃ s0 s1, v = .tuple #[.agg #[s0, s1], .bool r.2] ∧ Sl A w' s0 r.1.num ∧ Sl A w' s1 r.1.den ∧ Kp Dw w w' := by
 unfold portref2_meanWait at hm
 refine enter Tryd.func17 rfl Tryd.ntmps17 rfl ?_
 have hA0 := hA
 have hB := Nat.le_refl w.heap.size
 have hK : Tr Dw w.heap.size A w A w := Tr.refl (Dw := Dw) hA
 have hH : Hp w.heap.size A w [] := Hp.nil
 refine C_seq ?_
 refine C_region ?_
 refine V_box rfl rfl ?_
 intro b1 w2 h3
 have hk5 := h3.kp (Dw := Dw)
 have h4 : El (α := staff_Load) A w2 b1 0 l := h3.el hA ⟨[.int .i64 l.calls], _, rfl, rfl, ⟨[.int .i64 l.length], _, rfl, rfl, rfl⟩⟩
 have ht6 := Kp.tr hk5 hA hB
 replace hH := Hp.kp hH hk5
 replace hK := Tr.trans hK ht6
 replace hB := Nat.le_trans hB ht6.ex.size
 replace hA := ht6.new
 refine V_allocH (Dw := Dw) (B := w.heap.size) hH Tryd.zeroValue41 hB hA rfl ?_
 intro b7 w9 A10 hH11 ht12
 replace h4 := El.tr h4 ht12
 replace hK := Tr.trans hK ht12
 replace hB := Nat.le_trans hB ht12.ex.size
 replace hA := ht12.new
 replace hH : Hp w.heap.size A10 w9 (obC b7 [.slice none 0 0, .slice none 0 0] 41 :: []) := hH11
 refine V_as rfl rfl ?_
 refine V_to (fun _ _ => rfl) ?_
 refine C_seq ?_
 refine C_seq ?_
 refine C_region ?_
 have h13 := El_staff_Load_0 h4
 refine V_y (Y_fieldAddr Tryd.underlying23 rfl Tryd.sizeOf3 (by decide) rfl) rfl rfl rfl ?_
 refine V_y (Y_load (El.int h13) Tryd.isAgg3 rfl) rfl rfl rfl ?_
 refine V_y (Y_eql rfl rfl) rfl rfl rfl ?_
 refine V_to (fun _ _ => rfl) ?_
 refine C_cond rfl (fun hc14 => ?_) (fun hc14 => ?_)
 ·rw [if_pos hc14] at hm
  refine C_seq ?_
  refine C_region ?_
  obtain ⟨x15, hx15, hm⟩ := Option.bind_eq_some_iff.1 hm
  refine V_call Tryd.call29 rfl rfl rfl rfl (portref2_rat_c (Dw := Dw) w9 hA 0 1 hx15) ?_
  rintro _ w20 ⟨v16, v18, rfl, h17, h19, hk21⟩
  have ht22 := Kp.tr hk21 hA hB
  replace hH := Hp.kp hH hk21
  replace hK := Tr.trans hK ht22
  replace hB := Nat.le_trans hB ht22.ex.size
  replace hA := ht22.new
  have h28 : (v16).oneCell' = true := by obtain ⟨_, _, e, _⟩ := Sl.form h17; rw [e]; rfl
  have h31 : (v18).oneCell' = true := by obtain ⟨_, _, e, _⟩ := Sl.form h19; rw [e]; rfl
  refine V_storeC (Dw := Dw) (off := 0) (ds := [v16, v18]) hH (i := 0) rfl Tryd.sizeOf41 rfl (Nat.le_of_ble_eq_true rfl) (by exact (List.forall_mem_cons.2 ⟨h28, (List.forall_mem_cons.2 ⟨h31, (fun _ h => nomatch h)⟩)⟩)) rfl hB hA rfl rfl ?_
  intro w23 hH24 ht25
  replace h17 := Sl.tr h17 ht25
  replace h19 := Sl.tr h19 ht25
  replace hK := Tr.trans hK ht25
  replace hH : Hp w.heap.size A10 w23 (obC b7 [v16, v18] 41 :: []) := hH24
  refine V_as rfl rfl ?_
  refine V_to (fun _ _ => rfl) ?_
  obtain rfl := Option.some.inj hm
  refine C_ret ?_
  try simp only [↓inBlock_ret, ↓then_ret]
  exact retQ rfl (Res.l2 Tryd.results17 (RL.cell rfl (loadVar_agg (Hp.part (off := 0) (n := 2) (ds := [v16, v18]) hH (i := 0) rfl rfl) Tryd.isAgg41 Tryd.sizeOf41)) (RL.tmp rfl)) ⟨v16, v18, rfl, (Sl.out (Dw := Dw) h17 hA0 hK), (Sl.out (Dw := Dw) h19 hA0 hK), hK.kp⟩
 ·rw [if_neg (nt hc14)] at hm
  refine C_skip_to (fun _ _ => rfl) ?_
  refine C_seq ?_
  refine C_seq ?_
  refine C_region_ch (Dw := Dw) A10 6 [(1, 0), (1, 2), (2, 1), (2, 3), (2, 4), (1, 5)] Tryd_mixed (by kernel_rfl) (fun w33 hk34 => ?_)
  have ht35 := Kp.tr hk34 hA hB
  replace hH := Hp.kp hH hk34
  replace h4 := El.tr h4 ht35
  replace hK := Tr.trans hK ht35
  replace hB := Nat.le_trans hB ht35.ex.size
  replace hA := ht35.new
  refine CH_q2 (Dw := Dw) rfl ?_
  refine VQ_y (fun w' hw' => Y_move rfl) rfl rfl rfl ?_
  refine VQ_CH (Dw := Dw) ?_
  refine CH_q2 (Dw := Dw) rfl ?_
  obtain ⟨h36, _⟩ := El_staff_Load h4
  refine VQ_y (fun w' hw' => Y_loadA (At.same h36 (hw'.2 _ h4.2.1 h4.1)) Tryd.isAgg23 Tryd.sizeOf23 rfl) rfl rfl rfl ?_
  refine VQ_CH (Dw := Dw) ?_
  refine CH_l1 (Dw := Dw) (k := 0) rfl ?_
  obtain ⟨x37, hx37, hm⟩ := Option.bind_eq_some_iff.1 hm
  refine V_call Tryd.call29 rfl rfl rfl rfl (portref2_rat_c (Dw := Dw) w33 hA n 1 hx37) ?_
  rintro _ w42 ⟨v38, v40, rfl, h39, h41, hk43⟩
  have ht44 := Kp.tr hk43 hA hB
  replace hH := Hp.kp hH hk43
  replace h4 := El.tr h4 ht44
  replace hK := Tr.trans hK ht44
  replace hB := Nat.le_trans hB ht44.ex.size
  replace hA := ht44.new
  refine V_CH (Dw := Dw) (hk43) ?_
  refine CH_l1 (Dw := Dw) (k := 0) rfl ?_
  obtain ⟨x45, hx45, hm⟩ := Option.bind_eq_some_iff.1 hm
  refine V_call Tryd.call14 rfl rfl rfl rfl (portref2_offered_c (Dw := Dw) w42 hA l hx45) ?_
  rintro _ w50 ⟨v46, v48, rfl, h47, h49, hk51⟩
  have ht52 := Kp.tr hk51 hA hB
  replace hH := Hp.kp hH hk51
  replace h4 := El.tr h4 ht52
  replace h39 := Sl.tr h39 ht52
  replace h41 := Sl.tr h41 ht52
  replace hK := Tr.trans hK ht52
  replace hB := Nat.le_trans hB ht52.ex.size
  replace hA := ht52.new
  refine V_CH (Dw := Dw) (hk51) ?_
  refine CH_l1 (Dw := Dw) (k := 0) rfl ?_
  obtain ⟨x53, hx53, hm⟩ := Option.bind_eq_some_iff.1 hm
  refine V_call Tryd.call34 rfl rfl rfl rfl (portref2_ratio_cmp_c (Dw := Dw) w50 hA x37 v38 h39 v40 h41 x45 v46 h47 v48 h49 hx53) ?_
  rintro _ w54 ⟨rfl, hk55⟩
  have ht56 := Kp.tr hk55 hA hB
  replace hH := Hp.kp hH hk55
  replace h4 := El.tr h4 ht56
  replace hK := Tr.trans hK ht56
  replace hB := Nat.le_trans hB ht56.ex.size
  replace hA := ht56.new
  refine V_CH (Dw := Dw) (hk55) ?_
  refine CH_q2 (Dw := Dw) rfl ?_
  refine VQ_y (fun w' hw' => Y_leq rfl rfl) rfl rfl rfl ?_
  refine VQ_CH (Dw := Dw) ?_
  refine CH_tail (Dw := Dw) ?_
  show V _ _ _ _ [] _ _
  refine V_to (fun _ _ => rfl) ?_
  refine C_cond rfl (fun hc57 => ?_) (fun hc57 => ?_)
  ·rw [if_pos hc57] at hm
   refine C_seq ?_
   refine C_region ?_
   refine V_y (Y_build Tryd.underlying41 Tryd.zeroValue41 (Tryd_places41 _ Tryd.underlying41) rfl (by with_unfolding_all rfl)) rfl rfl rfl ?_
   refine V_storeC (Dw := Dw) (off := 0) (ds := [.slice none 0 0, .slice none 0 0]) hH (i := 0) rfl Tryd.sizeOf41 rfl (Nat.le_of_ble_eq_true rfl) (by exact (List.forall_mem_cons.2 ⟨rfl, (List.forall_mem_cons.2 ⟨rfl, (fun _ h => nomatch h)⟩)⟩)) rfl hB hA rfl rfl ?_
   intro w58 hH59 ht60
   replace hK := Tr.trans hK ht60
   replace hH : Hp w.heap.size A10 w58 (obC b7 [.slice none 0 0, .slice none 0 0] 41 :: []) := hH59
   refine V_as rfl rfl ?_
   refine V_to (fun _ _ => rfl) ?_
   obtain rfl := Option.some.inj hm
   refine C_ret ?_
   try simp only [↓inBlock_ret, ↓then_ret]
   exact retQ rfl (Res.l2 Tryd.results17 (RL.cell rfl (loadVar_agg (Hp.part (off := 0) (n := 2) (ds := [.slice none 0 0, .slice none 0 0]) hH (i := 0) rfl rfl) Tryd.isAgg41 Tryd.sizeOf41)) (RL.tmp rfl)) ⟨.slice none 0 0, .slice none 0 0, rfl, Sl.nil, Sl.nil, hK.kp⟩
  ·rw [if_neg (nt hc57)] at hm
   refine C_skip_to (fun _ _ => rfl) ?_
   refine C_seq ?_
   refine C_region_ch (Dw := Dw) A10 15 [(1, 0), (1, 1), (1, 3), (1, 4), (1, 7), (1, 9), (2, 2), (2, 5), (2, 6), (2, 8), (2, 10), (2, 11), (2, 12), (4, 13), (1, 14)] Tryd_mixed (by kernel_rfl) (fun w61 hk62 => ?_)
   have ht63 := Kp.tr hk62 hA hB
   replace hH := Hp.kp hH hk62
   replace h4 := El.tr h4 ht63
   replace hK := Tr.trans hK ht63
   replace hB := Nat.le_trans hB ht63.ex.size
   replace hA := ht63.new
   refine CH_q2 (Dw := Dw) rfl ?_
   obtain ⟨h64, _⟩ := El_staff_Load h4
   refine VQ_y (fun w' hw' => Y_loadA (At.same h64 (hw'.2 _ h4.2.1 h4.1)) Tryd.isAgg23 Tryd.sizeOf23 rfl) rfl rfl rfl ?_
   refine VQ_CH (Dw := Dw) ?_
   refine CH_q2 (Dw := Dw) rfl ?_
   refine VQ_y (fun w' hw' => Y_move rfl) rfl rfl rfl ?_
   refine VQ_CH (Dw := Dw) ?_
   refine CH_q2 (Dw := Dw) rfl ?_
   have h65 := El_staff_Load_1 h4
   refine VQ_y (fun w' hw' => Y_fieldAddr Tryd.underlying23 rfl Tryd.sizeOf3 (by decide) rfl) rfl rfl rfl ?_
   refine VQ_CH (Dw := Dw) ?_
   refine CH_q2 (Dw := Dw) rfl ?_
   refine VQ_y (fun w' hw' => Y_load (El.int (El.keep h65 (XA.ex hw'))) Tryd.isAgg3 rfl) rfl rfl rfl ?_
   refine VQ_CH (Dw := Dw) ?_
   refine CH_q2 (Dw := Dw) rfl ?_
   refine VQ_y (fun w' hw' => Y_move rfl) rfl rfl rfl ?_
   refine VQ_CH (Dw := Dw) ?_
   refine CH_q2 (Dw := Dw) rfl ?_
   obtain ⟨h66, _⟩ := El_staff_Load h4
   refine VQ_y (fun w' hw' => Y_loadA (At.same h66 (hw'.2 _ h4.2.1 h4.1)) Tryd.isAgg23 Tryd.sizeOf23 rfl) rfl rfl rfl ?_
   refine VQ_CH (Dw := Dw) ?_
   refine CH_l1 (Dw := Dw) (k := 0) rfl ?_
   obtain ⟨x67, hx67, hm⟩ := Option.bind_eq_some_iff.1 hm
   refine V_call Tryd.call16 rfl rfl rfl rfl (portref2_waits_c (Dw := Dw) w61 hA l n hx67) ?_
   rintro _ w72 ⟨v68, v70, rfl, h69, h71, hk73⟩
   have ht74 := Kp.tr hk73 hA hB
   replace hH := Hp.kp hH hk73
   replace hK := Tr.trans hK ht74
   replace hB := Nat.le_trans hB ht74.ex.size
   replace hA := ht74.new
   refine V_CH (Dw := Dw) (hk73) ?_
   refine CH_l1 (Dw := Dw) (k := 0) rfl ?_
   obtain ⟨x75, hx75, hm⟩ := Option.bind_eq_some_iff.1 hm
   refine V_call Tryd.call29 rfl rfl rfl rfl (portref2_rat_c (Dw := Dw) w72 hA l.length 1 hx75) ?_
   rintro _ w80 ⟨v76, v78, rfl, h77, h79, hk81⟩
   have ht82 := Kp.tr hk81 hA hB
   replace hH := Hp.kp hH hk81
   replace h69 := Sl.tr h69 ht82
   replace h71 := Sl.tr h71 ht82
   replace hK := Tr.trans hK ht82
   replace hB := Nat.le_trans hB ht82.ex.size
   replace hA := ht82.new
   refine V_CH (Dw := Dw) (hk81) ?_
   refine CH_l1 (Dw := Dw) (k := 0) rfl ?_
   obtain ⟨x83, hx83, hm⟩ := Option.bind_eq_some_iff.1 hm
   refine V_call Tryd.call36 rfl rfl rfl rfl (portref2_ratio_times_c (Dw := Dw) w80 hA x67 v68 h69 v70 h71 x75 v76 h77 v78 h79 hx83) ?_
   rintro _ w88 ⟨v84, v86, rfl, h85, h87, hk89⟩
   have ht90 := Kp.tr hk89 hA hB
   replace hH := Hp.kp hH hk89
   replace hK := Tr.trans hK ht90
   replace hB := Nat.le_trans hB ht90.ex.size
   replace hA := ht90.new
   refine V_CH (Dw := Dw) (hk89) ?_
   refine CH_l1 (Dw := Dw) (k := 0) rfl ?_
   obtain ⟨x91, hx91, hm⟩ := Option.bind_eq_some_iff.1 hm
   refine V_call Tryd.call29 rfl rfl rfl rfl (portref2_rat_c (Dw := Dw) w88 hA n 1 hx91) ?_
   rintro _ w96 ⟨v92, v94, rfl, h93, h95, hk97⟩
   have ht98 := Kp.tr hk97 hA hB
   replace hH := Hp.kp hH hk97
   replace h85 := Sl.tr h85 ht98
   replace h87 := Sl.tr h87 ht98
   replace hK := Tr.trans hK ht98
   replace hB := Nat.le_trans hB ht98.ex.size
   replace hA := ht98.new
   refine V_CH (Dw := Dw) (hk97) ?_
   refine CH_l1 (Dw := Dw) (k := 0) rfl ?_
   obtain ⟨x99, hx99, hm⟩ := Option.bind_eq_some_iff.1 hm
   refine V_call Tryd.call14 rfl rfl rfl rfl (portref2_offered_c (Dw := Dw) w96 hA l hx99) ?_
   rintro _ w104 ⟨v100, v102, rfl, h101, h103, hk105⟩
   have ht106 := Kp.tr hk105 hA hB
   replace hH := Hp.kp hH hk105
   replace h85 := Sl.tr h85 ht106
   replace h87 := Sl.tr h87 ht106
   replace h93 := Sl.tr h93 ht106
   replace h95 := Sl.tr h95 ht106
   replace hK := Tr.trans hK ht106
   replace hB := Nat.le_trans hB ht106.ex.size
   replace hA := ht106.new
   refine V_CH (Dw := Dw) (hk105) ?_
   refine CH_l1 (Dw := Dw) (k := 0) rfl ?_
   obtain ⟨x107, hx107, hm⟩ := Option.bind_eq_some_iff.1 hm
   refine V_call Tryd.call35 rfl rfl rfl rfl (portref2_ratio_minus_c (Dw := Dw) w104 hA x91 v92 h93 v94 h95 x99 v100 h101 v102 h103 hx107) ?_
   rintro _ w112 ⟨v108, v110, rfl, h109, h111, hk113⟩
   have ht114 := Kp.tr hk113 hA hB
   replace hH := Hp.kp hH hk113
   replace h85 := Sl.tr h85 ht114
   replace h87 := Sl.tr h87 ht114
   replace hK := Tr.trans hK ht114
   replace hB := Nat.le_trans hB ht114.ex.size
   replace hA := ht114.new
   refine V_CH (Dw := Dw) (hk113) ?_
   refine CH_l1 (Dw := Dw) (k := 0) rfl ?_
   obtain ⟨x115, hx115, hm⟩ := Option.bind_eq_some_iff.1 hm
   refine V_call Tryd.call37 rfl rfl rfl rfl (portref2_ratio_by_c (Dw := Dw) w112 hA x83 v84 h85 v86 h87 x107 v108 h109 v110 h111 hx115) ?_
   rintro _ w120 ⟨v116, v118, rfl, h117, h119, hk121⟩
   have ht122 := Kp.tr hk121 hA hB
   replace hH := Hp.kp hH hk121
   replace hK := Tr.trans hK ht122
   replace hB := Nat.le_trans hB ht122.ex.size
   replace hA := ht122.new
   refine V_CH (Dw := Dw) (hk121) ?_
   refine CH_l1 (Dw := Dw) (k := 2) rfl ?_
   have h128 : (v116).oneCell' = true := by obtain ⟨_, _, e, _⟩ := Sl.form h117; rw [e]; rfl
   have h131 : (v118).oneCell' = true := by obtain ⟨_, _, e, _⟩ := Sl.form h119; rw [e]; rfl
   refine V_storeC (Dw := Dw) (off := 0) (ds := [v116, v118]) hH (i := 0) rfl Tryd.sizeOf41 rfl (Nat.le_of_ble_eq_true rfl) (by exact (List.forall_mem_cons.2 ⟨h128, (List.forall_mem_cons.2 ⟨h131, (fun _ h => nomatch h)⟩)⟩)) rfl hB hA rfl rfl ?_
   intro w123 hH124 ht125
   replace h117 := Sl.tr h117 ht125
   replace h119 := Sl.tr h119 ht125
   replace hK := Tr.trans hK ht125
   replace hH : Hp w.heap.size A10 w123 (obC b7 [v116, v118] 41 :: []) := hH124
   refine V_CHw (Dw := Dw) ?_
   refine CH_q2 (Dw := Dw) rfl ?_
   refine VQ_y (fun w' hw' => Y_assign rfl) rfl rfl rfl ?_
   refine VQ_CH (Dw := Dw) ?_
   refine CH_tail (Dw := Dw) ?_
   show V _ _ _ _ [] _ _
   refine V_to (fun _ _ => rfl) ?_
   obtain rfl := Option.some.inj hm
   refine C_ret ?_
   try simp only [↓inBlock_ret, ↓then_ret]
   exact retQ rfl (Res.l2 Tryd.results17 (RL.cell rfl (loadVar_agg (Hp.part (off := 0) (n := 2) (ds := [v116, v118]) hH (i := 0) rfl rfl) Tryd.isAgg41 Tryd.sizeOf41)) (RL.tmp rfl)) ⟨v116, v118, rfl, (Sl.out (Dw := Dw) h117 hA0 hK), (Sl.out (Dw := Dw) h119 hA0 hK), hK.kp⟩

set_option maxRecDepth 4000 in
set_option maxHeartbeats 4000000 in
theorem portref2_FormulaOf_c (w : World) {A : Nat → Prop} (hA : ∀ b, w.heap.size ≤ b → A b) (name : ByteArray) (l : staff_Load) (n : Int) {r : (staff_Ratio × Int)} (hm : portref2_FormulaOf name l n = some r) : Ret Tryd.prog 5 #[.string name, .agg #[.int .i64 l.calls, .int .i64 l.length, .int .i64 l.span], .int .i64 n] w fun v w' => v = .tuple #[.agg #[.string r.1.num, .string r.1.den], .int .i64 r.2] ∧ Kp Dw w w' := by
 unfold portref2_FormulaOf at hm
 refine enter Tryd.func5 rfl Tryd.ntmps5 rfl ?_
 have hA0 := hA
 have hB := Nat.le_refl w.heap.size
 have hK : Tr Dw w.heap.size A w A w := Tr.refl (Dw := Dw) hA
 have hH : Hp w.heap.size A w [] := Hp.nil
 refine C_seq ?_
 refine C_region ?_
 refine V_box rfl rfl ?_
 intro b1 w2 h3
 have hk5 := h3.kp (Dw := Dw)
 have h4 : El (α := staff_Load) A w2 b1 0 l := h3.el hA ⟨[.int .i64 l.calls], _, rfl, rfl, ⟨[.int .i64 l.length], _, rfl, rfl, rfl⟩⟩
 have ht6 := Kp.tr hk5 hA hB
 replace hH := Hp.kp hH hk5
 replace hK := Tr.trans hK ht6
 replace hB := Nat.le_trans hB ht6.ex.size
 replace hA := ht6.new
 refine V_allocH (Dw := Dw) (B := w.heap.size) hH Tryd.zeroValue25 hB hA rfl ?_
 intro b7 w9 A10 hH11 ht12
 replace h4 := El.tr h4 ht12
 replace hK := Tr.trans hK ht12
 replace hB := Nat.le_trans hB ht12.ex.size
 replace hA := ht12.new
 replace hH : Hp w.heap.size A10 w9 (obC b7 [.string ByteArray.empty, .string ByteArray.empty] 25 :: []) := hH11
 refine V_as rfl rfl ?_
 refine V_to (fun _ _ => rfl) ?_
 refine C_seq ?_
 refine C_seq ?_
 refine C_region ?_
 refine V_mv rfl rfl ?_
 refine V_y (Y_seql rfl rfl) rfl rfl rfl ?_
 refine V_to (fun _ _ => rfl) ?_
 obtain ⟨s14, ho13, hm⟩ := Option.bind_eq_some_iff.1 hm
 refine C_cutG (ι := Unit) (fun (_ : Unit) => [(0, .string name), (2, .int .i64 s14), (4, .pointer (some ⟨b1, 0, none⟩)), (6, .pointer (some ⟨b7, 0, none⟩))]) (fun (_ : Unit) => fun w' => w9 = w') ?_ ?_
 ·refine C_cond rfl (fun hc20 => ?_) (fun hc20 => ?_)
  ·rw [if_pos hc20] at ho13
   refine C_region ?_
   refine V_as rfl rfl ?_
   obtain rfl := Option.some.inj ho13
   refine V_end (fun a ha21 => ?_)
   exact ⟨(), ha21.sub ⟨rfl, rfl, rfl, rfl, trivial⟩, rfl⟩
  ·rw [if_neg (nt hc20)] at ho13
   obtain rfl := Option.some.inj ho13
   refine C_skip (fun a ha22 => ?_)
   exact ⟨(), ha22.sub ⟨rfl, rfl, rfl, rfl, trivial⟩, rfl⟩
 rintro _ _ rfl a ha19
 refine C_at (n := ⟨49, [], none⟩) (fun _ _ => rfl) ?_ ha19
 refine C_seq ?_
 refine C_seq ?_
 refine C_region ?_
 obtain ⟨h23, _⟩ := El_staff_Load h4
 refine V_y (Y_loadA h23 Tryd.isAgg23 Tryd.sizeOf23 rfl) rfl rfl rfl ?_
 refine V_mv rfl rfl ?_
 obtain ⟨x24, hx24, hm⟩ := Option.bind_eq_some_iff.1 hm
 refine V_call Tryd.call12 rfl rfl rfl rfl (portref2_loadFault_c (Dw := Dw) w9 hA l s14 hx24) ?_
 rintro _ w25 ⟨rfl, hk26⟩
 have ht27 := Kp.tr hk26 hA hB
 replace hH := Hp.kp hH hk26
 replace h4 := El.tr h4 ht27
 replace hK := Tr.trans hK ht27
 replace hB := Nat.le_trans hB ht27.ex.size
 replace hA := ht27.new
 refine V_as rfl rfl ?_
 refine V_to (fun _ _ => rfl) ?_
 refine C_seq ?_
 refine C_region ?_
 refine V_mv rfl rfl ?_
 refine V_y (Y_neq rfl rfl) rfl rfl rfl ?_
 refine V_to (fun _ _ => rfl) ?_
 refine C_cond rfl (fun hc28 => ?_) (fun hc28 => ?_)
 ·rw [if_pos hc28] at hm
  refine C_seq ?_
  refine C_region ?_
  refine V_y (Y_build Tryd.underlying25 Tryd.zeroValue25 (Tryd_places25 _ Tryd.underlying25) rfl (by with_unfolding_all rfl)) rfl rfl rfl ?_
  refine V_mv rfl rfl ?_
  refine V_storeC (Dw := Dw) (off := 0) (ds := [.string ByteArray.empty, .string ByteArray.empty]) hH (i := 0) rfl Tryd.sizeOf25 rfl (Nat.le_of_ble_eq_true rfl) (by simp [Value.cells, Value.oneCell']) rfl hB hA rfl rfl ?_
  intro w29 hH30 ht31
  replace hK := Tr.trans hK ht31
  replace hH : Hp w.heap.size A10 w29 (obC b7 [.string ByteArray.empty, .string ByteArray.empty] 25 :: []) := hH30
  refine V_as rfl rfl ?_
  refine V_to (fun _ _ => rfl) ?_
  obtain rfl := Option.some.inj hm
  refine C_ret ?_
  try simp only [↓inBlock_ret, ↓then_ret]
  exact retQ rfl (Res.l2 Tryd.results5 (RL.cell rfl (loadVar_agg (Hp.part (off := 0) (n := 2) (ds := [.string ByteArray.empty, .string ByteArray.empty]) hH (i := 0) rfl rfl) Tryd.isAgg25 Tryd.sizeOf25)) (RL.tmp rfl)) ⟨rfl, hK.kp⟩
 ·rw [if_neg (nt hc28)] at hm
  refine C_skip_to (fun _ _ => rfl) ?_
  refine C_seq ?_
  refine C_seq ?_
  refine C_region ?_
  refine V_mv rfl rfl ?_
  refine V_to (fun _ _ => rfl) ?_
  refine C_block ?_
  refine C_seq ?_
  refine C_region ?_
  refine V_y (Y_seql rfl rfl) rfl rfl rfl ?_
  refine V_as rfl rfl ?_
  refine V_to (fun _ _ => rfl) ?_
  refine C_cond rfl (fun hc32 => ?_) (fun hc32 => ?_)
  ·rw [if_pos hc32] at hm
   refine C_seq ?_
   refine C_region ?_
   obtain ⟨h33, _⟩ := El_staff_Load h4
   refine V_y (Y_loadA h33 Tryd.isAgg23 Tryd.sizeOf23 rfl) rfl rfl rfl ?_
   obtain ⟨x34, hx34, hm⟩ := Option.bind_eq_some_iff.1 hm
   refine V_call Tryd.call14 rfl rfl rfl rfl (portref2_offered_c (Dw := Dw) w25 hA l hx34) ?_
   rintro _ w39 ⟨v35, v37, rfl, h36, h38, hk40⟩
   have ht41 := Kp.tr hk40 hA hB
   replace hH := Hp.kp hH hk40
   replace hK := Tr.trans hK ht41
   replace hB := Nat.le_trans hB ht41.ex.size
   replace hA := ht41.new
   obtain ⟨x42, hx42, hm⟩ := Option.bind_eq_some_iff.1 hm
   refine V_call Tryd.call13 rfl rfl rfl rfl (portref2_ratioOf_c (Dw := Dw) w39 hA x34 v35 h36 v37 h38 hx42) ?_
   rintro _ w43 ⟨rfl, hk44⟩
   have ht45 := Kp.tr hk44 hA hB
   replace hH := Hp.kp hH hk44
   replace hK := Tr.trans hK ht45
   replace hB := Nat.le_trans hB ht45.ex.size
   replace hA := ht45.new
   refine V_storeC (Dw := Dw) (off := 0) (ds := [.string x42.num, .string x42.den]) hH (i := 0) rfl Tryd.sizeOf25 rfl (Nat.le_of_ble_eq_true rfl) (by simp [Value.cells, Value.oneCell']) rfl hB hA rfl rfl ?_
   intro w46 hH47 ht48
   replace hK := Tr.trans hK ht48
   replace hH : Hp w.heap.size A10 w46 (obC b7 [.string x42.num, .string x42.den] 25 :: []) := hH47
   refine V_as rfl rfl ?_
   refine V_to (fun _ _ => rfl) ?_
   obtain rfl := Option.some.inj hm
   refine C_ret ?_
   try simp only [↓inBlock_ret, ↓then_ret]
   exact retQ rfl (Res.l2 Tryd.results5 (RL.cell rfl (loadVar_agg (Hp.part (off := 0) (n := 2) (ds := [.string x42.num, .string x42.den]) hH (i := 0) rfl rfl) Tryd.isAgg25 Tryd.sizeOf25)) (RL.tmp rfl)) ⟨rfl, hK.kp⟩
  ·rw [if_neg (nt hc32)] at hm
   refine C_seq ?_
   refine C_region ?_
   refine V_y (Y_seql rfl rfl) rfl rfl rfl ?_
   refine V_as rfl rfl ?_
   refine V_to (fun _ _ => rfl) ?_
   refine C_cond rfl (fun hc49 => ?_) (fun hc49 => ?_)
   ·rw [if_pos hc49] at hm
    refine C_seq ?_
    refine C_region ?_
    obtain ⟨h50, _⟩ := El_staff_Load h4
    refine V_y (Y_loadA h50 Tryd.isAgg23 Tryd.sizeOf23 rfl) rfl rfl rfl ?_
    refine V_mv rfl rfl ?_
    obtain ⟨x51, hx51, hm⟩ := Option.bind_eq_some_iff.1 hm
    refine V_call Tryd.call15 rfl rfl rfl rfl (portref2_blocked_c (Dw := Dw) w25 hA l s14 hx51) ?_
    rintro _ w56 ⟨v52, v54, rfl, h53, h55, hk57⟩
    have ht58 := Kp.tr hk57 hA hB
    replace hH := Hp.kp hH hk57
    replace hK := Tr.trans hK ht58
    replace hB := Nat.le_trans hB ht58.ex.size
    replace hA := ht58.new
    obtain ⟨x59, hx59, hm⟩ := Option.bind_eq_some_iff.1 hm
    refine V_call Tryd.call13 rfl rfl rfl rfl (portref2_ratioOf_c (Dw := Dw) w56 hA x51 v52 h53 v54 h55 hx59) ?_
    rintro _ w60 ⟨rfl, hk61⟩
    have ht62 := Kp.tr hk61 hA hB
    replace hH := Hp.kp hH hk61
    replace hK := Tr.trans hK ht62
    replace hB := Nat.le_trans hB ht62.ex.size
    replace hA := ht62.new
    refine V_storeC (Dw := Dw) (off := 0) (ds := [.string x59.num, .string x59.den]) hH (i := 0) rfl Tryd.sizeOf25 rfl (Nat.le_of_ble_eq_true rfl) (by simp [Value.cells, Value.oneCell']) rfl hB hA rfl rfl ?_
    intro w63 hH64 ht65
    replace hK := Tr.trans hK ht65
    replace hH : Hp w.heap.size A10 w63 (obC b7 [.string x59.num, .string x59.den] 25 :: []) := hH64
    refine V_as rfl rfl ?_
    refine V_to (fun _ _ => rfl) ?_
    obtain rfl := Option.some.inj hm
    refine C_ret ?_
    try simp only [↓inBlock_ret, ↓then_ret]
    exact retQ rfl (Res.l2 Tryd.results5 (RL.cell rfl (loadVar_agg (Hp.part (off := 0) (n := 2) (ds := [.string x59.num, .string x59.den]) hH (i := 0) rfl rfl) Tryd.isAgg25 Tryd.sizeOf25)) (RL.tmp rfl)) ⟨rfl, hK.kp⟩
   ·rw [if_neg (nt hc49)] at hm
    refine C_seq ?_
    refine C_region ?_
    refine V_y (Y_seql rfl rfl) rfl rfl rfl ?_
    refine V_as rfl rfl ?_
    refine V_to (fun _ _ => rfl) ?_
    refine C_cond rfl (fun hc66 => ?_) (fun hc66 => ?_)
    ·rw [if_pos hc66] at hm
     refine C_seq ?_
     refine C_region ?_
     obtain ⟨h67, _⟩ := El_staff_Load h4
     refine V_y (Y_loadA h67 Tryd.isAgg23 Tryd.sizeOf23 rfl) rfl rfl rfl ?_
     refine V_mv rfl rfl ?_
     obtain ⟨x68, hx68, hm⟩ := Option.bind_eq_some_iff.1 hm
     refine V_call Tryd.call16 rfl rfl rfl rfl (portref2_waits_c (Dw := Dw) w25 hA l s14 hx68) ?_
     rintro _ w73 ⟨v69, v71, rfl, h70, h72, hk74⟩
     have ht75 := Kp.tr hk74 hA hB
     replace hH := Hp.kp hH hk74
     replace hK := Tr.trans hK ht75
     replace hB := Nat.le_trans hB ht75.ex.size
     replace hA := ht75.new
     obtain ⟨x76, hx76, hm⟩ := Option.bind_eq_some_iff.1 hm
     refine V_call Tryd.call13 rfl rfl rfl rfl (portref2_ratioOf_c (Dw := Dw) w73 hA x68 v69 h70 v71 h72 hx76) ?_
     rintro _ w77 ⟨rfl, hk78⟩
     have ht79 := Kp.tr hk78 hA hB
     replace hH := Hp.kp hH hk78
     replace hK := Tr.trans hK ht79
     replace hB := Nat.le_trans hB ht79.ex.size
     replace hA := ht79.new
     refine V_storeC (Dw := Dw) (off := 0) (ds := [.string x76.num, .string x76.den]) hH (i := 0) rfl Tryd.sizeOf25 rfl (Nat.le_of_ble_eq_true rfl) (by simp [Value.cells, Value.oneCell']) rfl hB hA rfl rfl ?_
     intro w80 hH81 ht82
     replace hK := Tr.trans hK ht82
     replace hH : Hp w.heap.size A10 w80 (obC b7 [.string x76.num, .string x76.den] 25 :: []) := hH81
     refine V_as rfl rfl ?_
     refine V_to (fun _ _ => rfl) ?_
     obtain rfl := Option.some.inj hm
     refine C_ret ?_
     try simp only [↓inBlock_ret, ↓then_ret]
     exact retQ rfl (Res.l2 Tryd.results5 (RL.cell rfl (loadVar_agg (Hp.part (off := 0) (n := 2) (ds := [.string x76.num, .string x76.den]) hH (i := 0) rfl rfl) Tryd.isAgg25 Tryd.sizeOf25)) (RL.tmp rfl)) ⟨rfl, hK.kp⟩
    ·rw [if_neg (nt hc66)] at hm
     refine C_skip_to (fun _ _ => rfl) ?_
     refine C_seq ?_
     refine C_region ?_
     obtain ⟨h83, _⟩ := El_staff_Load h4
     refine V_y (Y_loadA h83 Tryd.isAgg23 Tryd.sizeOf23 rfl) rfl rfl rfl ?_
     refine V_mv rfl rfl ?_
     obtain ⟨x84, hx84, hm⟩ := Option.bind_eq_some_iff.1 hm
     refine V_call Tryd.call17 rfl rfl rfl rfl (portref2_meanWait_c (Dw := Dw) w25 hA l s14 hx84) ?_
     rintro _ w89 ⟨v85, v87, rfl, h86, h88, hk90⟩
     have ht91 := Kp.tr hk90 hA hB
     replace hH := Hp.kp hH hk90
     replace hK := Tr.trans hK ht91
     replace hB := Nat.le_trans hB ht91.ex.size
     replace hA := ht91.new
     refine V_mv rfl rfl ?_
     refine V_y (Y_extract rfl rfl) rfl rfl rfl ?_
     refine V_y (Y_extract rfl rfl) rfl rfl rfl ?_
     refine V_alloc Tryd.zeroValue41 rfl ?_
     intro b92 w93 h94
     have h99 : (v85).oneCell' = true := by obtain ⟨_, _, e, _⟩ := Sl.form h86; rw [e]; rfl
     have h102 : (v87).oneCell' = true := by obtain ⟨_, _, e, _⟩ := Sl.form h88; rw [e]; rfl
     refine V_storeNew h94 Tryd.sizeOf41 rfl rfl rfl rfl (by exact (List.forall_mem_cons.2 ⟨h99, (List.forall_mem_cons.2 ⟨h102, (fun _ h => nomatch h)⟩)⟩)) ?_
     intro w95 h96
     have hk104 := h96.kp (Dw := Dw)
     have h103 : El (α := portref2_ratio) A10 w95 b92 0 x84.1 := h96.el hA ⟨[v85], _, rfl, ⟨_, rfl, h86⟩, ⟨_, rfl, h88⟩⟩
     have ht105 := Kp.tr hk104 hA hB
     replace hH := Hp.kp hH hk104
     replace hK := Tr.trans hK ht105
     replace hB := Nat.le_trans hB ht105.ex.size
     replace hA := ht105.new
     refine V_as rfl rfl ?_
     refine V_to (fun _ _ => rfl) ?_
     refine C_seq ?_
     refine C_seq ?_
     refine C_region ?_
     refine V_mv rfl rfl ?_
     refine V_y (Y_not rfl) rfl rfl rfl ?_
     refine V_to (fun _ _ => rfl) ?_
     refine C_cond rfl (fun hc106 => ?_) (fun hc106 => ?_)
     ·rw [if_pos hc106] at hm
      refine C_seq ?_
      refine C_region ?_
      refine V_y (Y_build Tryd.underlying25 Tryd.zeroValue25 (Tryd_places25 _ Tryd.underlying25) rfl (by with_unfolding_all rfl)) rfl rfl rfl ?_
      refine V_storeC (Dw := Dw) (off := 0) (ds := [.string ByteArray.empty, .string ByteArray.empty]) hH (i := 0) rfl Tryd.sizeOf25 rfl (Nat.le_of_ble_eq_true rfl) (by simp [Value.cells, Value.oneCell']) rfl hB hA rfl rfl ?_
      intro w107 hH108 ht109
      replace hK := Tr.trans hK ht109
      replace hH : Hp w.heap.size A10 w107 (obC b7 [.string ByteArray.empty, .string ByteArray.empty] 25 :: []) := hH108
      refine V_as rfl rfl ?_
      refine V_to (fun _ _ => rfl) ?_
      obtain rfl := Option.some.inj hm
      refine C_ret ?_
      try simp only [↓inBlock_ret, ↓then_ret]
      exact retQ rfl (Res.l2 Tryd.results5 (RL.cell rfl (loadVar_agg (Hp.part (off := 0) (n := 2) (ds := [.string ByteArray.empty, .string ByteArray.empty]) hH (i := 0) rfl rfl) Tryd.isAgg25 Tryd.sizeOf25)) (RL.tmp rfl)) ⟨rfl, hK.kp⟩
     ·rw [if_neg (nt hc106)] at hm
      refine C_skip_to (fun _ _ => rfl) ?_
      refine C_seq ?_
      refine C_region ?_
      obtain ⟨v110, v112, h114, h111, h113⟩ := El_portref2_ratio h103
      refine V_y (Y_loadA h114 Tryd.isAgg41 Tryd.sizeOf41 rfl) rfl rfl rfl ?_
      obtain ⟨x115, hx115, hm⟩ := Option.bind_eq_some_iff.1 hm
      refine V_call Tryd.call13 rfl rfl rfl rfl (portref2_ratioOf_c (Dw := Dw) w95 hA x84.1 v110 h111 v112 h113 hx115) ?_
      rintro _ w116 ⟨rfl, hk117⟩
      have ht118 := Kp.tr hk117 hA hB
      replace hH := Hp.kp hH hk117
      replace hK := Tr.trans hK ht118
      replace hB := Nat.le_trans hB ht118.ex.size
      replace hA := ht118.new
      refine V_storeC (Dw := Dw) (off := 0) (ds := [.string x115.num, .string x115.den]) hH (i := 0) rfl Tryd.sizeOf25 rfl (Nat.le_of_ble_eq_true rfl) (by simp [Value.cells, Value.oneCell']) rfl hB hA rfl rfl ?_
      intro w119 hH120 ht121
      replace hK := Tr.trans hK ht121
      replace hH : Hp w.heap.size A10 w119 (obC b7 [.string x115.num, .string x115.den] 25 :: []) := hH120
      refine V_as rfl rfl ?_
      refine V_to (fun _ _ => rfl) ?_
      obtain rfl := Option.some.inj hm
      refine C_ret ?_
      try simp only [↓inBlock_ret, ↓then_ret]
      exact retQ rfl (Res.l2 Tryd.results5 (RL.cell rfl (loadVar_agg (Hp.part (off := 0) (n := 2) (ds := [.string x115.num, .string x115.den]) hH (i := 0) rfl rfl) Tryd.isAgg25 Tryd.sizeOf25)) (RL.tmp rfl)) ⟨rfl, hK.kp⟩

set_option maxRecDepth 4000 in
set_option maxHeartbeats 4000000 in
theorem staff_checkPeople_c (w : World) (n : Int) : Ret Tryd.prog 19 #[.int .i64 n] w fun v w' => v = .int .i64 (staff_checkPeople n) ∧ w = w' := by
 generalize hm : staff_checkPeople n = r
 unfold staff_checkPeople at hm
 refine enter Tryd.func19 rfl Tryd.ntmps19 rfl ?_
 refine C_seq ?_
 refine C_region ?_
 refine V_as rfl rfl ?_
 refine V_to (fun _ _ => rfl) ?_
 refine C_seq ?_
 refine C_seq ?_
 refine C_region ?_
 refine V_mv rfl rfl ?_
 refine V_call Tryd.call25 rfl rfl rfl rfl (staff_within_c w n 0 60) ?_
 rintro _ _ ⟨rfl, rfl⟩
 refine V_y (Y_not rfl) rfl rfl rfl ?_
 refine V_to (fun _ _ => rfl) ?_
 refine C_cond rfl (fun hc1 => ?_) (fun hc1 => ?_)
 ·rw [if_pos hc1] at hm
  refine C_seq ?_
  refine C_region ?_
  refine V_as rfl rfl ?_
  refine V_to (fun _ _ => rfl) ?_
  obtain rfl := hm
  refine C_ret ?_
  try simp only [↓inBlock_ret, ↓then_ret]
  exact retQ rfl (Res.one Tryd.results19 rfl) ⟨rfl, rfl⟩
 ·rw [if_neg (nt hc1)] at hm
  refine C_skip_to (fun _ _ => rfl) ?_
  refine C_seq ?_
  refine C_region ?_
  refine V_as rfl rfl ?_
  refine V_to (fun _ _ => rfl) ?_
  obtain rfl := hm
  refine C_ret ?_
  try simp only [↓inBlock_ret, ↓then_ret]
  exact retQ rfl (Res.one Tryd.results19 rfl) ⟨rfl, rfl⟩

set_option maxRecDepth 4000 in
set_option maxHeartbeats 4000000 in
theorem cmp_Or_api_Errno_c (w : World) {A : Nat → Prop} (vals : (List Int)) (v_vals : Value) (h_vals : Sl A w v_vals vals) {r : Int} (hm : cmp_Or_api_Errno vals = some r) : Ret Tryd.prog 18 #[v_vals] w fun v w' => v = .int .i64 r ∧ w = w' := by
 unfold cmp_Or_api_Errno at hm
 refine enter Tryd.func18 rfl Tryd.ntmps18 rfl ?_
 refine C_seq ?_
 refine C_region ?_
 refine V_as rfl rfl ?_
 refine V_to (fun _ _ => rfl) ?_
 refine C_seq ?_
 refine C_region ?_
 refine V_as rfl rfl ?_
 refine V_to (fun _ _ => rfl) ?_
 refine C_seq ?_
 refine C_seq ?_
 refine C_region ?_
 refine V_mv rfl rfl ?_
 refine V_y (Y_lenSl h_vals rfl Tryd.underlying66 rfl) rfl rfl rfl ?_
 refine V_mv rfl rfl ?_
 refine V_to (fun _ _ => rfl) ?_
 have hn19 := Sl.le h_vals
 obtain ⟨o3, ho3, hm⟩ := Option.bind_eq_some_iff.1 hm
 refine C_cutG (ι := Unit) (fun (s4 : Unit) => [(3, .int .i64 0)]) (fun (s4 : Unit) => fun w' => o3 = .fin s4 ∧ w = w') ?_ ?_
 ·refine C_block ?_
  refine C_range ho3 (fun k6 _ a w' => ∃ i : Unit, Has ⟨18, [], none⟩ a ([(3, .int .i64 0), (6, v_vals), (7, .int .i64 (vals.length : Int)), (8, .int .i64 (k6 : Int))]) ∧ w = w') (fun a ha => ⟨(), ha.sub ⟨rfl, rfl, rfl, rfl, trivial⟩, rfl⟩) ?_
  rintro K k6 _ a _ ⟨_, ha28, rfl⟩ hle15 K18 h17
  refine C_of ?_ ha28
  refine C_seq (C_region (V_y (Y_lss rfl rfl) rfl rfl rfl (V_to (fun _ _ => rfl) ?_)))
  refine C_seq ?_
  refine C_cond rfl (fun hc20 => ?_) (fun hc20 => ?_)
  ·have hlt16 := lt_of_dec hc20
   obtain ⟨x12, h13, h14⟩ := K18 hlt16
   refine C_skip_to (fun _ _ => rfl) ?_
   refine C_seq ?_
   refine C_block ?_
   refine C_seq ?_
   refine C_region ?_
   obtain ⟨x21, hx21, h13⟩ := Option.bind_eq_some_iff.1 h13
   refine V_indexAddr h_vals hx21 Tryd.underlying66 Tryd.sizeOf26 rfl rfl rfl ?_
   intro b22 o23 h24
   refine V_y (Y_load (El.int h24) Tryd.isAgg26 rfl) rfl rfl rfl ?_
   refine V_as rfl rfl ?_
   refine V_to (fun _ _ => rfl) ?_
   refine C_seq ?_
   refine C_region ?_
   refine V_mv rfl rfl ?_
   refine V_mv rfl rfl ?_
   refine V_y (Y_neq rfl rfl) rfl rfl rfl ?_
   refine V_to (fun _ _ => rfl) ?_
   refine C_cond rfl (fun hc25 => ?_) (fun hc25 => ?_)
   ·rw [if_pos hc25] at h13
    refine C_seq ?_
    refine C_region ?_
    refine V_mv rfl rfl ?_
    refine V_as rfl rfl ?_
    refine V_to (fun _ _ => rfl) ?_
    obtain rfl := Option.some.inj h13
    obtain rfl := (h14 : Lp.rt _ = _)
    rw [Lp.andThen_rt] at hm
    obtain rfl := Option.some.inj hm
    refine C_ret ?_
    try simp only [↓inBlock_ret, ↓then_ret]
    exact retQ rfl (Res.one Tryd.results18 rfl) ⟨rfl, rfl⟩
   ·rw [if_neg (nt hc25)] at h13
    refine C_skip_to (fun _ _ => rfl) ?_
    refine C_region ?_
    refine V_y (Y_addI rfl rfl) rfl rfl rfl ?_
    refine V_mv rfl rfl ?_
    obtain rfl := Option.some.inj h13
    refine V_end (fun a ha26 => ?_)
    exact ⟨(), hlt16, h14, ⟨(), ha26.sub ⟨rfl, rfl, rfl, (congrArg (fun z => some (Value.int .i64 z)) (w64_succ hlt16 hn19)), trivial⟩, rfl⟩⟩
  ·refine C_exit (fun a ha27 => ?_)
   exact ⟨(), ha27.sub ⟨rfl, trivial⟩, ⟨(h17 (eq_of_dec hle15 hc20)).symm, rfl⟩⟩
 rintro s4 _ ⟨rfl, rfl⟩ a ha9
 rw [Lp.andThen_fin] at hm
 refine C_at (n := ⟨18, [], none⟩) (fun _ _ => rfl) ?_ ha9
 refine C_seq ?_
 refine C_region ?_
 refine V_mv rfl rfl ?_
 refine V_as rfl rfl ?_
 refine V_to (fun _ _ => rfl) ?_
 obtain rfl := Option.some.inj hm
 refine C_ret ?_
 try simp only [↓inBlock_ret, ↓then_ret]
 exact retQ rfl (Res.one Tryd.results18 rfl) ⟨rfl, rfl⟩

set_option maxRecDepth 4000 in
set_option maxHeartbeats 4000000 in
theorem staff_nat_plus_c (w : World) {A : Nat → Prop} (hA : ∀ b, w.heap.size ≤ b → A b) (a_ : (List Int)) (v_a_ : Value) (h_a_ : Sl A w v_a_ a_) (b : (List Int)) (v_b : Value) (h_b : Sl A w v_b b) {r : (List Int)} (hm : staff_nat_plus a_ b = some r) : Ret Tryd.prog 39 #[v_a_, v_b] w fun v w' => ∃ s0, v = s0 ∧ Ownd 3 w w' s0 r ∧ Kp Dw w w' := by
 unfold staff_nat_plus at hm
 refine enter Tryd.func39 rfl Tryd.ntmps39 rfl ?_
 have hA0 := hA
 have hB := Nat.le_refl w.heap.size
 have hK : Tr Dw w.heap.size A w A w := Tr.refl (Dw := Dw) hA
 have hH : Hp w.heap.size A w [] := Hp.nil
 refine C_seq ?_
 refine C_region ?_
 refine V_as rfl rfl ?_
 refine V_to (fun _ _ => rfl) ?_
 refine C_seq ?_
 refine C_seq ?_
 refine C_region ?_
 refine V_mv rfl rfl ?_
 refine V_y (Y_lenSl h_a_ rfl Tryd.underlying49 rfl) rfl rfl rfl ?_
 refine V_mv rfl rfl ?_
 refine V_y (Y_lenSl h_b rfl Tryd.underlying49 rfl) rfl rfl rfl ?_
 refine V_y (Y_lss rfl rfl) rfl rfl rfl ?_
 refine V_to (fun _ _ => rfl) ?_
 obtain ⟨s6, ho5, hm⟩ := Option.bind_eq_some_iff.1 hm
 refine C_cutG (ι := (Value × Value)) (fun ⟨v8, v10⟩ => [(0, v8), (1, v10)]) (fun ⟨v8, v10⟩ => fun w' => Sl A w' v8 s6.1 ∧ Sl A w' v10 s6.2 ∧ w = w') ?_ ?_
 ·refine C_cond rfl (fun hc15 => ?_) (fun hc15 => ?_)
  ·rw [if_pos hc15] at ho5
   refine C_region ?_
   refine V_mv rfl rfl ?_
   refine V_mv rfl rfl ?_
   refine V_as rfl rfl ?_
   refine V_as rfl rfl ?_
   obtain rfl := Option.some.inj ho5
   refine V_end (fun a ha16 => ?_)
   exact ⟨(v_b, v_a_), ha16.sub ⟨rfl, rfl, trivial⟩, ⟨h_b, h_a_, rfl⟩⟩
  ·rw [if_neg (nt hc15)] at ho5
   obtain rfl := Option.some.inj ho5
   refine C_skip (fun a ha17 => ?_)
   exact ⟨(v_a_, v_b), ha17.sub ⟨rfl, rfl, trivial⟩, ⟨h_a_, h_b, rfl⟩⟩
 rintro ⟨v8, v10⟩ _ ⟨h9, h11, rfl⟩ a ha14
 refine C_at (n := ⟨71, [], none⟩) (fun _ _ => rfl) ?_ ha14
 refine C_seq ?_
 refine C_region ?_
 refine V_mv rfl rfl ?_
 refine V_y (Y_lenSl h9 rfl Tryd.underlying49 rfl) rfl rfl rfl ?_
 refine V_mv rfl rfl ?_
 refine V_y (Y_lenSl h9 rfl Tryd.underlying49 rfl) rfl rfl rfl ?_
 refine V_y (Y_addI rfl rfl) rfl rfl rfl ?_
 obtain ⟨x18, hx18, hm⟩ := Option.bind_eq_some_iff.1 hm
 refine V_makeCH (Dw := Dw) (e := 3) (ti := Tryd.t3) hH hx18 (fun _ _ => rfl) Tryd.underlying49 Tryd_info3 rfl rfl rfl (by decide) (by decide) hB hA rfl rfl rfl ?_
 intro v19 w20 A21 hH22 ht23
 replace h9 := Sl.tr h9 ht23
 replace h11 := Sl.tr h11 ht23
 replace hK := Tr.trans hK ht23
 replace hB := Nat.le_trans hB ht23.ex.size
 replace hA := ht23.new
 replace hH : Hp w.heap.size A21 w20 (obS (α := Int) 3 v19 x18 :: []) := hH22
 refine V_as rfl rfl ?_
 refine V_to (fun _ _ => rfl) ?_
 refine C_seq ?_
 refine C_region ?_
 refine V_mv rfl rfl ?_
 refine V_mv rfl rfl ?_
 refine V_copyH (Dw := Dw) (α := Int) (e := 3) (v := v19) (l := x18) hH (i := 0) rfl h9 rfl Tryd.underlying49 (by rw [Tryd_info3]; rfl) hB hA rfl rfl rfl ?_
 intro w24 hH25 ht26
 replace h11 := Sl.tr h11 ht26
 replace hK := Tr.trans hK ht26
 replace hB := Nat.le_trans hB ht26.ex.size
 replace hA := ht26.new
 replace hH : Hp w.heap.size A21 w24 (obS (α := Int) 3 v19 (copyL x18 s6.1) :: []) := hH25
 refine V_to (fun _ _ => rfl) ?_
 refine C_seq ?_
 refine C_region ?_
 refine V_as rfl rfl ?_
 refine V_to (fun _ _ => rfl) ?_
 refine C_seq ?_
 refine C_seq ?_
 refine C_region ?_
 refine V_as rfl rfl ?_
 refine V_to (fun _ _ => rfl) ?_
 obtain ⟨o27, ho27, hm⟩ := Option.bind_eq_some_iff.1 hm
 refine C_cutG (ι := (((List Int) × Int × Int) × Value × (Nat → Prop))) (fun ⟨s28, v34, A36⟩ => [(5, v34), (6, .int .i64 s28.2.1)]) (fun ⟨s28, v34, A36⟩ => fun w' => o27 = .fin s28 ∧ Hp w.heap.size A36 w' (obS (α := Int) 3 v34 s28.1 :: []) ∧ Tr Dw w.heap.size A21 w24 A36 w') ?_ ?_
 ·refine C_block ?_
  refine C_while ho27 (fun s38 a w' => ∃ i : (Value × (Nat → Prop)), Has ⟨71, [], none⟩ a ([(1, v10), (5, i.1), (6, .int .i64 s38.2.1), (7, .int .i64 s38.2.2)]) ∧ Hp w.heap.size i.2 w' (obS (α := Int) 3 i.1 s38.1 :: []) ∧ Tr Dw w.heap.size A21 w24 i.2 w') (fun a ha => ⟨(v19, A21), ha.sub ⟨rfl, rfl, rfl, rfl, trivial⟩, ⟨hH, Tr.refl (Dw := Dw) hA⟩⟩) ?_
  rintro K s38 a w39 ⟨⟨v40, A42⟩, ha85, hH43, hr29⟩ K50
  refine C_of ?_ ha85
  replace h11 := Sl.tr h11 hr29
  replace hB := Nat.le_trans hB hr29.ex.size
  replace hA := hr29.new
  replace hH : Hp w.heap.size A42 w39 (obS (α := Int) 3 v40 s38.1 :: []) := hH43
  obtain ⟨x44, h45, h46⟩ := K50
  refine C_seq ?_
  refine C_seq ?_
  refine C_region ?_
  refine V_mv rfl rfl ?_
  refine V_mv rfl rfl ?_
  refine V_y (Y_lenSl (Hp.any (α := Int) (e := 3) (v := v40) (l := s38.1) hH (i := 0) rfl) rfl Tryd.underlying49 rfl) rfl rfl rfl ?_
  refine V_y (Y_lss rfl rfl) rfl rfl rfl ?_
  refine V_mv rfl rfl ?_
  refine V_cut 9 (fun _ : Unit => [(1, v10), (5, v40), (6, .int .i64 s38.2.1), (7, .int .i64 s38.2.2), (38, .bool ((decide (s38.2.2 < (s38.1.length : Int))) && ((decide (s38.2.2 < (s6.2.length : Int))) || (decide ((0 : Int) < s38.2.1)))))]) (fun _ w' => w39 = w') ?_ ?_
  ·simp only [List.take, List.drop]
   rcases Bool.eq_false_or_eq_true (decide (s38.2.2 < (s38.1.length : Int))) with hc51 | hc51
   ·refine V_ge rfl rfl rfl hc51 ?_
    refine V_mv rfl rfl ?_
    refine V_ge rfl rfl rfl hc51 ?_
    refine V_mv rfl rfl ?_
    refine V_ge rfl rfl rfl hc51 ?_
    refine V_y (Y_lenSl h11 rfl Tryd.underlying49 rfl) rfl rfl rfl ?_
    refine V_ge rfl rfl rfl hc51 ?_
    refine V_y (Y_lss rfl rfl) rfl rfl rfl ?_
    refine V_ge rfl rfl rfl hc51 ?_
    refine V_mv rfl rfl ?_
    refine V_cut 3 (fun _ : Unit => [(1, v10), (5, v40), (6, .int .i64 s38.2.1), (7, .int .i64 s38.2.2), (29, .bool (decide (s38.2.2 < (s38.1.length : Int)))), (37, .bool ((decide (s38.2.2 < (s6.2.length : Int))) || (decide ((0 : Int) < s38.2.1))))]) (fun _ w' => w39 = w') ?_ ?_
    ·simp only [List.take, List.drop]
     rcases Bool.eq_false_or_eq_true (decide (s38.2.2 < (s6.2.length : Int))) with hc53 | hc53
     ·refine V_gn rfl rfl rfl hc53 rfl rfl rfl ?_
      refine V_gn rfl rfl rfl hc53 rfl rfl rfl ?_
      refine V_ge rfl rfl rfl hc51 ?_
      refine V_y (Y_pick_te rfl hc53 rfl) rfl rfl rfl ?_
      exact V_end fun a ha => ⟨(), ha.sub ⟨rfl, rfl, rfl, rfl, rfl, (by rw [hc53]; rfl), trivial⟩, rfl⟩
     ·refine V_ge rfl rfl rfl hc53 ?_
      refine V_mv rfl rfl ?_
      refine V_ge rfl rfl rfl hc53 ?_
      refine V_y (Y_gtr rfl rfl) rfl rfl rfl ?_
      refine V_ge rfl rfl rfl hc51 ?_
      refine V_y (Y_pick_fe rfl hc53 rfl) rfl rfl rfl ?_
      exact V_end fun a ha => ⟨(), ha.sub ⟨rfl, rfl, rfl, rfl, rfl, (by rw [hc53]; rfl), trivial⟩, rfl⟩
    simp only [List.take, List.drop]
    rintro _ _ rfl
    refine V_y (Y_pick_te rfl hc51 rfl) rfl rfl rfl ?_
    exact V_end fun a ha => ⟨(), ha.sub ⟨rfl, rfl, rfl, rfl, (by rw [hc51]; rfl), trivial⟩, rfl⟩
   ·refine V_gn rfl rfl rfl hc51 rfl rfl rfl ?_
    refine V_gn rfl rfl rfl hc51 rfl rfl rfl ?_
    refine V_gn rfl rfl rfl hc51 rfl rfl rfl ?_
    refine V_gn rfl rfl rfl hc51 rfl rfl rfl ?_
    refine V_gn rfl rfl rfl hc51 rfl rfl rfl ?_
    refine V_gu rfl rfl rfl rfl rfl ?_
    refine V_gu rfl rfl rfl rfl rfl ?_
    refine V_gn rfl rfl rfl hc51 rfl rfl rfl ?_
    refine V_y (Y_pick_fe rfl hc51 rfl) rfl rfl rfl ?_
    exact V_end fun a ha => ⟨(), ha.sub ⟨rfl, rfl, rfl, rfl, (by rw [hc51]; rfl), trivial⟩, rfl⟩
  simp only [List.take, List.drop]
  rintro _ _ rfl
  refine V_to (fun _ _ => rfl) ?_
  refine C_cond rfl (fun hc55 => ?_) (fun hc55 => ?_)
  ·rw [if_pos hc55] at h45
   refine C_skip_to (fun _ _ => rfl) ?_
   refine C_seq ?_
   refine C_block ?_
   refine C_seq ?_
   refine C_region ?_
   refine V_mv rfl rfl ?_
   refine V_mv rfl rfl ?_
   obtain ⟨x56, hx56, h45⟩ := Option.bind_eq_some_iff.1 h45
   refine V_indexAddrH (α := Int) (e := 3) (v := v40) (l := s38.1) hH (i := 0) rfl hx56 Tryd.underlying49 Tryd.sizeOf3 rfl rfl rfl ?_
   intro b57 o58 h59 hl60
   refine V_y (Y_load (El.int h59) Tryd.isAgg3 rfl) rfl rfl rfl ?_
   refine V_mv rfl rfl ?_
   refine V_y (Y_addI rfl rfl) rfl rfl rfl ?_
   refine V_as rfl rfl ?_
   refine V_to (fun _ _ => rfl) ?_
   refine C_seq ?_
   refine C_seq ?_
   refine C_region ?_
   refine V_mv rfl rfl ?_
   refine V_mv rfl rfl ?_
   refine V_y (Y_lenSl h11 rfl Tryd.underlying49 rfl) rfl rfl rfl ?_
   refine V_y (Y_lss rfl rfl) rfl rfl rfl ?_
   refine V_to (fun _ _ => rfl) ?_
   obtain ⟨s62, ho61, h45⟩ := Option.bind_eq_some_iff.1 h45
   refine C_cutG (ι := Unit) (fun (_ : Unit) => [(1, v10), (5, v40), (7, .int .i64 s38.2.2), (8, .int .i64 s62)]) (fun (_ : Unit) => fun w' => w39 = w') ?_ ?_
   ·refine C_cond rfl (fun hc68 => ?_) (fun hc68 => ?_)
    ·rw [if_pos hc68] at ho61
     refine C_region ?_
     refine V_mv rfl rfl ?_
     refine V_mv rfl rfl ?_
     refine V_mv rfl rfl ?_
     obtain ⟨x69, hx69, ho61⟩ := Option.bind_eq_some_iff.1 ho61
     refine V_indexAddr h11 hx69 Tryd.underlying49 Tryd.sizeOf3 rfl rfl rfl ?_
     intro b70 o71 h72
     refine V_y (Y_load (El.int h72) Tryd.isAgg3 rfl) rfl rfl rfl ?_
     refine V_y (Y_addI rfl rfl) rfl rfl rfl ?_
     refine V_as rfl rfl ?_
     obtain rfl := Option.some.inj ho61
     refine V_end (fun a ha73 => ?_)
     exact ⟨(), ha73.sub ⟨rfl, rfl, rfl, rfl, trivial⟩, rfl⟩
    ·rw [if_neg (nt hc68)] at ho61
     obtain rfl := Option.some.inj ho61
     refine C_skip (fun a ha74 => ?_)
     exact ⟨(), ha74.sub ⟨rfl, rfl, rfl, rfl, trivial⟩, rfl⟩
   rintro _ _ rfl a ha67
   refine C_at (n := ⟨71, [], none⟩) (fun _ _ => rfl) ?_ ha67
   refine C_region ?_
   refine V_mv rfl rfl ?_
   refine V_mv rfl rfl ?_
   refine V_mv rfl rfl ?_
   refine V_y (Y_rem (by rw [rem, if_neg (by decide)]) rfl rfl) rfl rfl rfl ?_
   refine V_mv rfl rfl ?_
   refine V_y (Y_quo (by rw [quo, if_neg (by decide)]) rfl rfl) rfl rfl rfl ?_
   refine V_indexAddrH (α := Int) (e := 3) (v := v40) (l := s38.1) hH (i := 0) rfl hx56 Tryd.underlying49 Tryd.sizeOf3 rfl rfl rfl ?_
   intro b75 o76 h77 hl78
   obtain ⟨x79, hx79, h45⟩ := Option.bind_eq_some_iff.1 h45
   refine V_storeH (Dw := Dw) (α := Int) (e := 3) (v := v40) (l := s38.1) hH (i := 0) rfl hl78 hx79 rfl Tryd.sizeOf3 rfl hB hA rfl rfl ?_
   intro w80 hH81 ht82
   replace hr29 := Tr.trans hr29 ht82
   replace hH : Hp w.heap.size A42 w80 (obS (α := Int) 3 v40 x79 :: []) := hH81
   refine V_as rfl rfl ?_
   refine V_to (fun _ _ => rfl) ?_
   refine C_region ?_
   refine V_mv rfl rfl ?_
   refine V_y (Y_addI rfl rfl) rfl rfl rfl ?_
   refine V_as rfl rfl ?_
   obtain rfl := Option.some.inj h45
   refine V_end (fun a ha83 => ?_)
   exact ⟨(x79, w64 (Int.tdiv s62 1000000000), w64 (s38.2.2 + 1)), h46, ⟨(v40, A42), ha83.sub ⟨rfl, rfl, rfl, rfl, trivial⟩, ⟨hH, hr29⟩⟩⟩
  ·rw [if_neg (nt hc55)] at h45
   obtain rfl := Option.some.inj h45
   refine C_exit (fun a ha84 => ?_)
   exact ⟨((s38.1, s38.2.1, s38.2.2), v40, A42), ha84.sub ⟨rfl, rfl, trivial⟩, ⟨h46.symm, hH, hr29⟩⟩
 rintro ⟨s28, v34, A36⟩ w31 ⟨rfl, hH37, hk32⟩ a ha33
 rw [Lp.andThen_fin] at hm
 replace hK := Tr.trans hK hk32
 replace hB := Nat.le_trans hB hk32.ex.size
 replace hA := hk32.new
 replace hH : Hp w.heap.size A36 w31 (obS (α := Int) 3 v34 s28.1 :: []) := hH37
 refine C_at (n := ⟨71, [], none⟩) (fun _ _ => rfl) ?_ ha33
 refine C_seq ?_
 refine C_seq ?_
 refine C_region ?_
 refine V_mv rfl rfl ?_
 refine V_y (Y_gtr rfl rfl) rfl rfl rfl ?_
 refine V_to (fun _ _ => rfl) ?_
 obtain ⟨s87, ho86, hm⟩ := Option.bind_eq_some_iff.1 hm
 refine C_cutG (ι := (Value × (Nat → Prop))) (fun ⟨v89, A94⟩ => [(5, v89)]) (fun ⟨v89, A94⟩ => fun w' => Hp w.heap.size A94 w' (obS (α := Int) 3 v89 s87 :: []) ∧ Tr Dw w.heap.size A36 w31 A94 w') ?_ ?_
 ·have hr88 : Tr Dw w.heap.size A36 w31 A36 w31 := Tr.refl (Dw := Dw) hA
  refine C_cond rfl (fun hc96 => ?_) (fun hc96 => ?_)
  ·rw [if_pos hc96] at ho86
   refine C_region ?_
   refine V_mv rfl rfl ?_
   refine V_mv rfl rfl ?_
   refine V_buildSlice (Dw := Dw) (l := ([s28.2.1] : List Int)) (len := 1) Tryd.underlying49 Tryd.sizeOf3 Tryd.zeroValue3 rfl (by with_unfolding_all rfl) (show (1 * 1 : Nat) ≠ 0 by decide) (show (1 * 1 : Nat) ≤ 2 ^ 24 by decide) hA ⟨[.int .i64 s28.2.1], _, rfl, rfl, rfl⟩ rfl rfl ?_
   intro v97 w98 hk100 h99
   have ht101 := Kp.tr hk100 hA hB
   replace hH := Hp.kp hH hk100
   replace hr88 := Tr.trans hr88 ht101
   replace hB := Nat.le_trans hB ht101.ex.size
   replace hA := ht101.new
   obtain ⟨x102, hx102, ho86⟩ := Option.bind_eq_some_iff.1 ho86
   refine V_appendH (Dw := Dw) (e := 3) (v := v34) (l := s28.1) (ti := Tryd.t3) (bytes := 8) (lim := 17592186044416) hH (i := 0) rfl h99 hx102 Tryd.underlying49 Tryd_info3 rfl rfl rfl rfl (by decide) (by decide) (by decide) hB hA rfl rfl rfl ?_
   intro v103 w104 A105 hH106 ht107
   replace hr88 := Tr.trans hr88 ht107
   replace hH : Hp w.heap.size A105 w104 (obS (α := Int) 3 v103 x102 :: []) := hH106
   refine V_as rfl rfl ?_
   obtain rfl := Option.some.inj ho86
   refine V_end (fun a ha108 => ?_)
   exact ⟨(v103, A105), ha108.sub ⟨rfl, trivial⟩, ⟨hH, hr88⟩⟩
  ·rw [if_neg (nt hc96)] at ho86
   obtain rfl := Option.some.inj ho86
   refine C_skip (fun a ha109 => ?_)
   exact ⟨(v34, A36), ha109.sub ⟨rfl, trivial⟩, ⟨hH, hr88⟩⟩
 rintro ⟨v89, A94⟩ w91 ⟨hH95, hk92⟩ a ha93
 replace hK := Tr.trans hK hk92
 replace hA := hk92.new
 replace hH : Hp w.heap.size A94 w91 (obS (α := Int) 3 v89 s87 :: []) := hH95
 refine C_at (n := ⟨71, [], none⟩) (fun _ _ => rfl) ?_ ha93
 refine C_seq ?_
 refine C_region ?_
 refine V_mv rfl rfl ?_
 refine V_as rfl rfl ?_
 refine V_to (fun _ _ => rfl) ?_
 obtain rfl := Option.some.inj hm
 refine C_ret ?_
 try simp only [↓inBlock_ret, ↓then_ret]
 exact retQ rfl (Res.one Tryd.results39 rfl) ⟨v89, rfl, (Hp.ownd hH (i := 0) rfl), hK.kp⟩

end Go.Proofs.YtbmbgmeggeemcaaDoor.W
