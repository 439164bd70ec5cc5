/-
  Written by program (gen.py) from the IR of the dump: each function computes its model.
-/
import Derived.Test.YtnnbhehaplphiaaGreatDoorRatioSumsW4
namespace Go.Proofs.YtnnbhehaplphiaaGreatDoor.W
open Go Go.RowKit Go.Pu Go.Gw Go.Proofs Go.Proofs.YtnnbhehaplphiaaGreatDoor.M
set_option linter.unusedVariables false
set_option linter.unusedSimpArgs false
variable {Dw : Prop}

set_option maxRecDepth 4000 in
set_option maxHeartbeats 4000000 in
theorem staff_Times_c (w : World) {A : Nat → Prop} (hA : ∀ b, w.heap.size ≤ b → A b) (hT : Fz Tryz_FR A w) (a_ : staff_Ratio) (b : staff_Ratio) {r : (staff_Ratio × Int)} (hm : staff_Times a_ b = some r) : Ret Tryz.prog 8 #[.agg #[.string a_.num, .string a_.den], .agg #[.string b.num, .string b.den]] w fun v w' => v = .tuple #[.agg #[.string r.1.num, .string r.1.den], .int .i64 r.2] ∧ Kp False w w' := by
 unfold staff_Times at hm
 refine enter Tryz.func8 rfl Tryz.ntmps8 rfl ?_
 have hA0 := hA
 have hB := Nat.le_refl w.heap.size
 have hK : Tr False w.heap.size A w A w := Tr.refl (Dw := False) hA
 have hH : Hp w.heap.size A w [] := Hp.nil
 refine C_seq ?_
 refine C_region ?_
 refine V_box rfl rfl ?_
 intro b1 w2 h3
 have hk5 := h3.kp (Dw := False)
 have h4 : El (α := staff_Ratio) A w2 b1 0 a_ := h3.el hA ⟨[.string a_.num], _, rfl, rfl, rfl⟩
 have ht6 := Kp.tr (Dw := False) hk5 hA hB
 replace hH := Hp.kp (Dw := False) hH hk5
 replace hK := Tr.trans (Dw := False) hK ht6
 replace hB := Nat.le_trans hB ht6.ex.size
 replace hA := ht6.new
 refine V_box rfl rfl ?_
 intro b7 w9 h10
 have hk12 := h10.kp (Dw := False)
 have h11 : El (α := staff_Ratio) A w9 b7 0 b := h10.el hA ⟨[.string b.num], _, rfl, rfl, rfl⟩
 have ht13 := Kp.tr (Dw := False) hk12 hA hB
 replace hH := Hp.kp (Dw := False) hH hk12
 replace h4 := El.tr (Dw := False) h4 ht13
 replace hK := Tr.trans (Dw := False) hK ht13
 replace hB := Nat.le_trans hB ht13.ex.size
 replace hA := ht13.new
 refine V_allocH (Dw := False) (B := w.heap.size) hH Tryz.zeroValue23 hB hA rfl ?_
 intro b14 w15 A16 hH17 ht18
 replace h4 := El.tr (Dw := False) h4 ht18
 replace h11 := El.tr (Dw := False) h11 ht18
 replace hK := Tr.trans (Dw := False) hK ht18
 replace hB := Nat.le_trans hB ht18.ex.size
 replace hA := ht18.new
 replace hH : Hp w.heap.size A16 w15 (obC b14 [.string ByteArray.empty, .string ByteArray.empty] 23 :: []) := hH17
 refine V_as rfl rfl ?_
 refine V_to (fun _ _ => rfl) ?_
 refine C_seq ?_
 refine C_region ?_
 obtain ⟨h19, _⟩ := El_staff_Ratio h4
 refine V_y (Y_loadA h19 Tryz.isAgg23 Tryz.sizeOf23 rfl) rfl rfl rfl ?_
 obtain ⟨h20, _⟩ := El_staff_Ratio h11
 refine V_y (Y_loadA h20 Tryz.isAgg23 Tryz.sizeOf23 rfl) rfl rfl rfl ?_
 obtain ⟨x21, hx21, hm⟩ := Option.bind_eq_some_iff.1 hm
 refine V_call Tryz.call11 rfl rfl rfl rfl (staff_two_c w15 hA (Fz.tr (Dw := False) hT hK) a_ b hx21) ?_
 rintro _ w30 ⟨v22, v24, v26, v28, rfl, h23, h25, h27, h29, hk31⟩
 have ht32 := Kp.tr (Dw := False) hk31 hA hB
 replace hH := Hp.kp (Dw := False) hH hk31
 replace hK := Tr.trans (Dw := False) hK ht32
 replace hB := Nat.le_trans hB ht32.ex.size
 replace hA := ht32.new
 refine V_mv rfl rfl ?_
 refine V_y (Y_extract rfl rfl) rfl rfl rfl ?_
 refine V_y (Y_extract rfl rfl) rfl rfl rfl ?_
 refine V_y (Y_extract rfl rfl) rfl rfl rfl ?_
 refine V_allocH (Dw := False) (B := w.heap.size) hH Tryz.zeroValue35 hB hA rfl ?_
 intro b33 w34 A35 hH36 ht37
 replace h23 := Sl.tr (Dw := False) h23 ht37
 replace h25 := Sl.tr (Dw := False) h25 ht37
 replace h27 := Sl.tr (Dw := False) h27 ht37
 replace h29 := Sl.tr (Dw := False) h29 ht37
 replace hK := Tr.trans (Dw := False) hK ht37
 replace hB := Nat.le_trans hB ht37.ex.size
 replace hA := ht37.new
 replace hH : Hp w.heap.size A35 w34 (obC b33 [.slice none 0 0, .slice none 0 0] 35 :: obC b14 [.string ByteArray.empty, .string ByteArray.empty] 23 :: []) := hH36
 refine V_allocH (Dw := False) (B := w.heap.size) hH Tryz.zeroValue35 hB hA rfl ?_
 intro b38 w39 A40 hH41 ht42
 replace h23 := Sl.tr (Dw := False) h23 ht42
 replace h25 := Sl.tr (Dw := False) h25 ht42
 replace h27 := Sl.tr (Dw := False) h27 ht42
 replace h29 := Sl.tr (Dw := False) h29 ht42
 replace hK := Tr.trans (Dw := False) hK ht42
 replace hB := Nat.le_trans hB ht42.ex.size
 replace hA := ht42.new
 replace hH : Hp w.heap.size A40 w39 (obC b38 [.slice none 0 0, .slice none 0 0] 35 :: obC b33 [.slice none 0 0, .slice none 0 0] 35 :: obC b14 [.string ByteArray.empty, .string ByteArray.empty] 23 :: []) := hH41
 have h48 : (v22).oneCell' = true := by obtain ⟨_, _, e, _⟩ := Sl.form h23; rw [e]; rfl
 have h51 : (v24).oneCell' = true := by obtain ⟨_, _, e, _⟩ := Sl.form h25; rw [e]; rfl
 refine V_storeC (Dw := False) (off := 0) (ds := [v22, v24]) hH (i := 1) rfl Tryz.sizeOf35 rfl (Nat.le_of_ble_eq_true rfl) (by exact (List.forall_mem_cons.2 ⟨h48, (List.forall_mem_cons.2 ⟨h51, (fun _ h => nomatch h)⟩)⟩)) rfl hB hA rfl rfl ?_
 intro w43 hH44 ht45
 replace h23 := Sl.tr (Dw := False) h23 ht45
 replace h25 := Sl.tr (Dw := False) h25 ht45
 replace h27 := Sl.tr (Dw := False) h27 ht45
 replace h29 := Sl.tr (Dw := False) h29 ht45
 replace hK := Tr.trans (Dw := False) hK ht45
 replace hB := Nat.le_trans hB ht45.ex.size
 replace hA := ht45.new
 replace hH : Hp w.heap.size A40 w43 (obC b38 [.slice none 0 0, .slice none 0 0] 35 :: obC b33 [v22, v24] 35 :: obC b14 [.string ByteArray.empty, .string ByteArray.empty] 23 :: []) := hH44
 obtain ⟨A52, ht53, h54, hH55⟩ := Hp.freezeC (Dw := False) (α := staff_ratio) (x := x21.1) hH (i := 1) rfl hA (by exact ⟨[v22], _, rfl, ⟨_, rfl, h23⟩, ⟨_, rfl, h25⟩⟩)
 replace h27 := Sl.tr (Dw := False) h27 ht53
 replace h29 := Sl.tr (Dw := False) h29 ht53
 replace hK := Tr.trans (Dw := False) hK ht53
 replace hB := Nat.le_trans hB ht53.ex.size
 replace hA := ht53.new
 replace hH : Hp w.heap.size A52 w43 (obC b38 [.slice none 0 0, .slice none 0 0] 35 :: obC b14 [.string ByteArray.empty, .string ByteArray.empty] 23 :: []) := hH55
 have h61 : (v26).oneCell' = true := by obtain ⟨_, _, e, _⟩ := Sl.form h27; rw [e]; rfl
 have h64 : (v28).oneCell' = true := by obtain ⟨_, _, e, _⟩ := Sl.form h29; rw [e]; rfl
 refine V_storeC (Dw := False) (off := 0) (ds := [v26, v28]) hH (i := 0) rfl Tryz.sizeOf35 rfl (Nat.le_of_ble_eq_true rfl) (by exact (List.forall_mem_cons.2 ⟨h61, (List.forall_mem_cons.2 ⟨h64, (fun _ h => nomatch h)⟩)⟩)) rfl hB hA rfl rfl ?_
 intro w56 hH57 ht58
 replace h27 := Sl.tr (Dw := False) h27 ht58
 replace h29 := Sl.tr (Dw := False) h29 ht58
 replace h54 := El.tr (Dw := False) h54 ht58
 replace hK := Tr.trans (Dw := False) hK ht58
 replace hB := Nat.le_trans hB ht58.ex.size
 replace hA := ht58.new
 replace hH : Hp w.heap.size A52 w56 (obC b38 [v26, v28] 35 :: obC b14 [.string ByteArray.empty, .string ByteArray.empty] 23 :: []) := hH57
 obtain ⟨A65, ht66, h67, hH68⟩ := Hp.freezeC (Dw := False) (α := staff_ratio) (x := x21.2.1) hH (i := 0) rfl hA (by exact ⟨[v26], _, rfl, ⟨_, rfl, h27⟩, ⟨_, rfl, h29⟩⟩)
 replace h54 := El.tr (Dw := False) h54 ht66
 replace hK := Tr.trans (Dw := False) hK ht66
 replace hB := Nat.le_trans hB ht66.ex.size
 replace hA := ht66.new
 replace hH : Hp w.heap.size A65 w56 (obC b14 [.string ByteArray.empty, .string ByteArray.empty] 23 :: []) := hH68
 refine V_as rfl rfl ?_
 refine V_to (fun _ _ => rfl) ?_
 refine C_seq ?_
 refine C_seq ?_
 refine C_region ?_
 refine V_mv rfl rfl ?_
 refine V_y (Y_neq rfl rfl) rfl rfl rfl ?_
 refine V_to (fun _ _ => rfl) ?_
 refine C_cond rfl (fun hc69 => ?_) (fun hc69 => ?_)
 ·rw [if_pos hc69] at hm
  refine C_seq ?_
  refine C_region ?_
  refine V_y (Y_build Tryz.underlying23 Tryz.zeroValue23 (Tryz_places23 _ Tryz.underlying23) rfl (by with_unfolding_all rfl)) rfl rfl rfl ?_
  refine V_mv rfl rfl ?_
  refine V_storeC (Dw := False) (off := 0) (ds := [.string ByteArray.empty, .string ByteArray.empty]) hH (i := 0) rfl Tryz.sizeOf23 rfl (Nat.le_of_ble_eq_true rfl) (by simp [Value.cells, Value.oneCell']) rfl hB hA rfl rfl ?_
  intro w70 hH71 ht72
  replace hK := Tr.trans (Dw := False) hK ht72
  replace hH : Hp w.heap.size A65 w70 (obC b14 [.string ByteArray.empty, .string ByteArray.empty] 23 :: []) := hH71
  refine V_as rfl rfl ?_
  refine V_to (fun _ _ => rfl) ?_
  obtain rfl := Option.some.inj hm
  refine C_ret ?_
  try simp only [↓inBlock_ret, ↓then_ret]
  exact retQ rfl (Res.l2 Tryz.results8 (RL.cell rfl (loadVar_agg (Hp.part (off := 0) (n := 2) (ds := [.string ByteArray.empty, .string ByteArray.empty]) hH (i := 0) rfl rfl) Tryz.isAgg23 Tryz.sizeOf23)) (RL.tmp rfl)) ⟨rfl, hK.kp⟩
 ·rw [if_neg (nt hc69)] at hm
  refine C_skip_to (fun _ _ => rfl) ?_
  refine C_seq ?_
  refine C_region_chz2 (Dw := False) A65 10 11 [(1, 0), (1, 1), (1, 2), (1, 3), (1, 5), (1, 6), (1, 7), (1, 8), (2, 4), (2, 9)] [(4, 12), (4, 13)] Tryz_mixed (by kernel_rfl) (fun w73 hk74 => ?_)
  have ht75 := Kp.tr (Dw := False) hk74 hA hB
  replace hH := Hp.kp (Dw := False) hH hk74
  replace h54 := El.tr (Dw := False) h54 ht75
  replace h67 := El.tr (Dw := False) h67 ht75
  replace hK := Tr.trans (Dw := False) hK ht75
  replace hB := Nat.le_trans hB ht75.ex.size
  replace hA := ht75.new
  refine CHZ2_q2 (Dw := False) rfl ?_
  have h76 := El_staff_ratio_0 h54
  refine VQ_y (fun w' hw' => Y_fieldAddr Tryz.underlying35 rfl Tryz.sizeOf33 (by decide) rfl) rfl rfl rfl ?_
  refine VQ_CHZ2 (Dw := False) ?_
  refine CHZ2_q2 (Dw := False) rfl ?_
  obtain ⟨v77, h78, h79⟩ := El.list h76
  refine VQ_y (fun w' hw' => Y_load ((World.cell?_of_block (hw'.2 _ h76.2.1 h76.1)).trans h78) Tryz.isAgg33 rfl) rfl rfl rfl ?_
  refine VQ_CHZ2 (Dw := False) ?_
  refine CHZ2_q2 (Dw := False) rfl ?_
  have h80 := El_staff_ratio_1 h67
  refine VQ_y (fun w' hw' => Y_fieldAddr Tryz.underlying35 rfl Tryz.sizeOf33 (by decide) rfl) rfl rfl rfl ?_
  refine VQ_CHZ2 (Dw := False) ?_
  refine CHZ2_q2 (Dw := False) rfl ?_
  obtain ⟨v81, h82, h83⟩ := El.list h80
  refine VQ_y (fun w' hw' => Y_load ((World.cell?_of_block (hw'.2 _ h80.2.1 h80.1)).trans h82) Tryz.isAgg33 rfl) rfl rfl rfl ?_
  refine VQ_CHZ2 (Dw := False) ?_
  refine CHZ2_q2 (Dw := False) rfl ?_
  have h84 := El_staff_ratio_0 h67
  refine VQ_y (fun w' hw' => Y_fieldAddr Tryz.underlying35 rfl Tryz.sizeOf33 (by decide) rfl) rfl rfl rfl ?_
  refine VQ_CHZ2 (Dw := False) ?_
  refine CHZ2_q2 (Dw := False) rfl ?_
  obtain ⟨v85, h86, h87⟩ := El.list h84
  refine VQ_y (fun w' hw' => Y_load ((World.cell?_of_block (hw'.2 _ h84.2.1 h84.1)).trans h86) Tryz.isAgg33 rfl) rfl rfl rfl ?_
  refine VQ_CHZ2 (Dw := False) ?_
  refine CHZ2_q2 (Dw := False) rfl ?_
  have h88 := El_staff_ratio_1 h54
  refine VQ_y (fun w' hw' => Y_fieldAddr Tryz.underlying35 rfl Tryz.sizeOf33 (by decide) rfl) rfl rfl rfl ?_
  refine VQ_CHZ2 (Dw := False) ?_
  refine CHZ2_q2 (Dw := False) rfl ?_
  obtain ⟨v89, h90, h91⟩ := El.list h88
  refine VQ_y (fun w' hw' => Y_load ((World.cell?_of_block (hw'.2 _ h88.2.1 h88.1)).trans h90) Tryz.isAgg33 rfl) rfl rfl rfl ?_
  refine VQ_CHZ2 (Dw := False) ?_
  refine CHZ2_l1 (Dw := False) (k := 0) rfl rfl rfl ?_ ?_ ?_
  ·refine V_allocHk (Dw := False) (B := w.heap.size) hH Tryz.zeroValue35 hB hA rfl ?_
   intro b92 w93 A94 hk97 hH95 ht96
   replace h79 := Sl.tr (Dw := False) h79 ht96
   replace h83 := Sl.tr (Dw := False) h83 ht96
   replace h87 := Sl.tr (Dw := False) h87 ht96
   replace h91 := Sl.tr (Dw := False) h91 ht96
   replace hK := Tr.trans (Dw := False) hK ht96
   replace hB := Nat.le_trans hB ht96.ex.size
   replace hA := ht96.new
   replace hH : Hp w.heap.size A94 w93 (obC b92 [.slice none 0 0, .slice none 0 0] 35 :: obC b14 [.string ByteArray.empty, .string ByteArray.empty] 23 :: []) := hH95
   refine V_CHZ (Dw := False) (hk97) ?_
   refine CHZ_l1 (Dw := False) (k := 0) [(2, 11), (2, 4), (2, 9), (4, 12), (4, 13)] rfl ?_ rfl ?_
   ·refine CH_l1 (Dw := False) (k := 0) rfl ?_
    refine V_allocHk (Dw := False) (B := w.heap.size) hH Tryz.zeroValue35 hB hA rfl ?_
    intro b98 w99 A100 hk103 hH101 ht102
    replace h79 := Sl.tr (Dw := False) h79 ht102
    replace h83 := Sl.tr (Dw := False) h83 ht102
    replace h87 := Sl.tr (Dw := False) h87 ht102
    replace h91 := Sl.tr (Dw := False) h91 ht102
    replace hK := Tr.trans (Dw := False) hK ht102
    replace hB := Nat.le_trans hB ht102.ex.size
    replace hA := ht102.new
    replace hH : Hp w.heap.size A100 w99 (obC b98 [.slice none 0 0, .slice none 0 0] 35 :: obC b92 [.slice none 0 0, .slice none 0 0] 35 :: obC b14 [.string ByteArray.empty, .string ByteArray.empty] 23 :: []) := hH101
    refine V_CH (Dw := False) (hk103) ?_
    refine CH_l1 (Dw := False) (k := 0) rfl ?_
    obtain ⟨x104, hx104, hm⟩ := Option.bind_eq_some_iff.1 hm
    refine V_call Tryz.call24 rfl rfl rfl rfl (staff_lowest_c (Dw := False) w99 hA x21.1.num v77 h79 x21.2.1.den v81 h83 hx104) ?_
    rintro _ w109 ⟨v105, v107, rfl, h106, h108, hk110⟩
    have ht111 := Kp.tr (Dw := False) hk110 hA hB
    replace hH := Hp.kp (Dw := False) hH hk110
    replace h87 := Sl.tr (Dw := False) h87 ht111
    replace h91 := Sl.tr (Dw := False) h91 ht111
    replace hK := Tr.trans (Dw := False) hK ht111
    replace hB := Nat.le_trans hB ht111.ex.size
    replace hA := ht111.new
    refine V_CH (Dw := False) (hk110) ?_
    refine CH_l1 (Dw := False) (k := 0) rfl ?_
    obtain ⟨x112, hx112, hm⟩ := Option.bind_eq_some_iff.1 hm
    refine V_call Tryz.call24 rfl rfl rfl rfl (staff_lowest_c (Dw := False) w109 hA x21.2.1.num v85 h87 x21.1.den v89 h91 hx112) ?_
    rintro _ w117 ⟨v113, v115, rfl, h114, h116, hk118⟩
    have ht119 := Kp.tr (Dw := False) hk118 hA hB
    replace hH := Hp.kp (Dw := False) hH hk118
    replace h106 := Sl.tr (Dw := False) h106 ht119
    replace h108 := Sl.tr (Dw := False) h108 ht119
    replace hK := Tr.trans (Dw := False) hK ht119
    replace hB := Nat.le_trans hB ht119.ex.size
    replace hA := ht119.new
    refine V_CH (Dw := False) (hk118) ?_
    refine CH_l1 (Dw := False) (k := 2) rfl ?_
    have h125 : (v105).oneCell' = true := by obtain ⟨_, _, e, _⟩ := Sl.form h106; rw [e]; rfl
    have h128 : (v107).oneCell' = true := by obtain ⟨_, _, e, _⟩ := Sl.form h108; rw [e]; rfl
    refine V_storeC (Dw := False) (off := 0) (ds := [v105, v107]) hH (i := 1) rfl Tryz.sizeOf35 rfl (Nat.le_of_ble_eq_true rfl) (by exact (List.forall_mem_cons.2 ⟨h125, (List.forall_mem_cons.2 ⟨h128, (fun _ h => nomatch h)⟩)⟩)) rfl hB hA rfl rfl ?_
    intro w120 hH121 ht122
    replace h106 := Sl.tr (Dw := False) h106 ht122
    replace h108 := Sl.tr (Dw := False) h108 ht122
    replace h114 := Sl.tr (Dw := False) h114 ht122
    replace h116 := Sl.tr (Dw := False) h116 ht122
    replace hK := Tr.trans (Dw := False) hK ht122
    replace hB := Nat.le_trans hB ht122.ex.size
    replace hA := ht122.new
    replace hH : Hp w.heap.size A100 w120 (obC b98 [.slice none 0 0, .slice none 0 0] 35 :: obC b92 [v105, v107] 35 :: obC b14 [.string ByteArray.empty, .string ByteArray.empty] 23 :: []) := hH121
    obtain ⟨A129, ht130, h131, hH132⟩ := Hp.freezeC (Dw := False) (α := staff_ratio) (x := x104) hH (i := 1) rfl hA (by exact ⟨[v105], _, rfl, ⟨_, rfl, h106⟩, ⟨_, rfl, h108⟩⟩)
    replace h114 := Sl.tr (Dw := False) h114 ht130
    replace h116 := Sl.tr (Dw := False) h116 ht130
    replace hK := Tr.trans (Dw := False) hK ht130
    replace hB := Nat.le_trans hB ht130.ex.size
    replace hA := ht130.new
    replace hH : Hp w.heap.size A129 w120 (obC b98 [.slice none 0 0, .slice none 0 0] 35 :: obC b14 [.string ByteArray.empty, .string ByteArray.empty] 23 :: []) := hH132
    refine V_CHw (Dw := False) ?_
    refine CH_l1 (Dw := False) (k := 2) rfl ?_
    have h138 : (v113).oneCell' = true := by obtain ⟨_, _, e, _⟩ := Sl.form h114; rw [e]; rfl
    have h141 : (v115).oneCell' = true := by obtain ⟨_, _, e, _⟩ := Sl.form h116; rw [e]; rfl
    refine V_storeC (Dw := False) (off := 0) (ds := [v113, v115]) hH (i := 0) rfl Tryz.sizeOf35 rfl (Nat.le_of_ble_eq_true rfl) (by exact (List.forall_mem_cons.2 ⟨h138, (List.forall_mem_cons.2 ⟨h141, (fun _ h => nomatch h)⟩)⟩)) rfl hB hA rfl rfl ?_
    intro w133 hH134 ht135
    replace h131 := El.tr (Dw := False) h131 ht135
    replace h114 := Sl.tr (Dw := False) h114 ht135
    replace h116 := Sl.tr (Dw := False) h116 ht135
    replace hK := Tr.trans (Dw := False) hK ht135
    replace hB := Nat.le_trans hB ht135.ex.size
    replace hA := ht135.new
    replace hH : Hp w.heap.size A129 w133 (obC b98 [v113, v115] 35 :: obC b14 [.string ByteArray.empty, .string ByteArray.empty] 23 :: []) := hH134
    obtain ⟨A142, ht143, h144, hH145⟩ := Hp.freezeC (Dw := False) (α := staff_ratio) (x := x112) hH (i := 0) rfl hA (by exact ⟨[v113], _, rfl, ⟨_, rfl, h114⟩, ⟨_, rfl, h116⟩⟩)
    replace h131 := El.tr (Dw := False) h131 ht143
    replace hK := Tr.trans (Dw := False) hK ht143
    replace hB := Nat.le_trans hB ht143.ex.size
    replace hA := ht143.new
    replace hH : Hp w.heap.size A142 w133 (obC b14 [.string ByteArray.empty, .string ByteArray.empty] 23 :: []) := hH145
    refine V_CHw (Dw := False) ?_
    refine CH_tail (Dw := False) ?_
    show V _ _ _ _ [] _ _
    refine V_to (fun _ _ => rfl) ?_
    refine C_seq ?_
    refine C_region_ch (Dw := False) A142 16 [(1, 0), (1, 1), (1, 2), (1, 3), (1, 5), (1, 6), (1, 7), (1, 8), (2, 4), (2, 9), (1, 10), (2, 11), (1, 12), (1, 13), (4, 14), (1, 15)] Tryz_mixed (by kernel_rfl) (fun w146 hk147 => ?_)
    have ht148 := Kp.tr (Dw := False) hk147 hA hB
    replace hH := Hp.kp (Dw := False) hH hk147
    replace h131 := El.tr (Dw := False) h131 ht148
    replace h144 := El.tr (Dw := False) h144 ht148
    replace hK := Tr.trans (Dw := False) hK ht148
    replace hB := Nat.le_trans hB ht148.ex.size
    replace hA := ht148.new
    refine CH_q2 (Dw := False) rfl ?_
    have h149 := El_staff_ratio_0 h131
    refine VQ_y (fun w' hw' => Y_fieldAddr Tryz.underlying35 rfl Tryz.sizeOf33 (by decide) rfl) rfl rfl rfl ?_
    refine VQ_CH (Dw := False) ?_
    refine CH_q2 (Dw := False) rfl ?_
    obtain ⟨v150, h151, h152⟩ := El.list h149
    refine VQ_y (fun w' hw' => Y_load ((World.cell?_of_block (hw'.2 _ h149.2.1 h149.1)).trans h151) Tryz.isAgg33 rfl) rfl rfl rfl ?_
    refine VQ_CH (Dw := False) ?_
    refine CH_q2 (Dw := False) rfl ?_
    have h153 := El_staff_ratio_0 h144
    refine VQ_y (fun w' hw' => Y_fieldAddr Tryz.underlying35 rfl Tryz.sizeOf33 (by decide) rfl) rfl rfl rfl ?_
    refine VQ_CH (Dw := False) ?_
    refine CH_q2 (Dw := False) rfl ?_
    obtain ⟨v154, h155, h156⟩ := El.list h153
    refine VQ_y (fun w' hw' => Y_load ((World.cell?_of_block (hw'.2 _ h153.2.1 h153.1)).trans h155) Tryz.isAgg33 rfl) rfl rfl rfl ?_
    refine VQ_CH (Dw := False) ?_
    refine CH_q2 (Dw := False) rfl ?_
    have h157 := El_staff_ratio_1 h131
    refine VQ_y (fun w' hw' => Y_fieldAddr Tryz.underlying35 rfl Tryz.sizeOf33 (by decide) rfl) rfl rfl rfl ?_
    refine VQ_CH (Dw := False) ?_
    refine CH_q2 (Dw := False) rfl ?_
    obtain ⟨v158, h159, h160⟩ := El.list h157
    refine VQ_y (fun w' hw' => Y_load ((World.cell?_of_block (hw'.2 _ h157.2.1 h157.1)).trans h159) Tryz.isAgg33 rfl) rfl rfl rfl ?_
    refine VQ_CH (Dw := False) ?_
    refine CH_q2 (Dw := False) rfl ?_
    have h161 := El_staff_ratio_1 h144
    refine VQ_y (fun w' hw' => Y_fieldAddr Tryz.underlying35 rfl Tryz.sizeOf33 (by decide) rfl) rfl rfl rfl ?_
    refine VQ_CH (Dw := False) ?_
    refine CH_q2 (Dw := False) rfl ?_
    obtain ⟨v162, h163, h164⟩ := El.list h161
    refine VQ_y (fun w' hw' => Y_load ((World.cell?_of_block (hw'.2 _ h161.2.1 h161.1)).trans h163) Tryz.isAgg33 rfl) rfl rfl rfl ?_
    refine VQ_CH (Dw := False) ?_
    refine CH_l1 (Dw := False) (k := 0) rfl ?_
    obtain ⟨x165, hx165, hm⟩ := Option.bind_eq_some_iff.1 hm
    refine V_call Tryz.call18 rfl rfl rfl rfl (staff_nat_times_c (Dw := False) w146 hA x104.num v150 h152 x112.num v154 h156 hx165) ?_
    rintro v166 w168 ⟨_, rfl, h167, hk169⟩
    have ht170 := Kp.tr (Dw := False) hk169 hA hB
    replace hH := Hp.kp (Dw := False) hH hk169
    replace h160 := Sl.tr (Dw := False) h160 ht170
    replace h164 := Sl.tr (Dw := False) h164 ht170
    replace hK := Tr.trans (Dw := False) hK ht170
    replace hB := Nat.le_trans hB ht170.ex.size
    replace hA := ht170.new
    refine V_CH (Dw := False) (hk169) ?_
    refine CH_l1 (Dw := False) (k := 0) rfl ?_
    obtain ⟨x171, hx171, hm⟩ := Option.bind_eq_some_iff.1 hm
    refine V_call Tryz.call18 rfl rfl rfl rfl (staff_nat_times_c (Dw := False) w168 hA x104.den v158 h160 x112.den v162 h164 hx171) ?_
    rintro v172 w174 ⟨_, rfl, h173, hk175⟩
    have ht176 := Kp.tr (Dw := False) hk175 hA hB
    replace hH := Hp.kp (Dw := False) hH hk175
    replace h167 := Sl.tr (Dw := False) h167 ht176
    replace hK := Tr.trans (Dw := False) hK ht176
    replace hB := Nat.le_trans hB ht176.ex.size
    replace hA := ht176.new
    refine V_CH (Dw := False) (hk175) ?_
    refine CH_q2 (Dw := False) rfl ?_
    refine VQ_y (fun w' hw' => Y_build (cells := #[v166, v172]) Tryz.underlying35 Tryz.zeroValue35 (Tryz_places35 _ Tryz.underlying35) rfl (by obtain ⟨a177, c178, e179, _⟩ := Sl.form h167; subst e179; obtain ⟨a180, c181, e182, _⟩ := Sl.form h173; subst e182; with_unfolding_all rfl)) rfl rfl rfl ?_
    refine VQ_CH (Dw := False) ?_
    refine CH_l1 (Dw := False) (k := 0) rfl ?_
    obtain ⟨x183, hx183, hm⟩ := Option.bind_eq_some_iff.1 hm
    refine V_call Tryz.call20 rfl rfl rfl rfl (staff_limited_c w174 hA (Fz.tr (Dw := False) hT hK) (⟨x165, x171⟩ : staff_ratio) v166 h167 v172 h173 hx183) ?_
    rintro _ w184 ⟨rfl, hk185⟩
    have ht186 := Kp.tr (Dw := False) hk185 hA hB
    replace hH := Hp.kp (Dw := False) hH hk185
    replace hK := Tr.trans (Dw := False) hK ht186
    replace hB := Nat.le_trans hB ht186.ex.size
    replace hA := ht186.new
    refine V_CH (Dw := False) (hk185) ?_
    refine CH_q2 (Dw := False) rfl ?_
    refine VQ_y (fun w' hw' => Y_extract rfl rfl) rfl rfl rfl ?_
    refine VQ_CH (Dw := False) ?_
    refine CH_q2 (Dw := False) rfl ?_
    refine VQ_y (fun w' hw' => Y_extract rfl rfl) rfl rfl rfl ?_
    refine VQ_CH (Dw := False) ?_
    refine CH_l1 (Dw := False) (k := 2) rfl ?_
    refine V_storeC (Dw := False) (off := 0) (ds := [.string x183.1.num, .string x183.1.den]) hH (i := 0) rfl Tryz.sizeOf23 rfl (Nat.le_of_ble_eq_true rfl) (by simp [Value.cells, Value.oneCell']) rfl hB hA rfl rfl ?_
    intro w187 hH188 ht189
    replace hK := Tr.trans (Dw := False) hK ht189
    replace hH : Hp w.heap.size A142 w187 (obC b14 [.string x183.1.num, .string x183.1.den] 23 :: []) := hH188
    refine V_CHw (Dw := False) ?_
    refine CH_q2 (Dw := False) rfl ?_
    refine VQ_y (fun w' hw' => Y_assign rfl) rfl rfl rfl ?_
    refine VQ_CH (Dw := False) ?_
    refine CH_tail (Dw := False) ?_
    show V _ _ _ _ [] _ _
    refine V_to (fun _ _ => rfl) ?_
    obtain rfl := Option.some.inj hm
    refine C_ret ?_
    try simp only [↓inBlock_ret, ↓then_ret]
    exact retQ rfl (Res.l2 Tryz.results8 (RL.cell rfl (loadVar_agg (Hp.part (off := 0) (n := 2) (ds := [.string x183.1.num, .string x183.1.den]) hH (i := 0) rfl rfl) Tryz.isAgg23 Tryz.sizeOf23)) (RL.tmp rfl)) ⟨rfl, hK.kp⟩
   obtain ⟨x190, hx190, hm⟩ := Option.bind_eq_some_iff.1 hm
   refine V_call Tryz.call24 rfl rfl rfl rfl (staff_lowest_c (Dw := False) w93 hA x21.1.num v77 h79 x21.2.1.den v81 h83 hx190) ?_
   rintro _ w195 ⟨v191, v193, rfl, h192, h194, hk196⟩
   have ht197 := Kp.tr (Dw := False) hk196 hA hB
   replace hH := Hp.kp (Dw := False) hH hk196
   replace h87 := Sl.tr (Dw := False) h87 ht197
   replace h91 := Sl.tr (Dw := False) h91 ht197
   replace hK := Tr.trans (Dw := False) hK ht197
   replace hB := Nat.le_trans hB ht197.ex.size
   replace hA := ht197.new
   refine V_CHZ (Dw := False) (hk196) ?_
   refine CHZ_l1 (Dw := False) (k := 0) [(2, 11), (2, 9), (4, 12), (4, 13)] rfl ?_ rfl ?_
   ·refine CH_l1 (Dw := False) (k := 0) rfl ?_
    refine V_allocHk (Dw := False) (B := w.heap.size) hH Tryz.zeroValue35 hB hA rfl ?_
    intro b198 w199 A200 hk203 hH201 ht202
    replace h87 := Sl.tr (Dw := False) h87 ht202
    replace h91 := Sl.tr (Dw := False) h91 ht202
    replace h192 := Sl.tr (Dw := False) h192 ht202
    replace h194 := Sl.tr (Dw := False) h194 ht202
    replace hK := Tr.trans (Dw := False) hK ht202
    replace hB := Nat.le_trans hB ht202.ex.size
    replace hA := ht202.new
    replace hH : Hp w.heap.size A200 w199 (obC b198 [.slice none 0 0, .slice none 0 0] 35 :: obC b92 [.slice none 0 0, .slice none 0 0] 35 :: obC b14 [.string ByteArray.empty, .string ByteArray.empty] 23 :: []) := hH201
    refine V_CH (Dw := False) (hk203) ?_
    refine CH_l1 (Dw := False) (k := 0) rfl ?_
    obtain ⟨x204, hx204, hm⟩ := Option.bind_eq_some_iff.1 hm
    refine V_call Tryz.call24 rfl rfl rfl rfl (staff_lowest_c (Dw := False) w199 hA x21.2.1.num v85 h87 x21.1.den v89 h91 hx204) ?_
    rintro _ w209 ⟨v205, v207, rfl, h206, h208, hk210⟩
    have ht211 := Kp.tr (Dw := False) hk210 hA hB
    replace hH := Hp.kp (Dw := False) hH hk210
    replace h192 := Sl.tr (Dw := False) h192 ht211
    replace h194 := Sl.tr (Dw := False) h194 ht211
    replace hK := Tr.trans (Dw := False) hK ht211
    replace hB := Nat.le_trans hB ht211.ex.size
    replace hA := ht211.new
    refine V_CH (Dw := False) (hk210) ?_
    refine CH_l1 (Dw := False) (k := 2) rfl ?_
    have h217 : (v191).oneCell' = true := by obtain ⟨_, _, e, _⟩ := Sl.form h192; rw [e]; rfl
    have h220 : (v193).oneCell' = true := by obtain ⟨_, _, e, _⟩ := Sl.form h194; rw [e]; rfl
    refine V_storeC (Dw := False) (off := 0) (ds := [v191, v193]) hH (i := 1) rfl Tryz.sizeOf35 rfl (Nat.le_of_ble_eq_true rfl) (by exact (List.forall_mem_cons.2 ⟨h217, (List.forall_mem_cons.2 ⟨h220, (fun _ h => nomatch h)⟩)⟩)) rfl hB hA rfl rfl ?_
    intro w212 hH213 ht214
    replace h192 := Sl.tr (Dw := False) h192 ht214
    replace h194 := Sl.tr (Dw := False) h194 ht214
    replace h206 := Sl.tr (Dw := False) h206 ht214
    replace h208 := Sl.tr (Dw := False) h208 ht214
    replace hK := Tr.trans (Dw := False) hK ht214
    replace hB := Nat.le_trans hB ht214.ex.size
    replace hA := ht214.new
    replace hH : Hp w.heap.size A200 w212 (obC b198 [.slice none 0 0, .slice none 0 0] 35 :: obC b92 [v191, v193] 35 :: obC b14 [.string ByteArray.empty, .string ByteArray.empty] 23 :: []) := hH213
    obtain ⟨A221, ht222, h223, hH224⟩ := Hp.freezeC (Dw := False) (α := staff_ratio) (x := x190) hH (i := 1) rfl hA (by exact ⟨[v191], _, rfl, ⟨_, rfl, h192⟩, ⟨_, rfl, h194⟩⟩)
    replace h206 := Sl.tr (Dw := False) h206 ht222
    replace h208 := Sl.tr (Dw := False) h208 ht222
    replace hK := Tr.trans (Dw := False) hK ht222
    replace hB := Nat.le_trans hB ht222.ex.size
    replace hA := ht222.new
    replace hH : Hp w.heap.size A221 w212 (obC b198 [.slice none 0 0, .slice none 0 0] 35 :: obC b14 [.string ByteArray.empty, .string ByteArray.empty] 23 :: []) := hH224
    refine V_CHw (Dw := False) ?_
    refine CH_l1 (Dw := False) (k := 2) rfl ?_
    have h230 : (v205).oneCell' = true := by obtain ⟨_, _, e, _⟩ := Sl.form h206; rw [e]; rfl
    have h233 : (v207).oneCell' = true := by obtain ⟨_, _, e, _⟩ := Sl.form h208; rw [e]; rfl
    refine V_storeC (Dw := False) (off := 0) (ds := [v205, v207]) hH (i := 0) rfl Tryz.sizeOf35 rfl (Nat.le_of_ble_eq_true rfl) (by exact (List.forall_mem_cons.2 ⟨h230, (List.forall_mem_cons.2 ⟨h233, (fun _ h => nomatch h)⟩)⟩)) rfl hB hA rfl rfl ?_
    intro w225 hH226 ht227
    replace h223 := El.tr (Dw := False) h223 ht227
    replace h206 := Sl.tr (Dw := False) h206 ht227
    replace h208 := Sl.tr (Dw := False) h208 ht227
    replace hK := Tr.trans (Dw := False) hK ht227
    replace hB := Nat.le_trans hB ht227.ex.size
    replace hA := ht227.new
    replace hH : Hp w.heap.size A221 w225 (obC b198 [v205, v207] 35 :: obC b14 [.string ByteArray.empty, .string ByteArray.empty] 23 :: []) := hH226
    obtain ⟨A234, ht235, h236, hH237⟩ := Hp.freezeC (Dw := False) (α := staff_ratio) (x := x204) hH (i := 0) rfl hA (by exact ⟨[v205], _, rfl, ⟨_, rfl, h206⟩, ⟨_, rfl, h208⟩⟩)
    replace h223 := El.tr (Dw := False) h223 ht235
    replace hK := Tr.trans (Dw := False) hK ht235
    replace hB := Nat.le_trans hB ht235.ex.size
    replace hA := ht235.new
    replace hH : Hp w.heap.size A234 w225 (obC b14 [.string ByteArray.empty, .string ByteArray.empty] 23 :: []) := hH237
    refine V_CHw (Dw := False) ?_
    refine CH_tail (Dw := False) ?_
    show V _ _ _ _ [] _ _
    refine V_to (fun _ _ => rfl) ?_
    refine C_seq ?_
    refine C_region_ch (Dw := False) A234 16 [(1, 0), (1, 1), (1, 2), (1, 3), (1, 5), (1, 6), (1, 7), (1, 8), (2, 4), (2, 9), (1, 10), (2, 11), (1, 12), (1, 13), (4, 14), (1, 15)] Tryz_mixed (by kernel_rfl) (fun w238 hk239 => ?_)
    have ht240 := Kp.tr (Dw := False) hk239 hA hB
    replace hH := Hp.kp (Dw := False) hH hk239
    replace h223 := El.tr (Dw := False) h223 ht240
    replace h236 := El.tr (Dw := False) h236 ht240
    replace hK := Tr.trans (Dw := False) hK ht240
    replace hB := Nat.le_trans hB ht240.ex.size
    replace hA := ht240.new
    refine CH_q2 (Dw := False) rfl ?_
    have h241 := El_staff_ratio_0 h223
    refine VQ_y (fun w' hw' => Y_fieldAddr Tryz.underlying35 rfl Tryz.sizeOf33 (by decide) rfl) rfl rfl rfl ?_
    refine VQ_CH (Dw := False) ?_
    refine CH_q2 (Dw := False) rfl ?_
    obtain ⟨v242, h243, h244⟩ := El.list h241
    refine VQ_y (fun w' hw' => Y_load ((World.cell?_of_block (hw'.2 _ h241.2.1 h241.1)).trans h243) Tryz.isAgg33 rfl) rfl rfl rfl ?_
    refine VQ_CH (Dw := False) ?_
    refine CH_q2 (Dw := False) rfl ?_
    have h245 := El_staff_ratio_0 h236
    refine VQ_y (fun w' hw' => Y_fieldAddr Tryz.underlying35 rfl Tryz.sizeOf33 (by decide) rfl) rfl rfl rfl ?_
    refine VQ_CH (Dw := False) ?_
    refine CH_q2 (Dw := False) rfl ?_
    obtain ⟨v246, h247, h248⟩ := El.list h245
    refine VQ_y (fun w' hw' => Y_load ((World.cell?_of_block (hw'.2 _ h245.2.1 h245.1)).trans h247) Tryz.isAgg33 rfl) rfl rfl rfl ?_
    refine VQ_CH (Dw := False) ?_
    refine CH_q2 (Dw := False) rfl ?_
    have h249 := El_staff_ratio_1 h223
    refine VQ_y (fun w' hw' => Y_fieldAddr Tryz.underlying35 rfl Tryz.sizeOf33 (by decide) rfl) rfl rfl rfl ?_
    refine VQ_CH (Dw := False) ?_
    refine CH_q2 (Dw := False) rfl ?_
    obtain ⟨v250, h251, h252⟩ := El.list h249
    refine VQ_y (fun w' hw' => Y_load ((World.cell?_of_block (hw'.2 _ h249.2.1 h249.1)).trans h251) Tryz.isAgg33 rfl) rfl rfl rfl ?_
    refine VQ_CH (Dw := False) ?_
    refine CH_q2 (Dw := False) rfl ?_
    have h253 := El_staff_ratio_1 h236
    refine VQ_y (fun w' hw' => Y_fieldAddr Tryz.underlying35 rfl Tryz.sizeOf33 (by decide) rfl) rfl rfl rfl ?_
    refine VQ_CH (Dw := False) ?_
    refine CH_q2 (Dw := False) rfl ?_
    obtain ⟨v254, h255, h256⟩ := El.list h253
    refine VQ_y (fun w' hw' => Y_load ((World.cell?_of_block (hw'.2 _ h253.2.1 h253.1)).trans h255) Tryz.isAgg33 rfl) rfl rfl rfl ?_
    refine VQ_CH (Dw := False) ?_
    refine CH_l1 (Dw := False) (k := 0) rfl ?_
    obtain ⟨x257, hx257, hm⟩ := Option.bind_eq_some_iff.1 hm
    refine V_call Tryz.call18 rfl rfl rfl rfl (staff_nat_times_c (Dw := False) w238 hA x190.num v242 h244 x204.num v246 h248 hx257) ?_
    rintro v258 w260 ⟨_, rfl, h259, hk261⟩
    have ht262 := Kp.tr (Dw := False) hk261 hA hB
    replace hH := Hp.kp (Dw := False) hH hk261
    replace h252 := Sl.tr (Dw := False) h252 ht262
    replace h256 := Sl.tr (Dw := False) h256 ht262
    replace hK := Tr.trans (Dw := False) hK ht262
    replace hB := Nat.le_trans hB ht262.ex.size
    replace hA := ht262.new
    refine V_CH (Dw := False) (hk261) ?_
    refine CH_l1 (Dw := False) (k := 0) rfl ?_
    obtain ⟨x263, hx263, hm⟩ := Option.bind_eq_some_iff.1 hm
    refine V_call Tryz.call18 rfl rfl rfl rfl (staff_nat_times_c (Dw := False) w260 hA x190.den v250 h252 x204.den v254 h256 hx263) ?_
    rintro v264 w266 ⟨_, rfl, h265, hk267⟩
    have ht268 := Kp.tr (Dw := False) hk267 hA hB
    replace hH := Hp.kp (Dw := False) hH hk267
    replace h259 := Sl.tr (Dw := False) h259 ht268
    replace hK := Tr.trans (Dw := False) hK ht268
    replace hB := Nat.le_trans hB ht268.ex.size
    replace hA := ht268.new
    refine V_CH (Dw := False) (hk267) ?_
    refine CH_q2 (Dw := False) rfl ?_
    refine VQ_y (fun w' hw' => Y_build (cells := #[v258, v264]) Tryz.underlying35 Tryz.zeroValue35 (Tryz_places35 _ Tryz.underlying35) rfl (by obtain ⟨a269, c270, e271, _⟩ := Sl.form h259; subst e271; obtain ⟨a272, c273, e274, _⟩ := Sl.form h265; subst e274; with_unfolding_all rfl)) rfl rfl rfl ?_
    refine VQ_CH (Dw := False) ?_
    refine CH_l1 (Dw := False) (k := 0) rfl ?_
    obtain ⟨x275, hx275, hm⟩ := Option.bind_eq_some_iff.1 hm
    refine V_call Tryz.call20 rfl rfl rfl rfl (staff_limited_c w266 hA (Fz.tr (Dw := False) hT hK) (⟨x257, x263⟩ : staff_ratio) v258 h259 v264 h265 hx275) ?_
    rintro _ w276 ⟨rfl, hk277⟩
    have ht278 := Kp.tr (Dw := False) hk277 hA hB
    replace hH := Hp.kp (Dw := False) hH hk277
    replace hK := Tr.trans (Dw := False) hK ht278
    replace hB := Nat.le_trans hB ht278.ex.size
    replace hA := ht278.new
    refine V_CH (Dw := False) (hk277) ?_
    refine CH_q2 (Dw := False) rfl ?_
    refine VQ_y (fun w' hw' => Y_extract rfl rfl) rfl rfl rfl ?_
    refine VQ_CH (Dw := False) ?_
    refine CH_q2 (Dw := False) rfl ?_
    refine VQ_y (fun w' hw' => Y_extract rfl rfl) rfl rfl rfl ?_
    refine VQ_CH (Dw := False) ?_
    refine CH_l1 (Dw := False) (k := 2) rfl ?_
    refine V_storeC (Dw := False) (off := 0) (ds := [.string x275.1.num, .string x275.1.den]) hH (i := 0) rfl Tryz.sizeOf23 rfl (Nat.le_of_ble_eq_true rfl) (by simp [Value.cells, Value.oneCell']) rfl hB hA rfl rfl ?_
    intro w279 hH280 ht281
    replace hK := Tr.trans (Dw := False) hK ht281
    replace hH : Hp w.heap.size A234 w279 (obC b14 [.string x275.1.num, .string x275.1.den] 23 :: []) := hH280
    refine V_CHw (Dw := False) ?_
    refine CH_q2 (Dw := False) rfl ?_
    refine VQ_y (fun w' hw' => Y_assign rfl) rfl rfl rfl ?_
    refine VQ_CH (Dw := False) ?_
    refine CH_tail (Dw := False) ?_
    show V _ _ _ _ [] _ _
    refine V_to (fun _ _ => rfl) ?_
    obtain rfl := Option.some.inj hm
    refine C_ret ?_
    try simp only [↓inBlock_ret, ↓then_ret]
    exact retQ rfl (Res.l2 Tryz.results8 (RL.cell rfl (loadVar_agg (Hp.part (off := 0) (n := 2) (ds := [.string x275.1.num, .string x275.1.den]) hH (i := 0) rfl rfl) Tryz.isAgg23 Tryz.sizeOf23)) (RL.tmp rfl)) ⟨rfl, hK.kp⟩
   obtain ⟨x282, hx282, hm⟩ := Option.bind_eq_some_iff.1 hm
   refine V_call Tryz.call24 rfl rfl rfl rfl (staff_lowest_c (Dw := False) w195 hA x21.2.1.num v85 h87 x21.1.den v89 h91 hx282) ?_
   rintro _ w287 ⟨v283, v285, rfl, h284, h286, hk288⟩
   have ht289 := Kp.tr (Dw := False) hk288 hA hB
   replace hH := Hp.kp (Dw := False) hH hk288
   replace h192 := Sl.tr (Dw := False) h192 ht289
   replace h194 := Sl.tr (Dw := False) h194 ht289
   replace hK := Tr.trans (Dw := False) hK ht289
   replace hB := Nat.le_trans hB ht289.ex.size
   replace hA := ht289.new
   refine V_CHZ (Dw := False) (hk288) ?_
   refine CHZ_nil (Dw := False) ?_
   refine CH_l1 (Dw := False) (k := 0) rfl ?_
   refine V_allocHk (Dw := False) (B := w.heap.size) hH Tryz.zeroValue35 hB hA rfl ?_
   intro b290 w291 A292 hk295 hH293 ht294
   replace h192 := Sl.tr (Dw := False) h192 ht294
   replace h194 := Sl.tr (Dw := False) h194 ht294
   replace h284 := Sl.tr (Dw := False) h284 ht294
   replace h286 := Sl.tr (Dw := False) h286 ht294
   replace hK := Tr.trans (Dw := False) hK ht294
   replace hB := Nat.le_trans hB ht294.ex.size
   replace hA := ht294.new
   replace hH : Hp w.heap.size A292 w291 (obC b290 [.slice none 0 0, .slice none 0 0] 35 :: obC b92 [.slice none 0 0, .slice none 0 0] 35 :: obC b14 [.string ByteArray.empty, .string ByteArray.empty] 23 :: []) := hH293
   refine V_CH (Dw := False) (hk295) ?_
   refine CH_l1 (Dw := False) (k := 2) rfl ?_
   have h301 : (v191).oneCell' = true := by obtain ⟨_, _, e, _⟩ := Sl.form h192; rw [e]; rfl
   have h304 : (v193).oneCell' = true := by obtain ⟨_, _, e, _⟩ := Sl.form h194; rw [e]; rfl
   refine V_storeC (Dw := False) (off := 0) (ds := [v191, v193]) hH (i := 1) rfl Tryz.sizeOf35 rfl (Nat.le_of_ble_eq_true rfl) (by exact (List.forall_mem_cons.2 ⟨h301, (List.forall_mem_cons.2 ⟨h304, (fun _ h => nomatch h)⟩)⟩)) rfl hB hA rfl rfl ?_
   intro w296 hH297 ht298
   replace h192 := Sl.tr (Dw := False) h192 ht298
   replace h194 := Sl.tr (Dw := False) h194 ht298
   replace h284 := Sl.tr (Dw := False) h284 ht298
   replace h286 := Sl.tr (Dw := False) h286 ht298
   replace hK := Tr.trans (Dw := False) hK ht298
   replace hB := Nat.le_trans hB ht298.ex.size
   replace hA := ht298.new
   replace hH : Hp w.heap.size A292 w296 (obC b290 [.slice none 0 0, .slice none 0 0] 35 :: obC b92 [v191, v193] 35 :: obC b14 [.string ByteArray.empty, .string ByteArray.empty] 23 :: []) := hH297
   obtain ⟨A305, ht306, h307, hH308⟩ := Hp.freezeC (Dw := False) (α := staff_ratio) (x := x190) hH (i := 1) rfl hA (by exact ⟨[v191], _, rfl, ⟨_, rfl, h192⟩, ⟨_, rfl, h194⟩⟩)
   replace h284 := Sl.tr (Dw := False) h284 ht306
   replace h286 := Sl.tr (Dw := False) h286 ht306
   replace hK := Tr.trans (Dw := False) hK ht306
   replace hB := Nat.le_trans hB ht306.ex.size
   replace hA := ht306.new
   replace hH : Hp w.heap.size A305 w296 (obC b290 [.slice none 0 0, .slice none 0 0] 35 :: obC b14 [.string ByteArray.empty, .string ByteArray.empty] 23 :: []) := hH308
   refine V_CHw (Dw := False) ?_
   refine CH_l1 (Dw := False) (k := 2) rfl ?_
   have h314 : (v283).oneCell' = true := by obtain ⟨_, _, e, _⟩ := Sl.form h284; rw [e]; rfl
   have h317 : (v285).oneCell' = true := by obtain ⟨_, _, e, _⟩ := Sl.form h286; rw [e]; rfl
   refine V_storeC (Dw := False) (off := 0) (ds := [v283, v285]) hH (i := 0) rfl Tryz.sizeOf35 rfl (Nat.le_of_ble_eq_true rfl) (by exact (List.forall_mem_cons.2 ⟨h314, (List.forall_mem_cons.2 ⟨h317, (fun _ h => nomatch h)⟩)⟩)) rfl hB hA rfl rfl ?_
   intro w309 hH310 ht311
   replace h307 := El.tr (Dw := False) h307 ht311
   replace h284 := Sl.tr (Dw := False) h284 ht311
   replace h286 := Sl.tr (Dw := False) h286 ht311
   replace hK := Tr.trans (Dw := False) hK ht311
   replace hB := Nat.le_trans hB ht311.ex.size
   replace hA := ht311.new
   replace hH : Hp w.heap.size A305 w309 (obC b290 [v283, v285] 35 :: obC b14 [.string ByteArray.empty, .string ByteArray.empty] 23 :: []) := hH310
   obtain ⟨A318, ht319, h320, hH321⟩ := Hp.freezeC (Dw := False) (α := staff_ratio) (x := x282) hH (i := 0) rfl hA (by exact ⟨[v283], _, rfl, ⟨_, rfl, h284⟩, ⟨_, rfl, h286⟩⟩)
   replace h307 := El.tr (Dw := False) h307 ht319
   replace hK := Tr.trans (Dw := False) hK ht319
   replace hB := Nat.le_trans hB ht319.ex.size
   replace hA := ht319.new
   replace hH : Hp w.heap.size A318 w309 (obC b14 [.string ByteArray.empty, .string ByteArray.empty] 23 :: []) := hH321
   refine V_CHw (Dw := False) ?_
   refine CH_tail (Dw := False) ?_
   show V _ _ _ _ [] _ _
   refine V_to (fun _ _ => rfl) ?_
   refine C_seq ?_
   refine C_region_ch (Dw := False) A318 16 [(1, 0), (1, 1), (1, 2), (1, 3), (1, 5), (1, 6), (1, 7), (1, 8), (2, 4), (2, 9), (1, 10), (2, 11), (1, 12), (1, 13), (4, 14), (1, 15)] Tryz_mixed (by kernel_rfl) (fun w322 hk323 => ?_)
   have ht324 := Kp.tr (Dw := False) hk323 hA hB
   replace hH := Hp.kp (Dw := False) hH hk323
   replace h307 := El.tr (Dw := False) h307 ht324
   replace h320 := El.tr (Dw := False) h320 ht324
   replace hK := Tr.trans (Dw := False) hK ht324
   replace hB := Nat.le_trans hB ht324.ex.size
   replace hA := ht324.new
   refine CH_q2 (Dw := False) rfl ?_
   have h325 := El_staff_ratio_0 h307
   refine VQ_y (fun w' hw' => Y_fieldAddr Tryz.underlying35 rfl Tryz.sizeOf33 (by decide) rfl) rfl rfl rfl ?_
   refine VQ_CH (Dw := False) ?_
   refine CH_q2 (Dw := False) rfl ?_
   obtain ⟨v326, h327, h328⟩ := El.list h325
   refine VQ_y (fun w' hw' => Y_load ((World.cell?_of_block (hw'.2 _ h325.2.1 h325.1)).trans h327) Tryz.isAgg33 rfl) rfl rfl rfl ?_
   refine VQ_CH (Dw := False) ?_
   refine CH_q2 (Dw := False) rfl ?_
   have h329 := El_staff_ratio_0 h320
   refine VQ_y (fun w' hw' => Y_fieldAddr Tryz.underlying35 rfl Tryz.sizeOf33 (by decide) rfl) rfl rfl rfl ?_
   refine VQ_CH (Dw := False) ?_
   refine CH_q2 (Dw := False) rfl ?_
   obtain ⟨v330, h331, h332⟩ := El.list h329
   refine VQ_y (fun w' hw' => Y_load ((World.cell?_of_block (hw'.2 _ h329.2.1 h329.1)).trans h331) Tryz.isAgg33 rfl) rfl rfl rfl ?_
   refine VQ_CH (Dw := False) ?_
   refine CH_q2 (Dw := False) rfl ?_
   have h333 := El_staff_ratio_1 h307
   refine VQ_y (fun w' hw' => Y_fieldAddr Tryz.underlying35 rfl Tryz.sizeOf33 (by decide) rfl) rfl rfl rfl ?_
   refine VQ_CH (Dw := False) ?_
   refine CH_q2 (Dw := False) rfl ?_
   obtain ⟨v334, h335, h336⟩ := El.list h333
   refine VQ_y (fun w' hw' => Y_load ((World.cell?_of_block (hw'.2 _ h333.2.1 h333.1)).trans h335) Tryz.isAgg33 rfl) rfl rfl rfl ?_
   refine VQ_CH (Dw := False) ?_
   refine CH_q2 (Dw := False) rfl ?_
   have h337 := El_staff_ratio_1 h320
   refine VQ_y (fun w' hw' => Y_fieldAddr Tryz.underlying35 rfl Tryz.sizeOf33 (by decide) rfl) rfl rfl rfl ?_
   refine VQ_CH (Dw := False) ?_
   refine CH_q2 (Dw := False) rfl ?_
   obtain ⟨v338, h339, h340⟩ := El.list h337
   refine VQ_y (fun w' hw' => Y_load ((World.cell?_of_block (hw'.2 _ h337.2.1 h337.1)).trans h339) Tryz.isAgg33 rfl) rfl rfl rfl ?_
   refine VQ_CH (Dw := False) ?_
   refine CH_l1 (Dw := False) (k := 0) rfl ?_
   obtain ⟨x341, hx341, hm⟩ := Option.bind_eq_some_iff.1 hm
   refine V_call Tryz.call18 rfl rfl rfl rfl (staff_nat_times_c (Dw := False) w322 hA x190.num v326 h328 x282.num v330 h332 hx341) ?_
   rintro v342 w344 ⟨_, rfl, h343, hk345⟩
   have ht346 := Kp.tr (Dw := False) hk345 hA hB
   replace hH := Hp.kp (Dw := False) hH hk345
   replace h336 := Sl.tr (Dw := False) h336 ht346
   replace h340 := Sl.tr (Dw := False) h340 ht346
   replace hK := Tr.trans (Dw := False) hK ht346
   replace hB := Nat.le_trans hB ht346.ex.size
   replace hA := ht346.new
   refine V_CH (Dw := False) (hk345) ?_
   refine CH_l1 (Dw := False) (k := 0) rfl ?_
   obtain ⟨x347, hx347, hm⟩ := Option.bind_eq_some_iff.1 hm
   refine V_call Tryz.call18 rfl rfl rfl rfl (staff_nat_times_c (Dw := False) w344 hA x190.den v334 h336 x282.den v338 h340 hx347) ?_
   rintro v348 w350 ⟨_, rfl, h349, hk351⟩
   have ht352 := Kp.tr (Dw := False) hk351 hA hB
   replace hH := Hp.kp (Dw := False) hH hk351
   replace h343 := Sl.tr (Dw := False) h343 ht352
   replace hK := Tr.trans (Dw := False) hK ht352
   replace hB := Nat.le_trans hB ht352.ex.size
   replace hA := ht352.new
   refine V_CH (Dw := False) (hk351) ?_
   refine CH_q2 (Dw := False) rfl ?_
   refine VQ_y (fun w' hw' => Y_build (cells := #[v342, v348]) Tryz.underlying35 Tryz.zeroValue35 (Tryz_places35 _ Tryz.underlying35) rfl (by obtain ⟨a353, c354, e355, _⟩ := Sl.form h343; subst e355; obtain ⟨a356, c357, e358, _⟩ := Sl.form h349; subst e358; with_unfolding_all rfl)) rfl rfl rfl ?_
   refine VQ_CH (Dw := False) ?_
   refine CH_l1 (Dw := False) (k := 0) rfl ?_
   obtain ⟨x359, hx359, hm⟩ := Option.bind_eq_some_iff.1 hm
   refine V_call Tryz.call20 rfl rfl rfl rfl (staff_limited_c w350 hA (Fz.tr (Dw := False) hT hK) (⟨x341, x347⟩ : staff_ratio) v342 h343 v348 h349 hx359) ?_
   rintro _ w360 ⟨rfl, hk361⟩
   have ht362 := Kp.tr (Dw := False) hk361 hA hB
   replace hH := Hp.kp (Dw := False) hH hk361
   replace hK := Tr.trans (Dw := False) hK ht362
   replace hB := Nat.le_trans hB ht362.ex.size
   replace hA := ht362.new
   refine V_CH (Dw := False) (hk361) ?_
   refine CH_q2 (Dw := False) rfl ?_
   refine VQ_y (fun w' hw' => Y_extract rfl rfl) rfl rfl rfl ?_
   refine VQ_CH (Dw := False) ?_
   refine CH_q2 (Dw := False) rfl ?_
   refine VQ_y (fun w' hw' => Y_extract rfl rfl) rfl rfl rfl ?_
   refine VQ_CH (Dw := False) ?_
   refine CH_l1 (Dw := False) (k := 2) rfl ?_
   refine V_storeC (Dw := False) (off := 0) (ds := [.string x359.1.num, .string x359.1.den]) hH (i := 0) rfl Tryz.sizeOf23 rfl (Nat.le_of_ble_eq_true rfl) (by simp [Value.cells, Value.oneCell']) rfl hB hA rfl rfl ?_
   intro w363 hH364 ht365
   replace hK := Tr.trans (Dw := False) hK ht365
   replace hH : Hp w.heap.size A318 w363 (obC b14 [.string x359.1.num, .string x359.1.den] 23 :: []) := hH364
   refine V_CHw (Dw := False) ?_
   refine CH_q2 (Dw := False) rfl ?_
   refine VQ_y (fun w' hw' => Y_assign rfl) rfl rfl rfl ?_
   refine VQ_CH (Dw := False) ?_
   refine CH_tail (Dw := False) ?_
   show V _ _ _ _ [] _ _
   refine V_to (fun _ _ => rfl) ?_
   obtain rfl := Option.some.inj hm
   refine C_ret ?_
   try simp only [↓inBlock_ret, ↓then_ret]
   exact retQ rfl (Res.l2 Tryz.results8 (RL.cell rfl (loadVar_agg (Hp.part (off := 0) (n := 2) (ds := [.string x359.1.num, .string x359.1.den]) hH (i := 0) rfl rfl) Tryz.isAgg23 Tryz.sizeOf23)) (RL.tmp rfl)) ⟨rfl, hK.kp⟩
  ·refine V_allocHk (Dw := False) (B := w.heap.size) hH Tryz.zeroValue35 hB hA rfl ?_
   intro b366 w367 A368 hk371 hH369 ht370
   replace h79 := Sl.tr (Dw := False) h79 ht370
   replace h83 := Sl.tr (Dw := False) h83 ht370
   replace h87 := Sl.tr (Dw := False) h87 ht370
   replace h91 := Sl.tr (Dw := False) h91 ht370
   replace hK := Tr.trans (Dw := False) hK ht370
   replace hB := Nat.le_trans hB ht370.ex.size
   replace hA := ht370.new
   replace hH : Hp w.heap.size A368 w367 (obC b366 [.slice none 0 0, .slice none 0 0] 35 :: obC b14 [.string ByteArray.empty, .string ByteArray.empty] 23 :: []) := hH369
   refine V_CHZ (Dw := False) (hk371) ?_
   refine CHZ_l1 (Dw := False) (k := 0) [(2, 10), (2, 4), (2, 9), (4, 12), (4, 13)] rfl ?_ rfl ?_
   ·refine CH_l1 (Dw := False) (k := 0) rfl ?_
    refine V_allocHk (Dw := False) (B := w.heap.size) hH Tryz.zeroValue35 hB hA rfl ?_
    intro b372 w373 A374 hk377 hH375 ht376
    replace h79 := Sl.tr (Dw := False) h79 ht376
    replace h83 := Sl.tr (Dw := False) h83 ht376
    replace h87 := Sl.tr (Dw := False) h87 ht376
    replace h91 := Sl.tr (Dw := False) h91 ht376
    replace hK := Tr.trans (Dw := False) hK ht376
    replace hB := Nat.le_trans hB ht376.ex.size
    replace hA := ht376.new
    replace hH : Hp w.heap.size A374 w373 (obC b372 [.slice none 0 0, .slice none 0 0] 35 :: obC b366 [.slice none 0 0, .slice none 0 0] 35 :: obC b14 [.string ByteArray.empty, .string ByteArray.empty] 23 :: []) := hH375
    refine V_CH (Dw := False) (hk377) ?_
    refine CH_l1 (Dw := False) (k := 0) rfl ?_
    obtain ⟨x378, hx378, hm⟩ := Option.bind_eq_some_iff.1 hm
    refine V_call Tryz.call24 rfl rfl rfl rfl (staff_lowest_c (Dw := False) w373 hA x21.1.num v77 h79 x21.2.1.den v81 h83 hx378) ?_
    rintro _ w383 ⟨v379, v381, rfl, h380, h382, hk384⟩
    have ht385 := Kp.tr (Dw := False) hk384 hA hB
    replace hH := Hp.kp (Dw := False) hH hk384
    replace h87 := Sl.tr (Dw := False) h87 ht385
    replace h91 := Sl.tr (Dw := False) h91 ht385
    replace hK := Tr.trans (Dw := False) hK ht385
    replace hB := Nat.le_trans hB ht385.ex.size
    replace hA := ht385.new
    refine V_CH (Dw := False) (hk384) ?_
    refine CH_l1 (Dw := False) (k := 0) rfl ?_
    obtain ⟨x386, hx386, hm⟩ := Option.bind_eq_some_iff.1 hm
    refine V_call Tryz.call24 rfl rfl rfl rfl (staff_lowest_c (Dw := False) w383 hA x21.2.1.num v85 h87 x21.1.den v89 h91 hx386) ?_
    rintro _ w391 ⟨v387, v389, rfl, h388, h390, hk392⟩
    have ht393 := Kp.tr (Dw := False) hk392 hA hB
    replace hH := Hp.kp (Dw := False) hH hk392
    replace h380 := Sl.tr (Dw := False) h380 ht393
    replace h382 := Sl.tr (Dw := False) h382 ht393
    replace hK := Tr.trans (Dw := False) hK ht393
    replace hB := Nat.le_trans hB ht393.ex.size
    replace hA := ht393.new
    refine V_CH (Dw := False) (hk392) ?_
    refine CH_l1 (Dw := False) (k := 2) rfl ?_
    have h399 : (v379).oneCell' = true := by obtain ⟨_, _, e, _⟩ := Sl.form h380; rw [e]; rfl
    have h402 : (v381).oneCell' = true := by obtain ⟨_, _, e, _⟩ := Sl.form h382; rw [e]; rfl
    refine V_storeC (Dw := False) (off := 0) (ds := [v379, v381]) hH (i := 0) rfl Tryz.sizeOf35 rfl (Nat.le_of_ble_eq_true rfl) (by exact (List.forall_mem_cons.2 ⟨h399, (List.forall_mem_cons.2 ⟨h402, (fun _ h => nomatch h)⟩)⟩)) rfl hB hA rfl rfl ?_
    intro w394 hH395 ht396
    replace h380 := Sl.tr (Dw := False) h380 ht396
    replace h382 := Sl.tr (Dw := False) h382 ht396
    replace h388 := Sl.tr (Dw := False) h388 ht396
    replace h390 := Sl.tr (Dw := False) h390 ht396
    replace hK := Tr.trans (Dw := False) hK ht396
    replace hB := Nat.le_trans hB ht396.ex.size
    replace hA := ht396.new
    replace hH : Hp w.heap.size A374 w394 (obC b372 [v379, v381] 35 :: obC b366 [.slice none 0 0, .slice none 0 0] 35 :: obC b14 [.string ByteArray.empty, .string ByteArray.empty] 23 :: []) := hH395
    obtain ⟨A403, ht404, h405, hH406⟩ := Hp.freezeC (Dw := False) (α := staff_ratio) (x := x378) hH (i := 0) rfl hA (by exact ⟨[v379], _, rfl, ⟨_, rfl, h380⟩, ⟨_, rfl, h382⟩⟩)
    replace h388 := Sl.tr (Dw := False) h388 ht404
    replace h390 := Sl.tr (Dw := False) h390 ht404
    replace hK := Tr.trans (Dw := False) hK ht404
    replace hB := Nat.le_trans hB ht404.ex.size
    replace hA := ht404.new
    replace hH : Hp w.heap.size A403 w394 (obC b366 [.slice none 0 0, .slice none 0 0] 35 :: obC b14 [.string ByteArray.empty, .string ByteArray.empty] 23 :: []) := hH406
    refine V_CHw (Dw := False) ?_
    refine CH_l1 (Dw := False) (k := 2) rfl ?_
    have h412 : (v387).oneCell' = true := by obtain ⟨_, _, e, _⟩ := Sl.form h388; rw [e]; rfl
    have h415 : (v389).oneCell' = true := by obtain ⟨_, _, e, _⟩ := Sl.form h390; rw [e]; rfl
    refine V_storeC (Dw := False) (off := 0) (ds := [v387, v389]) hH (i := 0) rfl Tryz.sizeOf35 rfl (Nat.le_of_ble_eq_true rfl) (by exact (List.forall_mem_cons.2 ⟨h412, (List.forall_mem_cons.2 ⟨h415, (fun _ h => nomatch h)⟩)⟩)) rfl hB hA rfl rfl ?_
    intro w407 hH408 ht409
    replace h405 := El.tr (Dw := False) h405 ht409
    replace h388 := Sl.tr (Dw := False) h388 ht409
    replace h390 := Sl.tr (Dw := False) h390 ht409
    replace hK := Tr.trans (Dw := False) hK ht409
    replace hB := Nat.le_trans hB ht409.ex.size
    replace hA := ht409.new
    replace hH : Hp w.heap.size A403 w407 (obC b366 [v387, v389] 35 :: obC b14 [.string ByteArray.empty, .string ByteArray.empty] 23 :: []) := hH408
    obtain ⟨A416, ht417, h418, hH419⟩ := Hp.freezeC (Dw := False) (α := staff_ratio) (x := x386) hH (i := 0) rfl hA (by exact ⟨[v387], _, rfl, ⟨_, rfl, h388⟩, ⟨_, rfl, h390⟩⟩)
    replace h405 := El.tr (Dw := False) h405 ht417
    replace hK := Tr.trans (Dw := False) hK ht417
    replace hB := Nat.le_trans hB ht417.ex.size
    replace hA := ht417.new
    replace hH : Hp w.heap.size A416 w407 (obC b14 [.string ByteArray.empty, .string ByteArray.empty] 23 :: []) := hH419
    refine V_CHw (Dw := False) ?_
    refine CH_tail (Dw := False) ?_
    show V _ _ _ _ [] _ _
    refine V_to (fun _ _ => rfl) ?_
    refine C_seq ?_
    refine C_region_ch (Dw := False) A416 16 [(1, 0), (1, 1), (1, 2), (1, 3), (1, 5), (1, 6), (1, 7), (1, 8), (2, 4), (2, 9), (1, 10), (2, 11), (1, 12), (1, 13), (4, 14), (1, 15)] Tryz_mixed (by kernel_rfl) (fun w420 hk421 => ?_)
    have ht422 := Kp.tr (Dw := False) hk421 hA hB
    replace hH := Hp.kp (Dw := False) hH hk421
    replace h418 := El.tr (Dw := False) h418 ht422
    replace h405 := El.tr (Dw := False) h405 ht422
    replace hK := Tr.trans (Dw := False) hK ht422
    replace hB := Nat.le_trans hB ht422.ex.size
    replace hA := ht422.new
    refine CH_q2 (Dw := False) rfl ?_
    have h423 := El_staff_ratio_0 h405
    refine VQ_y (fun w' hw' => Y_fieldAddr Tryz.underlying35 rfl Tryz.sizeOf33 (by decide) rfl) rfl rfl rfl ?_
    refine VQ_CH (Dw := False) ?_
    refine CH_q2 (Dw := False) rfl ?_
    obtain ⟨v424, h425, h426⟩ := El.list h423
    refine VQ_y (fun w' hw' => Y_load ((World.cell?_of_block (hw'.2 _ h423.2.1 h423.1)).trans h425) Tryz.isAgg33 rfl) rfl rfl rfl ?_
    refine VQ_CH (Dw := False) ?_
    refine CH_q2 (Dw := False) rfl ?_
    have h427 := El_staff_ratio_0 h418
    refine VQ_y (fun w' hw' => Y_fieldAddr Tryz.underlying35 rfl Tryz.sizeOf33 (by decide) rfl) rfl rfl rfl ?_
    refine VQ_CH (Dw := False) ?_
    refine CH_q2 (Dw := False) rfl ?_
    obtain ⟨v428, h429, h430⟩ := El.list h427
    refine VQ_y (fun w' hw' => Y_load ((World.cell?_of_block (hw'.2 _ h427.2.1 h427.1)).trans h429) Tryz.isAgg33 rfl) rfl rfl rfl ?_
    refine VQ_CH (Dw := False) ?_
    refine CH_q2 (Dw := False) rfl ?_
    have h431 := El_staff_ratio_1 h405
    refine VQ_y (fun w' hw' => Y_fieldAddr Tryz.underlying35 rfl Tryz.sizeOf33 (by decide) rfl) rfl rfl rfl ?_
    refine VQ_CH (Dw := False) ?_
    refine CH_q2 (Dw := False) rfl ?_
    obtain ⟨v432, h433, h434⟩ := El.list h431
    refine VQ_y (fun w' hw' => Y_load ((World.cell?_of_block (hw'.2 _ h431.2.1 h431.1)).trans h433) Tryz.isAgg33 rfl) rfl rfl rfl ?_
    refine VQ_CH (Dw := False) ?_
    refine CH_q2 (Dw := False) rfl ?_
    have h435 := El_staff_ratio_1 h418
    refine VQ_y (fun w' hw' => Y_fieldAddr Tryz.underlying35 rfl Tryz.sizeOf33 (by decide) rfl) rfl rfl rfl ?_
    refine VQ_CH (Dw := False) ?_
    refine CH_q2 (Dw := False) rfl ?_
    obtain ⟨v436, h437, h438⟩ := El.list h435
    refine VQ_y (fun w' hw' => Y_load ((World.cell?_of_block (hw'.2 _ h435.2.1 h435.1)).trans h437) Tryz.isAgg33 rfl) rfl rfl rfl ?_
    refine VQ_CH (Dw := False) ?_
    refine CH_l1 (Dw := False) (k := 0) rfl ?_
    obtain ⟨x439, hx439, hm⟩ := Option.bind_eq_some_iff.1 hm
    refine V_call Tryz.call18 rfl rfl rfl rfl (staff_nat_times_c (Dw := False) w420 hA x378.num v424 h426 x386.num v428 h430 hx439) ?_
    rintro v440 w442 ⟨_, rfl, h441, hk443⟩
    have ht444 := Kp.tr (Dw := False) hk443 hA hB
    replace hH := Hp.kp (Dw := False) hH hk443
    replace h434 := Sl.tr (Dw := False) h434 ht444
    replace h438 := Sl.tr (Dw := False) h438 ht444
    replace hK := Tr.trans (Dw := False) hK ht444
    replace hB := Nat.le_trans hB ht444.ex.size
    replace hA := ht444.new
    refine V_CH (Dw := False) (hk443) ?_
    refine CH_l1 (Dw := False) (k := 0) rfl ?_
    obtain ⟨x445, hx445, hm⟩ := Option.bind_eq_some_iff.1 hm
    refine V_call Tryz.call18 rfl rfl rfl rfl (staff_nat_times_c (Dw := False) w442 hA x378.den v432 h434 x386.den v436 h438 hx445) ?_
    rintro v446 w448 ⟨_, rfl, h447, hk449⟩
    have ht450 := Kp.tr (Dw := False) hk449 hA hB
    replace hH := Hp.kp (Dw := False) hH hk449
    replace h441 := Sl.tr (Dw := False) h441 ht450
    replace hK := Tr.trans (Dw := False) hK ht450
    replace hB := Nat.le_trans hB ht450.ex.size
    replace hA := ht450.new
    refine V_CH (Dw := False) (hk449) ?_
    refine CH_q2 (Dw := False) rfl ?_
    refine VQ_y (fun w' hw' => Y_build (cells := #[v440, v446]) Tryz.underlying35 Tryz.zeroValue35 (Tryz_places35 _ Tryz.underlying35) rfl (by obtain ⟨a451, c452, e453, _⟩ := Sl.form h441; subst e453; obtain ⟨a454, c455, e456, _⟩ := Sl.form h447; subst e456; with_unfolding_all rfl)) rfl rfl rfl ?_
    refine VQ_CH (Dw := False) ?_
    refine CH_l1 (Dw := False) (k := 0) rfl ?_
    obtain ⟨x457, hx457, hm⟩ := Option.bind_eq_some_iff.1 hm
    refine V_call Tryz.call20 rfl rfl rfl rfl (staff_limited_c w448 hA (Fz.tr (Dw := False) hT hK) (⟨x439, x445⟩ : staff_ratio) v440 h441 v446 h447 hx457) ?_
    rintro _ w458 ⟨rfl, hk459⟩
    have ht460 := Kp.tr (Dw := False) hk459 hA hB
    replace hH := Hp.kp (Dw := False) hH hk459
    replace hK := Tr.trans (Dw := False) hK ht460
    replace hB := Nat.le_trans hB ht460.ex.size
    replace hA := ht460.new
    refine V_CH (Dw := False) (hk459) ?_
    refine CH_q2 (Dw := False) rfl ?_
    refine VQ_y (fun w' hw' => Y_extract rfl rfl) rfl rfl rfl ?_
    refine VQ_CH (Dw := False) ?_
    refine CH_q2 (Dw := False) rfl ?_
    refine VQ_y (fun w' hw' => Y_extract rfl rfl) rfl rfl rfl ?_
    refine VQ_CH (Dw := False) ?_
    refine CH_l1 (Dw := False) (k := 2) rfl ?_
    refine V_storeC (Dw := False) (off := 0) (ds := [.string x457.1.num, .string x457.1.den]) hH (i := 0) rfl Tryz.sizeOf23 rfl (Nat.le_of_ble_eq_true rfl) (by simp [Value.cells, Value.oneCell']) rfl hB hA rfl rfl ?_
    intro w461 hH462 ht463
    replace hK := Tr.trans (Dw := False) hK ht463
    replace hH : Hp w.heap.size A416 w461 (obC b14 [.string x457.1.num, .string x457.1.den] 23 :: []) := hH462
    refine V_CHw (Dw := False) ?_
    refine CH_q2 (Dw := False) rfl ?_
    refine VQ_y (fun w' hw' => Y_assign rfl) rfl rfl rfl ?_
    refine VQ_CH (Dw := False) ?_
    refine CH_tail (Dw := False) ?_
    show V _ _ _ _ [] _ _
    refine V_to (fun _ _ => rfl) ?_
    obtain rfl := Option.some.inj hm
    refine C_ret ?_
    try simp only [↓inBlock_ret, ↓then_ret]
    exact retQ rfl (Res.l2 Tryz.results8 (RL.cell rfl (loadVar_agg (Hp.part (off := 0) (n := 2) (ds := [.string x457.1.num, .string x457.1.den]) hH (i := 0) rfl rfl) Tryz.isAgg23 Tryz.sizeOf23)) (RL.tmp rfl)) ⟨rfl, hK.kp⟩
   obtain ⟨x464, hx464, hm⟩ := Option.bind_eq_some_iff.1 hm
   refine V_call Tryz.call24 rfl rfl rfl rfl (staff_lowest_c (Dw := False) w367 hA x21.1.num v77 h79 x21.2.1.den v81 h83 hx464) ?_
   rintro _ w469 ⟨v465, v467, rfl, h466, h468, hk470⟩
   have ht471 := Kp.tr (Dw := False) hk470 hA hB
   replace hH := Hp.kp (Dw := False) hH hk470
   replace h87 := Sl.tr (Dw := False) h87 ht471
   replace h91 := Sl.tr (Dw := False) h91 ht471
   replace hK := Tr.trans (Dw := False) hK ht471
   replace hB := Nat.le_trans hB ht471.ex.size
   replace hA := ht471.new
   refine V_CHZ (Dw := False) (hk470) ?_
   refine CHZ_l1 (Dw := False) (k := 0) [(2, 10), (2, 9), (4, 12), (4, 13)] rfl ?_ rfl ?_
   ·refine CH_l1 (Dw := False) (k := 0) rfl ?_
    refine V_allocHk (Dw := False) (B := w.heap.size) hH Tryz.zeroValue35 hB hA rfl ?_
    intro b472 w473 A474 hk477 hH475 ht476
    replace h87 := Sl.tr (Dw := False) h87 ht476
    replace h91 := Sl.tr (Dw := False) h91 ht476
    replace h466 := Sl.tr (Dw := False) h466 ht476
    replace h468 := Sl.tr (Dw := False) h468 ht476
    replace hK := Tr.trans (Dw := False) hK ht476
    replace hB := Nat.le_trans hB ht476.ex.size
    replace hA := ht476.new
    replace hH : Hp w.heap.size A474 w473 (obC b472 [.slice none 0 0, .slice none 0 0] 35 :: obC b366 [.slice none 0 0, .slice none 0 0] 35 :: obC b14 [.string ByteArray.empty, .string ByteArray.empty] 23 :: []) := hH475
    refine V_CH (Dw := False) (hk477) ?_
    refine CH_l1 (Dw := False) (k := 0) rfl ?_
    obtain ⟨x478, hx478, hm⟩ := Option.bind_eq_some_iff.1 hm
    refine V_call Tryz.call24 rfl rfl rfl rfl (staff_lowest_c (Dw := False) w473 hA x21.2.1.num v85 h87 x21.1.den v89 h91 hx478) ?_
    rintro _ w483 ⟨v479, v481, rfl, h480, h482, hk484⟩
    have ht485 := Kp.tr (Dw := False) hk484 hA hB
    replace hH := Hp.kp (Dw := False) hH hk484
    replace h466 := Sl.tr (Dw := False) h466 ht485
    replace h468 := Sl.tr (Dw := False) h468 ht485
    replace hK := Tr.trans (Dw := False) hK ht485
    replace hB := Nat.le_trans hB ht485.ex.size
    replace hA := ht485.new
    refine V_CH (Dw := False) (hk484) ?_
    refine CH_l1 (Dw := False) (k := 2) rfl ?_
    have h491 : (v465).oneCell' = true := by obtain ⟨_, _, e, _⟩ := Sl.form h466; rw [e]; rfl
    have h494 : (v467).oneCell' = true := by obtain ⟨_, _, e, _⟩ := Sl.form h468; rw [e]; rfl
    refine V_storeC (Dw := False) (off := 0) (ds := [v465, v467]) hH (i := 0) rfl Tryz.sizeOf35 rfl (Nat.le_of_ble_eq_true rfl) (by exact (List.forall_mem_cons.2 ⟨h491, (List.forall_mem_cons.2 ⟨h494, (fun _ h => nomatch h)⟩)⟩)) rfl hB hA rfl rfl ?_
    intro w486 hH487 ht488
    replace h466 := Sl.tr (Dw := False) h466 ht488
    replace h468 := Sl.tr (Dw := False) h468 ht488
    replace h480 := Sl.tr (Dw := False) h480 ht488
    replace h482 := Sl.tr (Dw := False) h482 ht488
    replace hK := Tr.trans (Dw := False) hK ht488
    replace hB := Nat.le_trans hB ht488.ex.size
    replace hA := ht488.new
    replace hH : Hp w.heap.size A474 w486 (obC b472 [v465, v467] 35 :: obC b366 [.slice none 0 0, .slice none 0 0] 35 :: obC b14 [.string ByteArray.empty, .string ByteArray.empty] 23 :: []) := hH487
    obtain ⟨A495, ht496, h497, hH498⟩ := Hp.freezeC (Dw := False) (α := staff_ratio) (x := x464) hH (i := 0) rfl hA (by exact ⟨[v465], _, rfl, ⟨_, rfl, h466⟩, ⟨_, rfl, h468⟩⟩)
    replace h480 := Sl.tr (Dw := False) h480 ht496
    replace h482 := Sl.tr (Dw := False) h482 ht496
    replace hK := Tr.trans (Dw := False) hK ht496
    replace hB := Nat.le_trans hB ht496.ex.size
    replace hA := ht496.new
    replace hH : Hp w.heap.size A495 w486 (obC b366 [.slice none 0 0, .slice none 0 0] 35 :: obC b14 [.string ByteArray.empty, .string ByteArray.empty] 23 :: []) := hH498
    refine V_CHw (Dw := False) ?_
    refine CH_l1 (Dw := False) (k := 2) rfl ?_
    have h504 : (v479).oneCell' = true := by obtain ⟨_, _, e, _⟩ := Sl.form h480; rw [e]; rfl
    have h507 : (v481).oneCell' = true := by obtain ⟨_, _, e, _⟩ := Sl.form h482; rw [e]; rfl
    refine V_storeC (Dw := False) (off := 0) (ds := [v479, v481]) hH (i := 0) rfl Tryz.sizeOf35 rfl (Nat.le_of_ble_eq_true rfl) (by exact (List.forall_mem_cons.2 ⟨h504, (List.forall_mem_cons.2 ⟨h507, (fun _ h => nomatch h)⟩)⟩)) rfl hB hA rfl rfl ?_
    intro w499 hH500 ht501
    replace h497 := El.tr (Dw := False) h497 ht501
    replace h480 := Sl.tr (Dw := False) h480 ht501
    replace h482 := Sl.tr (Dw := False) h482 ht501
    replace hK := Tr.trans (Dw := False) hK ht501
    replace hB := Nat.le_trans hB ht501.ex.size
    replace hA := ht501.new
    replace hH : Hp w.heap.size A495 w499 (obC b366 [v479, v481] 35 :: obC b14 [.string ByteArray.empty, .string ByteArray.empty] 23 :: []) := hH500
    obtain ⟨A508, ht509, h510, hH511⟩ := Hp.freezeC (Dw := False) (α := staff_ratio) (x := x478) hH (i := 0) rfl hA (by exact ⟨[v479], _, rfl, ⟨_, rfl, h480⟩, ⟨_, rfl, h482⟩⟩)
    replace h497 := El.tr (Dw := False) h497 ht509
    replace hK := Tr.trans (Dw := False) hK ht509
    replace hB := Nat.le_trans hB ht509.ex.size
    replace hA := ht509.new
    replace hH : Hp w.heap.size A508 w499 (obC b14 [.string ByteArray.empty, .string ByteArray.empty] 23 :: []) := hH511
    refine V_CHw (Dw := False) ?_
    refine CH_tail (Dw := False) ?_
    show V _ _ _ _ [] _ _
    refine V_to (fun _ _ => rfl) ?_
    refine C_seq ?_
    refine C_region_ch (Dw := False) A508 16 [(1, 0), (1, 1), (1, 2), (1, 3), (1, 5), (1, 6), (1, 7), (1, 8), (2, 4), (2, 9), (1, 10), (2, 11), (1, 12), (1, 13), (4, 14), (1, 15)] Tryz_mixed (by kernel_rfl) (fun w512 hk513 => ?_)
    have ht514 := Kp.tr (Dw := False) hk513 hA hB
    replace hH := Hp.kp (Dw := False) hH hk513
    replace h510 := El.tr (Dw := False) h510 ht514
    replace h497 := El.tr (Dw := False) h497 ht514
    replace hK := Tr.trans (Dw := False) hK ht514
    replace hB := Nat.le_trans hB ht514.ex.size
    replace hA := ht514.new
    refine CH_q2 (Dw := False) rfl ?_
    have h515 := El_staff_ratio_0 h497
    refine VQ_y (fun w' hw' => Y_fieldAddr Tryz.underlying35 rfl Tryz.sizeOf33 (by decide) rfl) rfl rfl rfl ?_
    refine VQ_CH (Dw := False) ?_
    refine CH_q2 (Dw := False) rfl ?_
    obtain ⟨v516, h517, h518⟩ := El.list h515
    refine VQ_y (fun w' hw' => Y_load ((World.cell?_of_block (hw'.2 _ h515.2.1 h515.1)).trans h517) Tryz.isAgg33 rfl) rfl rfl rfl ?_
    refine VQ_CH (Dw := False) ?_
    refine CH_q2 (Dw := False) rfl ?_
    have h519 := El_staff_ratio_0 h510
    refine VQ_y (fun w' hw' => Y_fieldAddr Tryz.underlying35 rfl Tryz.sizeOf33 (by decide) rfl) rfl rfl rfl ?_
    refine VQ_CH (Dw := False) ?_
    refine CH_q2 (Dw := False) rfl ?_
    obtain ⟨v520, h521, h522⟩ := El.list h519
    refine VQ_y (fun w' hw' => Y_load ((World.cell?_of_block (hw'.2 _ h519.2.1 h519.1)).trans h521) Tryz.isAgg33 rfl) rfl rfl rfl ?_
    refine VQ_CH (Dw := False) ?_
    refine CH_q2 (Dw := False) rfl ?_
    have h523 := El_staff_ratio_1 h497
    refine VQ_y (fun w' hw' => Y_fieldAddr Tryz.underlying35 rfl Tryz.sizeOf33 (by decide) rfl) rfl rfl rfl ?_
    refine VQ_CH (Dw := False) ?_
    refine CH_q2 (Dw := False) rfl ?_
    obtain ⟨v524, h525, h526⟩ := El.list h523
    refine VQ_y (fun w' hw' => Y_load ((World.cell?_of_block (hw'.2 _ h523.2.1 h523.1)).trans h525) Tryz.isAgg33 rfl) rfl rfl rfl ?_
    refine VQ_CH (Dw := False) ?_
    refine CH_q2 (Dw := False) rfl ?_
    have h527 := El_staff_ratio_1 h510
    refine VQ_y (fun w' hw' => Y_fieldAddr Tryz.underlying35 rfl Tryz.sizeOf33 (by decide) rfl) rfl rfl rfl ?_
    refine VQ_CH (Dw := False) ?_
    refine CH_q2 (Dw := False) rfl ?_
    obtain ⟨v528, h529, h530⟩ := El.list h527
    refine VQ_y (fun w' hw' => Y_load ((World.cell?_of_block (hw'.2 _ h527.2.1 h527.1)).trans h529) Tryz.isAgg33 rfl) rfl rfl rfl ?_
    refine VQ_CH (Dw := False) ?_
    refine CH_l1 (Dw := False) (k := 0) rfl ?_
    obtain ⟨x531, hx531, hm⟩ := Option.bind_eq_some_iff.1 hm
    refine V_call Tryz.call18 rfl rfl rfl rfl (staff_nat_times_c (Dw := False) w512 hA x464.num v516 h518 x478.num v520 h522 hx531) ?_
    rintro v532 w534 ⟨_, rfl, h533, hk535⟩
    have ht536 := Kp.tr (Dw := False) hk535 hA hB
    replace hH := Hp.kp (Dw := False) hH hk535
    replace h526 := Sl.tr (Dw := False) h526 ht536
    replace h530 := Sl.tr (Dw := False) h530 ht536
    replace hK := Tr.trans (Dw := False) hK ht536
    replace hB := Nat.le_trans hB ht536.ex.size
    replace hA := ht536.new
    refine V_CH (Dw := False) (hk535) ?_
    refine CH_l1 (Dw := False) (k := 0) rfl ?_
    obtain ⟨x537, hx537, hm⟩ := Option.bind_eq_some_iff.1 hm
    refine V_call Tryz.call18 rfl rfl rfl rfl (staff_nat_times_c (Dw := False) w534 hA x464.den v524 h526 x478.den v528 h530 hx537) ?_
    rintro v538 w540 ⟨_, rfl, h539, hk541⟩
    have ht542 := Kp.tr (Dw := False) hk541 hA hB
    replace hH := Hp.kp (Dw := False) hH hk541
    replace h533 := Sl.tr (Dw := False) h533 ht542
    replace hK := Tr.trans (Dw := False) hK ht542
    replace hB := Nat.le_trans hB ht542.ex.size
    replace hA := ht542.new
    refine V_CH (Dw := False) (hk541) ?_
    refine CH_q2 (Dw := False) rfl ?_
    refine VQ_y (fun w' hw' => Y_build (cells := #[v532, v538]) Tryz.underlying35 Tryz.zeroValue35 (Tryz_places35 _ Tryz.underlying35) rfl (by obtain ⟨a543, c544, e545, _⟩ := Sl.form h533; subst e545; obtain ⟨a546, c547, e548, _⟩ := Sl.form h539; subst e548; with_unfolding_all rfl)) rfl rfl rfl ?_
    refine VQ_CH (Dw := False) ?_
    refine CH_l1 (Dw := False) (k := 0) rfl ?_
    obtain ⟨x549, hx549, hm⟩ := Option.bind_eq_some_iff.1 hm
    refine V_call Tryz.call20 rfl rfl rfl rfl (staff_limited_c w540 hA (Fz.tr (Dw := False) hT hK) (⟨x531, x537⟩ : staff_ratio) v532 h533 v538 h539 hx549) ?_
    rintro _ w550 ⟨rfl, hk551⟩
    have ht552 := Kp.tr (Dw := False) hk551 hA hB
    replace hH := Hp.kp (Dw := False) hH hk551
    replace hK := Tr.trans (Dw := False) hK ht552
    replace hB := Nat.le_trans hB ht552.ex.size
    replace hA := ht552.new
    refine V_CH (Dw := False) (hk551) ?_
    refine CH_q2 (Dw := False) rfl ?_
    refine VQ_y (fun w' hw' => Y_extract rfl rfl) rfl rfl rfl ?_
    refine VQ_CH (Dw := False) ?_
    refine CH_q2 (Dw := False) rfl ?_
    refine VQ_y (fun w' hw' => Y_extract rfl rfl) rfl rfl rfl ?_
    refine VQ_CH (Dw := False) ?_
    refine CH_l1 (Dw := False) (k := 2) rfl ?_
    refine V_storeC (Dw := False) (off := 0) (ds := [.string x549.1.num, .string x549.1.den]) hH (i := 0) rfl Tryz.sizeOf23 rfl (Nat.le_of_ble_eq_true rfl) (by simp [Value.cells, Value.oneCell']) rfl hB hA rfl rfl ?_
    intro w553 hH554 ht555
    replace hK := Tr.trans (Dw := False) hK ht555
    replace hH : Hp w.heap.size A508 w553 (obC b14 [.string x549.1.num, .string x549.1.den] 23 :: []) := hH554
    refine V_CHw (Dw := False) ?_
    refine CH_q2 (Dw := False) rfl ?_
    refine VQ_y (fun w' hw' => Y_assign rfl) rfl rfl rfl ?_
    refine VQ_CH (Dw := False) ?_
    refine CH_tail (Dw := False) ?_
    show V _ _ _ _ [] _ _
    refine V_to (fun _ _ => rfl) ?_
    obtain rfl := Option.some.inj hm
    refine C_ret ?_
    try simp only [↓inBlock_ret, ↓then_ret]
    exact retQ rfl (Res.l2 Tryz.results8 (RL.cell rfl (loadVar_agg (Hp.part (off := 0) (n := 2) (ds := [.string x549.1.num, .string x549.1.den]) hH (i := 0) rfl rfl) Tryz.isAgg23 Tryz.sizeOf23)) (RL.tmp rfl)) ⟨rfl, hK.kp⟩
   obtain ⟨x556, hx556, hm⟩ := Option.bind_eq_some_iff.1 hm
   refine V_call Tryz.call24 rfl rfl rfl rfl (staff_lowest_c (Dw := False) w469 hA x21.2.1.num v85 h87 x21.1.den v89 h91 hx556) ?_
   rintro _ w561 ⟨v557, v559, rfl, h558, h560, hk562⟩
   have ht563 := Kp.tr (Dw := False) hk562 hA hB
   replace hH := Hp.kp (Dw := False) hH hk562
   replace h466 := Sl.tr (Dw := False) h466 ht563
   replace h468 := Sl.tr (Dw := False) h468 ht563
   replace hK := Tr.trans (Dw := False) hK ht563
   replace hB := Nat.le_trans hB ht563.ex.size
   replace hA := ht563.new
   refine V_CHZ (Dw := False) (hk562) ?_
   refine CHZ_nil (Dw := False) ?_
   refine CH_l1 (Dw := False) (k := 0) rfl ?_
   refine V_allocHk (Dw := False) (B := w.heap.size) hH Tryz.zeroValue35 hB hA rfl ?_
   intro b564 w565 A566 hk569 hH567 ht568
   replace h466 := Sl.tr (Dw := False) h466 ht568
   replace h468 := Sl.tr (Dw := False) h468 ht568
   replace h558 := Sl.tr (Dw := False) h558 ht568
   replace h560 := Sl.tr (Dw := False) h560 ht568
   replace hK := Tr.trans (Dw := False) hK ht568
   replace hB := Nat.le_trans hB ht568.ex.size
   replace hA := ht568.new
   replace hH : Hp w.heap.size A566 w565 (obC b564 [.slice none 0 0, .slice none 0 0] 35 :: obC b366 [.slice none 0 0, .slice none 0 0] 35 :: obC b14 [.string ByteArray.empty, .string ByteArray.empty] 23 :: []) := hH567
   refine V_CH (Dw := False) (hk569) ?_
   refine CH_l1 (Dw := False) (k := 2) rfl ?_
   have h575 : (v465).oneCell' = true := by obtain ⟨_, _, e, _⟩ := Sl.form h466; rw [e]; rfl
   have h578 : (v467).oneCell' = true := by obtain ⟨_, _, e, _⟩ := Sl.form h468; rw [e]; rfl
   refine V_storeC (Dw := False) (off := 0) (ds := [v465, v467]) hH (i := 0) rfl Tryz.sizeOf35 rfl (Nat.le_of_ble_eq_true rfl) (by exact (List.forall_mem_cons.2 ⟨h575, (List.forall_mem_cons.2 ⟨h578, (fun _ h => nomatch h)⟩)⟩)) rfl hB hA rfl rfl ?_
   intro w570 hH571 ht572
   replace h466 := Sl.tr (Dw := False) h466 ht572
   replace h468 := Sl.tr (Dw := False) h468 ht572
   replace h558 := Sl.tr (Dw := False) h558 ht572
   replace h560 := Sl.tr (Dw := False) h560 ht572
   replace hK := Tr.trans (Dw := False) hK ht572
   replace hB := Nat.le_trans hB ht572.ex.size
   replace hA := ht572.new
   replace hH : Hp w.heap.size A566 w570 (obC b564 [v465, v467] 35 :: obC b366 [.slice none 0 0, .slice none 0 0] 35 :: obC b14 [.string ByteArray.empty, .string ByteArray.empty] 23 :: []) := hH571
   obtain ⟨A579, ht580, h581, hH582⟩ := Hp.freezeC (Dw := False) (α := staff_ratio) (x := x464) hH (i := 0) rfl hA (by exact ⟨[v465], _, rfl, ⟨_, rfl, h466⟩, ⟨_, rfl, h468⟩⟩)
   replace h558 := Sl.tr (Dw := False) h558 ht580
   replace h560 := Sl.tr (Dw := False) h560 ht580
   replace hK := Tr.trans (Dw := False) hK ht580
   replace hB := Nat.le_trans hB ht580.ex.size
   replace hA := ht580.new
   replace hH : Hp w.heap.size A579 w570 (obC b366 [.slice none 0 0, .slice none 0 0] 35 :: obC b14 [.string ByteArray.empty, .string ByteArray.empty] 23 :: []) := hH582
   refine V_CHw (Dw := False) ?_
   refine CH_l1 (Dw := False) (k := 2) rfl ?_
   have h588 : (v557).oneCell' = true := by obtain ⟨_, _, e, _⟩ := Sl.form h558; rw [e]; rfl
   have h591 : (v559).oneCell' = true := by obtain ⟨_, _, e, _⟩ := Sl.form h560; rw [e]; rfl
   refine V_storeC (Dw := False) (off := 0) (ds := [v557, v559]) hH (i := 0) rfl Tryz.sizeOf35 rfl (Nat.le_of_ble_eq_true rfl) (by exact (List.forall_mem_cons.2 ⟨h588, (List.forall_mem_cons.2 ⟨h591, (fun _ h => nomatch h)⟩)⟩)) rfl hB hA rfl rfl ?_
   intro w583 hH584 ht585
   replace h558 := Sl.tr (Dw := False) h558 ht585
   replace h560 := Sl.tr (Dw := False) h560 ht585
   replace h581 := El.tr (Dw := False) h581 ht585
   replace hK := Tr.trans (Dw := False) hK ht585
   replace hB := Nat.le_trans hB ht585.ex.size
   replace hA := ht585.new
   replace hH : Hp w.heap.size A579 w583 (obC b366 [v557, v559] 35 :: obC b14 [.string ByteArray.empty, .string ByteArray.empty] 23 :: []) := hH584
   obtain ⟨A592, ht593, h594, hH595⟩ := Hp.freezeC (Dw := False) (α := staff_ratio) (x := x556) hH (i := 0) rfl hA (by exact ⟨[v557], _, rfl, ⟨_, rfl, h558⟩, ⟨_, rfl, h560⟩⟩)
   replace h581 := El.tr (Dw := False) h581 ht593
   replace hK := Tr.trans (Dw := False) hK ht593
   replace hB := Nat.le_trans hB ht593.ex.size
   replace hA := ht593.new
   replace hH : Hp w.heap.size A592 w583 (obC b14 [.string ByteArray.empty, .string ByteArray.empty] 23 :: []) := hH595
   refine V_CHw (Dw := False) ?_
   refine CH_tail (Dw := False) ?_
   show V _ _ _ _ [] _ _
   refine V_to (fun _ _ => rfl) ?_
   refine C_seq ?_
   refine C_region_ch (Dw := False) A592 16 [(1, 0), (1, 1), (1, 2), (1, 3), (1, 5), (1, 6), (1, 7), (1, 8), (2, 4), (2, 9), (1, 10), (2, 11), (1, 12), (1, 13), (4, 14), (1, 15)] Tryz_mixed (by kernel_rfl) (fun w596 hk597 => ?_)
   have ht598 := Kp.tr (Dw := False) hk597 hA hB
   replace hH := Hp.kp (Dw := False) hH hk597
   replace h594 := El.tr (Dw := False) h594 ht598
   replace h581 := El.tr (Dw := False) h581 ht598
   replace hK := Tr.trans (Dw := False) hK ht598
   replace hB := Nat.le_trans hB ht598.ex.size
   replace hA := ht598.new
   refine CH_q2 (Dw := False) rfl ?_
   have h599 := El_staff_ratio_0 h581
   refine VQ_y (fun w' hw' => Y_fieldAddr Tryz.underlying35 rfl Tryz.sizeOf33 (by decide) rfl) rfl rfl rfl ?_
   refine VQ_CH (Dw := False) ?_
   refine CH_q2 (Dw := False) rfl ?_
   obtain ⟨v600, h601, h602⟩ := El.list h599
   refine VQ_y (fun w' hw' => Y_load ((World.cell?_of_block (hw'.2 _ h599.2.1 h599.1)).trans h601) Tryz.isAgg33 rfl) rfl rfl rfl ?_
   refine VQ_CH (Dw := False) ?_
   refine CH_q2 (Dw := False) rfl ?_
   have h603 := El_staff_ratio_0 h594
   refine VQ_y (fun w' hw' => Y_fieldAddr Tryz.underlying35 rfl Tryz.sizeOf33 (by decide) rfl) rfl rfl rfl ?_
   refine VQ_CH (Dw := False) ?_
   refine CH_q2 (Dw := False) rfl ?_
   obtain ⟨v604, h605, h606⟩ := El.list h603
   refine VQ_y (fun w' hw' => Y_load ((World.cell?_of_block (hw'.2 _ h603.2.1 h603.1)).trans h605) Tryz.isAgg33 rfl) rfl rfl rfl ?_
   refine VQ_CH (Dw := False) ?_
   refine CH_q2 (Dw := False) rfl ?_
   have h607 := El_staff_ratio_1 h581
   refine VQ_y (fun w' hw' => Y_fieldAddr Tryz.underlying35 rfl Tryz.sizeOf33 (by decide) rfl) rfl rfl rfl ?_
   refine VQ_CH (Dw := False) ?_
   refine CH_q2 (Dw := False) rfl ?_
   obtain ⟨v608, h609, h610⟩ := El.list h607
   refine VQ_y (fun w' hw' => Y_load ((World.cell?_of_block (hw'.2 _ h607.2.1 h607.1)).trans h609) Tryz.isAgg33 rfl) rfl rfl rfl ?_
   refine VQ_CH (Dw := False) ?_
   refine CH_q2 (Dw := False) rfl ?_
   have h611 := El_staff_ratio_1 h594
   refine VQ_y (fun w' hw' => Y_fieldAddr Tryz.underlying35 rfl Tryz.sizeOf33 (by decide) rfl) rfl rfl rfl ?_
   refine VQ_CH (Dw := False) ?_
   refine CH_q2 (Dw := False) rfl ?_
   obtain ⟨v612, h613, h614⟩ := El.list h611
   refine VQ_y (fun w' hw' => Y_load ((World.cell?_of_block (hw'.2 _ h611.2.1 h611.1)).trans h613) Tryz.isAgg33 rfl) rfl rfl rfl ?_
   refine VQ_CH (Dw := False) ?_
   refine CH_l1 (Dw := False) (k := 0) rfl ?_
   obtain ⟨x615, hx615, hm⟩ := Option.bind_eq_some_iff.1 hm
   refine V_call Tryz.call18 rfl rfl rfl rfl (staff_nat_times_c (Dw := False) w596 hA x464.num v600 h602 x556.num v604 h606 hx615) ?_
   rintro v616 w618 ⟨_, rfl, h617, hk619⟩
   have ht620 := Kp.tr (Dw := False) hk619 hA hB
   replace hH := Hp.kp (Dw := False) hH hk619
   replace h610 := Sl.tr (Dw := False) h610 ht620
   replace h614 := Sl.tr (Dw := False) h614 ht620
   replace hK := Tr.trans (Dw := False) hK ht620
   replace hB := Nat.le_trans hB ht620.ex.size
   replace hA := ht620.new
   refine V_CH (Dw := False) (hk619) ?_
   refine CH_l1 (Dw := False) (k := 0) rfl ?_
   obtain ⟨x621, hx621, hm⟩ := Option.bind_eq_some_iff.1 hm
   refine V_call Tryz.call18 rfl rfl rfl rfl (staff_nat_times_c (Dw := False) w618 hA x464.den v608 h610 x556.den v612 h614 hx621) ?_
   rintro v622 w624 ⟨_, rfl, h623, hk625⟩
   have ht626 := Kp.tr (Dw := False) hk625 hA hB
   replace hH := Hp.kp (Dw := False) hH hk625
   replace h617 := Sl.tr (Dw := False) h617 ht626
   replace hK := Tr.trans (Dw := False) hK ht626
   replace hB := Nat.le_trans hB ht626.ex.size
   replace hA := ht626.new
   refine V_CH (Dw := False) (hk625) ?_
   refine CH_q2 (Dw := False) rfl ?_
   refine VQ_y (fun w' hw' => Y_build (cells := #[v616, v622]) Tryz.underlying35 Tryz.zeroValue35 (Tryz_places35 _ Tryz.underlying35) rfl (by obtain ⟨a627, c628, e629, _⟩ := Sl.form h617; subst e629; obtain ⟨a630, c631, e632, _⟩ := Sl.form h623; subst e632; with_unfolding_all rfl)) rfl rfl rfl ?_
   refine VQ_CH (Dw := False) ?_
   refine CH_l1 (Dw := False) (k := 0) rfl ?_
   obtain ⟨x633, hx633, hm⟩ := Option.bind_eq_some_iff.1 hm
   refine V_call Tryz.call20 rfl rfl rfl rfl (staff_limited_c w624 hA (Fz.tr (Dw := False) hT hK) (⟨x615, x621⟩ : staff_ratio) v616 h617 v622 h623 hx633) ?_
   rintro _ w634 ⟨rfl, hk635⟩
   have ht636 := Kp.tr (Dw := False) hk635 hA hB
   replace hH := Hp.kp (Dw := False) hH hk635
   replace hK := Tr.trans (Dw := False) hK ht636
   replace hB := Nat.le_trans hB ht636.ex.size
   replace hA := ht636.new
   refine V_CH (Dw := False) (hk635) ?_
   refine CH_q2 (Dw := False) rfl ?_
   refine VQ_y (fun w' hw' => Y_extract rfl rfl) rfl rfl rfl ?_
   refine VQ_CH (Dw := False) ?_
   refine CH_q2 (Dw := False) rfl ?_
   refine VQ_y (fun w' hw' => Y_extract rfl rfl) rfl rfl rfl ?_
   refine VQ_CH (Dw := False) ?_
   refine CH_l1 (Dw := False) (k := 2) rfl ?_
   refine V_storeC (Dw := False) (off := 0) (ds := [.string x633.1.num, .string x633.1.den]) hH (i := 0) rfl Tryz.sizeOf23 rfl (Nat.le_of_ble_eq_true rfl) (by simp [Value.cells, Value.oneCell']) rfl hB hA rfl rfl ?_
   intro w637 hH638 ht639
   replace hK := Tr.trans (Dw := False) hK ht639
   replace hH : Hp w.heap.size A592 w637 (obC b14 [.string x633.1.num, .string x633.1.den] 23 :: []) := hH638
   refine V_CHw (Dw := False) ?_
   refine CH_q2 (Dw := False) rfl ?_
   refine VQ_y (fun w' hw' => Y_assign rfl) rfl rfl rfl ?_
   refine VQ_CH (Dw := False) ?_
   refine CH_tail (Dw := False) ?_
   show V _ _ _ _ [] _ _
   refine V_to (fun _ _ => rfl) ?_
   obtain rfl := Option.some.inj hm
   refine C_ret ?_
   try simp only [↓inBlock_ret, ↓then_ret]
   exact retQ rfl (Res.l2 Tryz.results8 (RL.cell rfl (loadVar_agg (Hp.part (off := 0) (n := 2) (ds := [.string x633.1.num, .string x633.1.den]) hH (i := 0) rfl rfl) Tryz.isAgg23 Tryz.sizeOf23)) (RL.tmp rfl)) ⟨rfl, hK.kp⟩
  obtain ⟨x640, hx640, hm⟩ := Option.bind_eq_some_iff.1 hm
  refine V_call Tryz.call24 rfl rfl rfl rfl (staff_lowest_c (Dw := False) w73 hA x21.1.num v77 h79 x21.2.1.den v81 h83 hx640) ?_
  rintro _ w645 ⟨v641, v643, rfl, h642, h644, hk646⟩
  have ht647 := Kp.tr (Dw := False) hk646 hA hB
  replace hH := Hp.kp (Dw := False) hH hk646
  replace h87 := Sl.tr (Dw := False) h87 ht647
  replace h91 := Sl.tr (Dw := False) h91 ht647
  replace hK := Tr.trans (Dw := False) hK ht647
  replace hB := Nat.le_trans hB ht647.ex.size
  replace hA := ht647.new
  refine V_CHZ2 (Dw := False) (hk646) ?_
  refine CHZ2_l1 (Dw := False) (k := 0) rfl rfl rfl ?_ ?_ ?_
  ·refine V_allocHk (Dw := False) (B := w.heap.size) hH Tryz.zeroValue35 hB hA rfl ?_
   intro b648 w649 A650 hk653 hH651 ht652
   replace h87 := Sl.tr (Dw := False) h87 ht652
   replace h91 := Sl.tr (Dw := False) h91 ht652
   replace h642 := Sl.tr (Dw := False) h642 ht652
   replace h644 := Sl.tr (Dw := False) h644 ht652
   replace hK := Tr.trans (Dw := False) hK ht652
   replace hB := Nat.le_trans hB ht652.ex.size
   replace hA := ht652.new
   replace hH : Hp w.heap.size A650 w649 (obC b648 [.slice none 0 0, .slice none 0 0] 35 :: obC b14 [.string ByteArray.empty, .string ByteArray.empty] 23 :: []) := hH651
   refine V_CHZ (Dw := False) (hk653) ?_
   refine CHZ_l1 (Dw := False) (k := 0) [(2, 11), (2, 9), (4, 12), (4, 13)] rfl ?_ rfl ?_
   ·refine CH_l1 (Dw := False) (k := 0) rfl ?_
    refine V_allocHk (Dw := False) (B := w.heap.size) hH Tryz.zeroValue35 hB hA rfl ?_
    intro b654 w655 A656 hk659 hH657 ht658
    replace h87 := Sl.tr (Dw := False) h87 ht658
    replace h91 := Sl.tr (Dw := False) h91 ht658
    replace h642 := Sl.tr (Dw := False) h642 ht658
    replace h644 := Sl.tr (Dw := False) h644 ht658
    replace hK := Tr.trans (Dw := False) hK ht658
    replace hB := Nat.le_trans hB ht658.ex.size
    replace hA := ht658.new
    replace hH : Hp w.heap.size A656 w655 (obC b654 [.slice none 0 0, .slice none 0 0] 35 :: obC b648 [.slice none 0 0, .slice none 0 0] 35 :: obC b14 [.string ByteArray.empty, .string ByteArray.empty] 23 :: []) := hH657
    refine V_CH (Dw := False) (hk659) ?_
    refine CH_l1 (Dw := False) (k := 0) rfl ?_
    obtain ⟨x660, hx660, hm⟩ := Option.bind_eq_some_iff.1 hm
    refine V_call Tryz.call24 rfl rfl rfl rfl (staff_lowest_c (Dw := False) w655 hA x21.2.1.num v85 h87 x21.1.den v89 h91 hx660) ?_
    rintro _ w665 ⟨v661, v663, rfl, h662, h664, hk666⟩
    have ht667 := Kp.tr (Dw := False) hk666 hA hB
    replace hH := Hp.kp (Dw := False) hH hk666
    replace h642 := Sl.tr (Dw := False) h642 ht667
    replace h644 := Sl.tr (Dw := False) h644 ht667
    replace hK := Tr.trans (Dw := False) hK ht667
    replace hB := Nat.le_trans hB ht667.ex.size
    replace hA := ht667.new
    refine V_CH (Dw := False) (hk666) ?_
    refine CH_l1 (Dw := False) (k := 2) rfl ?_
    have h673 : (v641).oneCell' = true := by obtain ⟨_, _, e, _⟩ := Sl.form h642; rw [e]; rfl
    have h676 : (v643).oneCell' = true := by obtain ⟨_, _, e, _⟩ := Sl.form h644; rw [e]; rfl
    refine V_storeC (Dw := False) (off := 0) (ds := [v641, v643]) hH (i := 1) rfl Tryz.sizeOf35 rfl (Nat.le_of_ble_eq_true rfl) (by exact (List.forall_mem_cons.2 ⟨h673, (List.forall_mem_cons.2 ⟨h676, (fun _ h => nomatch h)⟩)⟩)) rfl hB hA rfl rfl ?_
    intro w668 hH669 ht670
    replace h642 := Sl.tr (Dw := False) h642 ht670
    replace h644 := Sl.tr (Dw := False) h644 ht670
    replace h662 := Sl.tr (Dw := False) h662 ht670
    replace h664 := Sl.tr (Dw := False) h664 ht670
    replace hK := Tr.trans (Dw := False) hK ht670
    replace hB := Nat.le_trans hB ht670.ex.size
    replace hA := ht670.new
    replace hH : Hp w.heap.size A656 w668 (obC b654 [.slice none 0 0, .slice none 0 0] 35 :: obC b648 [v641, v643] 35 :: obC b14 [.string ByteArray.empty, .string ByteArray.empty] 23 :: []) := hH669
    obtain ⟨A677, ht678, h679, hH680⟩ := Hp.freezeC (Dw := False) (α := staff_ratio) (x := x640) hH (i := 1) rfl hA (by exact ⟨[v641], _, rfl, ⟨_, rfl, h642⟩, ⟨_, rfl, h644⟩⟩)
    replace h662 := Sl.tr (Dw := False) h662 ht678
    replace h664 := Sl.tr (Dw := False) h664 ht678
    replace hK := Tr.trans (Dw := False) hK ht678
    replace hB := Nat.le_trans hB ht678.ex.size
    replace hA := ht678.new
    replace hH : Hp w.heap.size A677 w668 (obC b654 [.slice none 0 0, .slice none 0 0] 35 :: obC b14 [.string ByteArray.empty, .string ByteArray.empty] 23 :: []) := hH680
    refine V_CHw (Dw := False) ?_
    refine CH_l1 (Dw := False) (k := 2) rfl ?_
    have h686 : (v661).oneCell' = true := by obtain ⟨_, _, e, _⟩ := Sl.form h662; rw [e]; rfl
    have h689 : (v663).oneCell' = true := by obtain ⟨_, _, e, _⟩ := Sl.form h664; rw [e]; rfl
    refine V_storeC (Dw := False) (off := 0) (ds := [v661, v663]) hH (i := 0) rfl Tryz.sizeOf35 rfl (Nat.le_of_ble_eq_true rfl) (by exact (List.forall_mem_cons.2 ⟨h686, (List.forall_mem_cons.2 ⟨h689, (fun _ h => nomatch h)⟩)⟩)) rfl hB hA rfl rfl ?_
    intro w681 hH682 ht683
    replace h679 := El.tr (Dw := False) h679 ht683
    replace h662 := Sl.tr (Dw := False) h662 ht683
    replace h664 := Sl.tr (Dw := False) h664 ht683
    replace hK := Tr.trans (Dw := False) hK ht683
    replace hB := Nat.le_trans hB ht683.ex.size
    replace hA := ht683.new
    replace hH : Hp w.heap.size A677 w681 (obC b654 [v661, v663] 35 :: obC b14 [.string ByteArray.empty, .string ByteArray.empty] 23 :: []) := hH682
    obtain ⟨A690, ht691, h692, hH693⟩ := Hp.freezeC (Dw := False) (α := staff_ratio) (x := x660) hH (i := 0) rfl hA (by exact ⟨[v661], _, rfl, ⟨_, rfl, h662⟩, ⟨_, rfl, h664⟩⟩)
    replace h679 := El.tr (Dw := False) h679 ht691
    replace hK := Tr.trans (Dw := False) hK ht691
    replace hB := Nat.le_trans hB ht691.ex.size
    replace hA := ht691.new
    replace hH : Hp w.heap.size A690 w681 (obC b14 [.string ByteArray.empty, .string ByteArray.empty] 23 :: []) := hH693
    refine V_CHw (Dw := False) ?_
    refine CH_tail (Dw := False) ?_
    show V _ _ _ _ [] _ _
    refine V_to (fun _ _ => rfl) ?_
    refine C_seq ?_
    refine C_region_ch (Dw := False) A690 16 [(1, 0), (1, 1), (1, 2), (1, 3), (1, 5), (1, 6), (1, 7), (1, 8), (2, 4), (2, 9), (1, 10), (2, 11), (1, 12), (1, 13), (4, 14), (1, 15)] Tryz_mixed (by kernel_rfl) (fun w694 hk695 => ?_)
    have ht696 := Kp.tr (Dw := False) hk695 hA hB
    replace hH := Hp.kp (Dw := False) hH hk695
    replace h679 := El.tr (Dw := False) h679 ht696
    replace h692 := El.tr (Dw := False) h692 ht696
    replace hK := Tr.trans (Dw := False) hK ht696
    replace hB := Nat.le_trans hB ht696.ex.size
    replace hA := ht696.new
    refine CH_q2 (Dw := False) rfl ?_
    have h697 := El_staff_ratio_0 h679
    refine VQ_y (fun w' hw' => Y_fieldAddr Tryz.underlying35 rfl Tryz.sizeOf33 (by decide) rfl) rfl rfl rfl ?_
    refine VQ_CH (Dw := False) ?_
    refine CH_q2 (Dw := False) rfl ?_
    obtain ⟨v698, h699, h700⟩ := El.list h697
    refine VQ_y (fun w' hw' => Y_load ((World.cell?_of_block (hw'.2 _ h697.2.1 h697.1)).trans h699) Tryz.isAgg33 rfl) rfl rfl rfl ?_
    refine VQ_CH (Dw := False) ?_
    refine CH_q2 (Dw := False) rfl ?_
    have h701 := El_staff_ratio_0 h692
    refine VQ_y (fun w' hw' => Y_fieldAddr Tryz.underlying35 rfl Tryz.sizeOf33 (by decide) rfl) rfl rfl rfl ?_
    refine VQ_CH (Dw := False) ?_
    refine CH_q2 (Dw := False) rfl ?_
    obtain ⟨v702, h703, h704⟩ := El.list h701
    refine VQ_y (fun w' hw' => Y_load ((World.cell?_of_block (hw'.2 _ h701.2.1 h701.1)).trans h703) Tryz.isAgg33 rfl) rfl rfl rfl ?_
    refine VQ_CH (Dw := False) ?_
    refine CH_q2 (Dw := False) rfl ?_
    have h705 := El_staff_ratio_1 h679
    refine VQ_y (fun w' hw' => Y_fieldAddr Tryz.underlying35 rfl Tryz.sizeOf33 (by decide) rfl) rfl rfl rfl ?_
    refine VQ_CH (Dw := False) ?_
    refine CH_q2 (Dw := False) rfl ?_
    obtain ⟨v706, h707, h708⟩ := El.list h705
    refine VQ_y (fun w' hw' => Y_load ((World.cell?_of_block (hw'.2 _ h705.2.1 h705.1)).trans h707) Tryz.isAgg33 rfl) rfl rfl rfl ?_
    refine VQ_CH (Dw := False) ?_
    refine CH_q2 (Dw := False) rfl ?_
    have h709 := El_staff_ratio_1 h692
    refine VQ_y (fun w' hw' => Y_fieldAddr Tryz.underlying35 rfl Tryz.sizeOf33 (by decide) rfl) rfl rfl rfl ?_
    refine VQ_CH (Dw := False) ?_
    refine CH_q2 (Dw := False) rfl ?_
    obtain ⟨v710, h711, h712⟩ := El.list h709
    refine VQ_y (fun w' hw' => Y_load ((World.cell?_of_block (hw'.2 _ h709.2.1 h709.1)).trans h711) Tryz.isAgg33 rfl) rfl rfl rfl ?_
    refine VQ_CH (Dw := False) ?_
    refine CH_l1 (Dw := False) (k := 0) rfl ?_
    obtain ⟨x713, hx713, hm⟩ := Option.bind_eq_some_iff.1 hm
    refine V_call Tryz.call18 rfl rfl rfl rfl (staff_nat_times_c (Dw := False) w694 hA x640.num v698 h700 x660.num v702 h704 hx713) ?_
    rintro v714 w716 ⟨_, rfl, h715, hk717⟩
    have ht718 := Kp.tr (Dw := False) hk717 hA hB
    replace hH := Hp.kp (Dw := False) hH hk717
    replace h708 := Sl.tr (Dw := False) h708 ht718
    replace h712 := Sl.tr (Dw := False) h712 ht718
    replace hK := Tr.trans (Dw := False) hK ht718
    replace hB := Nat.le_trans hB ht718.ex.size
    replace hA := ht718.new
    refine V_CH (Dw := False) (hk717) ?_
    refine CH_l1 (Dw := False) (k := 0) rfl ?_
    obtain ⟨x719, hx719, hm⟩ := Option.bind_eq_some_iff.1 hm
    refine V_call Tryz.call18 rfl rfl rfl rfl (staff_nat_times_c (Dw := False) w716 hA x640.den v706 h708 x660.den v710 h712 hx719) ?_
    rintro v720 w722 ⟨_, rfl, h721, hk723⟩
    have ht724 := Kp.tr (Dw := False) hk723 hA hB
    replace hH := Hp.kp (Dw := False) hH hk723
    replace h715 := Sl.tr (Dw := False) h715 ht724
    replace hK := Tr.trans (Dw := False) hK ht724
    replace hB := Nat.le_trans hB ht724.ex.size
    replace hA := ht724.new
    refine V_CH (Dw := False) (hk723) ?_
    refine CH_q2 (Dw := False) rfl ?_
    refine VQ_y (fun w' hw' => Y_build (cells := #[v714, v720]) Tryz.underlying35 Tryz.zeroValue35 (Tryz_places35 _ Tryz.underlying35) rfl (by obtain ⟨a725, c726, e727, _⟩ := Sl.form h715; subst e727; obtain ⟨a728, c729, e730, _⟩ := Sl.form h721; subst e730; with_unfolding_all rfl)) rfl rfl rfl ?_
    refine VQ_CH (Dw := False) ?_
    refine CH_l1 (Dw := False) (k := 0) rfl ?_
    obtain ⟨x731, hx731, hm⟩ := Option.bind_eq_some_iff.1 hm
    refine V_call Tryz.call20 rfl rfl rfl rfl (staff_limited_c w722 hA (Fz.tr (Dw := False) hT hK) (⟨x713, x719⟩ : staff_ratio) v714 h715 v720 h721 hx731) ?_
    rintro _ w732 ⟨rfl, hk733⟩
    have ht734 := Kp.tr (Dw := False) hk733 hA hB
    replace hH := Hp.kp (Dw := False) hH hk733
    replace hK := Tr.trans (Dw := False) hK ht734
    replace hB := Nat.le_trans hB ht734.ex.size
    replace hA := ht734.new
    refine V_CH (Dw := False) (hk733) ?_
    refine CH_q2 (Dw := False) rfl ?_
    refine VQ_y (fun w' hw' => Y_extract rfl rfl) rfl rfl rfl ?_
    refine VQ_CH (Dw := False) ?_
    refine CH_q2 (Dw := False) rfl ?_
    refine VQ_y (fun w' hw' => Y_extract rfl rfl) rfl rfl rfl ?_
    refine VQ_CH (Dw := False) ?_
    refine CH_l1 (Dw := False) (k := 2) rfl ?_
    refine V_storeC (Dw := False) (off := 0) (ds := [.string x731.1.num, .string x731.1.den]) hH (i := 0) rfl Tryz.sizeOf23 rfl (Nat.le_of_ble_eq_true rfl) (by simp [Value.cells, Value.oneCell']) rfl hB hA rfl rfl ?_
    intro w735 hH736 ht737
    replace hK := Tr.trans (Dw := False) hK ht737
    replace hH : Hp w.heap.size A690 w735 (obC b14 [.string x731.1.num, .string x731.1.den] 23 :: []) := hH736
    refine V_CHw (Dw := False) ?_
    refine CH_q2 (Dw := False) rfl ?_
    refine VQ_y (fun w' hw' => Y_assign rfl) rfl rfl rfl ?_
    refine VQ_CH (Dw := False) ?_
    refine CH_tail (Dw := False) ?_
    show V _ _ _ _ [] _ _
    refine V_to (fun _ _ => rfl) ?_
    obtain rfl := Option.some.inj hm
    refine C_ret ?_
    try simp only [↓inBlock_ret, ↓then_ret]
    exact retQ rfl (Res.l2 Tryz.results8 (RL.cell rfl (loadVar_agg (Hp.part (off := 0) (n := 2) (ds := [.string x731.1.num, .string x731.1.den]) hH (i := 0) rfl rfl) Tryz.isAgg23 Tryz.sizeOf23)) (RL.tmp rfl)) ⟨rfl, hK.kp⟩
   obtain ⟨x738, hx738, hm⟩ := Option.bind_eq_some_iff.1 hm
   refine V_call Tryz.call24 rfl rfl rfl rfl (staff_lowest_c (Dw := False) w649 hA x21.2.1.num v85 h87 x21.1.den v89 h91 hx738) ?_
   rintro _ w743 ⟨v739, v741, rfl, h740, h742, hk744⟩
   have ht745 := Kp.tr (Dw := False) hk744 hA hB
   replace hH := Hp.kp (Dw := False) hH hk744
   replace h642 := Sl.tr (Dw := False) h642 ht745
   replace h644 := Sl.tr (Dw := False) h644 ht745
   replace hK := Tr.trans (Dw := False) hK ht745
   replace hB := Nat.le_trans hB ht745.ex.size
   replace hA := ht745.new
   refine V_CHZ (Dw := False) (hk744) ?_
   refine CHZ_nil (Dw := False) ?_
   refine CH_l1 (Dw := False) (k := 0) rfl ?_
   refine V_allocHk (Dw := False) (B := w.heap.size) hH Tryz.zeroValue35 hB hA rfl ?_
   intro b746 w747 A748 hk751 hH749 ht750
   replace h642 := Sl.tr (Dw := False) h642 ht750
   replace h644 := Sl.tr (Dw := False) h644 ht750
   replace h740 := Sl.tr (Dw := False) h740 ht750
   replace h742 := Sl.tr (Dw := False) h742 ht750
   replace hK := Tr.trans (Dw := False) hK ht750
   replace hB := Nat.le_trans hB ht750.ex.size
   replace hA := ht750.new
   replace hH : Hp w.heap.size A748 w747 (obC b746 [.slice none 0 0, .slice none 0 0] 35 :: obC b648 [.slice none 0 0, .slice none 0 0] 35 :: obC b14 [.string ByteArray.empty, .string ByteArray.empty] 23 :: []) := hH749
   refine V_CH (Dw := False) (hk751) ?_
   refine CH_l1 (Dw := False) (k := 2) rfl ?_
   have h757 : (v641).oneCell' = true := by obtain ⟨_, _, e, _⟩ := Sl.form h642; rw [e]; rfl
   have h760 : (v643).oneCell' = true := by obtain ⟨_, _, e, _⟩ := Sl.form h644; rw [e]; rfl
   refine V_storeC (Dw := False) (off := 0) (ds := [v641, v643]) hH (i := 1) rfl Tryz.sizeOf35 rfl (Nat.le_of_ble_eq_true rfl) (by exact (List.forall_mem_cons.2 ⟨h757, (List.forall_mem_cons.2 ⟨h760, (fun _ h => nomatch h)⟩)⟩)) rfl hB hA rfl rfl ?_
   intro w752 hH753 ht754
   replace h642 := Sl.tr (Dw := False) h642 ht754
   replace h644 := Sl.tr (Dw := False) h644 ht754
   replace h740 := Sl.tr (Dw := False) h740 ht754
   replace h742 := Sl.tr (Dw := False) h742 ht754
   replace hK := Tr.trans (Dw := False) hK ht754
   replace hB := Nat.le_trans hB ht754.ex.size
   replace hA := ht754.new
   replace hH : Hp w.heap.size A748 w752 (obC b746 [.slice none 0 0, .slice none 0 0] 35 :: obC b648 [v641, v643] 35 :: obC b14 [.string ByteArray.empty, .string ByteArray.empty] 23 :: []) := hH753
   obtain ⟨A761, ht762, h763, hH764⟩ := Hp.freezeC (Dw := False) (α := staff_ratio) (x := x640) hH (i := 1) rfl hA (by exact ⟨[v641], _, rfl, ⟨_, rfl, h642⟩, ⟨_, rfl, h644⟩⟩)
   replace h740 := Sl.tr (Dw := False) h740 ht762
   replace h742 := Sl.tr (Dw := False) h742 ht762
   replace hK := Tr.trans (Dw := False) hK ht762
   replace hB := Nat.le_trans hB ht762.ex.size
   replace hA := ht762.new
   replace hH : Hp w.heap.size A761 w752 (obC b746 [.slice none 0 0, .slice none 0 0] 35 :: obC b14 [.string ByteArray.empty, .string ByteArray.empty] 23 :: []) := hH764
   refine V_CHw (Dw := False) ?_
   refine CH_l1 (Dw := False) (k := 2) rfl ?_
   have h770 : (v739).oneCell' = true := by obtain ⟨_, _, e, _⟩ := Sl.form h740; rw [e]; rfl
   have h773 : (v741).oneCell' = true := by obtain ⟨_, _, e, _⟩ := Sl.form h742; rw [e]; rfl
   refine V_storeC (Dw := False) (off := 0) (ds := [v739, v741]) hH (i := 0) rfl Tryz.sizeOf35 rfl (Nat.le_of_ble_eq_true rfl) (by exact (List.forall_mem_cons.2 ⟨h770, (List.forall_mem_cons.2 ⟨h773, (fun _ h => nomatch h)⟩)⟩)) rfl hB hA rfl rfl ?_
   intro w765 hH766 ht767
   replace h763 := El.tr (Dw := False) h763 ht767
   replace h740 := Sl.tr (Dw := False) h740 ht767
   replace h742 := Sl.tr (Dw := False) h742 ht767
   replace hK := Tr.trans (Dw := False) hK ht767
   replace hB := Nat.le_trans hB ht767.ex.size
   replace hA := ht767.new
   replace hH : Hp w.heap.size A761 w765 (obC b746 [v739, v741] 35 :: obC b14 [.string ByteArray.empty, .string ByteArray.empty] 23 :: []) := hH766
   obtain ⟨A774, ht775, h776, hH777⟩ := Hp.freezeC (Dw := False) (α := staff_ratio) (x := x738) hH (i := 0) rfl hA (by exact ⟨[v739], _, rfl, ⟨_, rfl, h740⟩, ⟨_, rfl, h742⟩⟩)
   replace h763 := El.tr (Dw := False) h763 ht775
   replace hK := Tr.trans (Dw := False) hK ht775
   replace hB := Nat.le_trans hB ht775.ex.size
   replace hA := ht775.new
   replace hH : Hp w.heap.size A774 w765 (obC b14 [.string ByteArray.empty, .string ByteArray.empty] 23 :: []) := hH777
   refine V_CHw (Dw := False) ?_
   refine CH_tail (Dw := False) ?_
   show V _ _ _ _ [] _ _
   refine V_to (fun _ _ => rfl) ?_
   refine C_seq ?_
   refine C_region_ch (Dw := False) A774 16 [(1, 0), (1, 1), (1, 2), (1, 3), (1, 5), (1, 6), (1, 7), (1, 8), (2, 4), (2, 9), (1, 10), (2, 11), (1, 12), (1, 13), (4, 14), (1, 15)] Tryz_mixed (by kernel_rfl) (fun w778 hk779 => ?_)
   have ht780 := Kp.tr (Dw := False) hk779 hA hB
   replace hH := Hp.kp (Dw := False) hH hk779
   replace h763 := El.tr (Dw := False) h763 ht780
   replace h776 := El.tr (Dw := False) h776 ht780
   replace hK := Tr.trans (Dw := False) hK ht780
   replace hB := Nat.le_trans hB ht780.ex.size
   replace hA := ht780.new
   refine CH_q2 (Dw := False) rfl ?_
   have h781 := El_staff_ratio_0 h763
   refine VQ_y (fun w' hw' => Y_fieldAddr Tryz.underlying35 rfl Tryz.sizeOf33 (by decide) rfl) rfl rfl rfl ?_
   refine VQ_CH (Dw := False) ?_
   refine CH_q2 (Dw := False) rfl ?_
   obtain ⟨v782, h783, h784⟩ := El.list h781
   refine VQ_y (fun w' hw' => Y_load ((World.cell?_of_block (hw'.2 _ h781.2.1 h781.1)).trans h783) Tryz.isAgg33 rfl) rfl rfl rfl ?_
   refine VQ_CH (Dw := False) ?_
   refine CH_q2 (Dw := False) rfl ?_
   have h785 := El_staff_ratio_0 h776
   refine VQ_y (fun w' hw' => Y_fieldAddr Tryz.underlying35 rfl Tryz.sizeOf33 (by decide) rfl) rfl rfl rfl ?_
   refine VQ_CH (Dw := False) ?_
   refine CH_q2 (Dw := False) rfl ?_
   obtain ⟨v786, h787, h788⟩ := El.list h785
   refine VQ_y (fun w' hw' => Y_load ((World.cell?_of_block (hw'.2 _ h785.2.1 h785.1)).trans h787) Tryz.isAgg33 rfl) rfl rfl rfl ?_
   refine VQ_CH (Dw := False) ?_
   refine CH_q2 (Dw := False) rfl ?_
   have h789 := El_staff_ratio_1 h763
   refine VQ_y (fun w' hw' => Y_fieldAddr Tryz.underlying35 rfl Tryz.sizeOf33 (by decide) rfl) rfl rfl rfl ?_
   refine VQ_CH (Dw := False) ?_
   refine CH_q2 (Dw := False) rfl ?_
   obtain ⟨v790, h791, h792⟩ := El.list h789
   refine VQ_y (fun w' hw' => Y_load ((World.cell?_of_block (hw'.2 _ h789.2.1 h789.1)).trans h791) Tryz.isAgg33 rfl) rfl rfl rfl ?_
   refine VQ_CH (Dw := False) ?_
   refine CH_q2 (Dw := False) rfl ?_
   have h793 := El_staff_ratio_1 h776
   refine VQ_y (fun w' hw' => Y_fieldAddr Tryz.underlying35 rfl Tryz.sizeOf33 (by decide) rfl) rfl rfl rfl ?_
   refine VQ_CH (Dw := False) ?_
   refine CH_q2 (Dw := False) rfl ?_
   obtain ⟨v794, h795, h796⟩ := El.list h793
   refine VQ_y (fun w' hw' => Y_load ((World.cell?_of_block (hw'.2 _ h793.2.1 h793.1)).trans h795) Tryz.isAgg33 rfl) rfl rfl rfl ?_
   refine VQ_CH (Dw := False) ?_
   refine CH_l1 (Dw := False) (k := 0) rfl ?_
   obtain ⟨x797, hx797, hm⟩ := Option.bind_eq_some_iff.1 hm
   refine V_call Tryz.call18 rfl rfl rfl rfl (staff_nat_times_c (Dw := False) w778 hA x640.num v782 h784 x738.num v786 h788 hx797) ?_
   rintro v798 w800 ⟨_, rfl, h799, hk801⟩
   have ht802 := Kp.tr (Dw := False) hk801 hA hB
   replace hH := Hp.kp (Dw := False) hH hk801
   replace h792 := Sl.tr (Dw := False) h792 ht802
   replace h796 := Sl.tr (Dw := False) h796 ht802
   replace hK := Tr.trans (Dw := False) hK ht802
   replace hB := Nat.le_trans hB ht802.ex.size
   replace hA := ht802.new
   refine V_CH (Dw := False) (hk801) ?_
   refine CH_l1 (Dw := False) (k := 0) rfl ?_
   obtain ⟨x803, hx803, hm⟩ := Option.bind_eq_some_iff.1 hm
   refine V_call Tryz.call18 rfl rfl rfl rfl (staff_nat_times_c (Dw := False) w800 hA x640.den v790 h792 x738.den v794 h796 hx803) ?_
   rintro v804 w806 ⟨_, rfl, h805, hk807⟩
   have ht808 := Kp.tr (Dw := False) hk807 hA hB
   replace hH := Hp.kp (Dw := False) hH hk807
   replace h799 := Sl.tr (Dw := False) h799 ht808
   replace hK := Tr.trans (Dw := False) hK ht808
   replace hB := Nat.le_trans hB ht808.ex.size
   replace hA := ht808.new
   refine V_CH (Dw := False) (hk807) ?_
   refine CH_q2 (Dw := False) rfl ?_
   refine VQ_y (fun w' hw' => Y_build (cells := #[v798, v804]) Tryz.underlying35 Tryz.zeroValue35 (Tryz_places35 _ Tryz.underlying35) rfl (by obtain ⟨a809, c810, e811, _⟩ := Sl.form h799; subst e811; obtain ⟨a812, c813, e814, _⟩ := Sl.form h805; subst e814; with_unfolding_all rfl)) rfl rfl rfl ?_
   refine VQ_CH (Dw := False) ?_
   refine CH_l1 (Dw := False) (k := 0) rfl ?_
   obtain ⟨x815, hx815, hm⟩ := Option.bind_eq_some_iff.1 hm
   refine V_call Tryz.call20 rfl rfl rfl rfl (staff_limited_c w806 hA (Fz.tr (Dw := False) hT hK) (⟨x797, x803⟩ : staff_ratio) v798 h799 v804 h805 hx815) ?_
   rintro _ w816 ⟨rfl, hk817⟩
   have ht818 := Kp.tr (Dw := False) hk817 hA hB
   replace hH := Hp.kp (Dw := False) hH hk817
   replace hK := Tr.trans (Dw := False) hK ht818
   replace hB := Nat.le_trans hB ht818.ex.size
   replace hA := ht818.new
   refine V_CH (Dw := False) (hk817) ?_
   refine CH_q2 (Dw := False) rfl ?_
   refine VQ_y (fun w' hw' => Y_extract rfl rfl) rfl rfl rfl ?_
   refine VQ_CH (Dw := False) ?_
   refine CH_q2 (Dw := False) rfl ?_
   refine VQ_y (fun w' hw' => Y_extract rfl rfl) rfl rfl rfl ?_
   refine VQ_CH (Dw := False) ?_
   refine CH_l1 (Dw := False) (k := 2) rfl ?_
   refine V_storeC (Dw := False) (off := 0) (ds := [.string x815.1.num, .string x815.1.den]) hH (i := 0) rfl Tryz.sizeOf23 rfl (Nat.le_of_ble_eq_true rfl) (by simp [Value.cells, Value.oneCell']) rfl hB hA rfl rfl ?_
   intro w819 hH820 ht821
   replace hK := Tr.trans (Dw := False) hK ht821
   replace hH : Hp w.heap.size A774 w819 (obC b14 [.string x815.1.num, .string x815.1.den] 23 :: []) := hH820
   refine V_CHw (Dw := False) ?_
   refine CH_q2 (Dw := False) rfl ?_
   refine VQ_y (fun w' hw' => Y_assign rfl) rfl rfl rfl ?_
   refine VQ_CH (Dw := False) ?_
   refine CH_tail (Dw := False) ?_
   show V _ _ _ _ [] _ _
   refine V_to (fun _ _ => rfl) ?_
   obtain rfl := Option.some.inj hm
   refine C_ret ?_
   try simp only [↓inBlock_ret, ↓then_ret]
   exact retQ rfl (Res.l2 Tryz.results8 (RL.cell rfl (loadVar_agg (Hp.part (off := 0) (n := 2) (ds := [.string x815.1.num, .string x815.1.den]) hH (i := 0) rfl rfl) Tryz.isAgg23 Tryz.sizeOf23)) (RL.tmp rfl)) ⟨rfl, hK.kp⟩
  ·refine V_allocHk (Dw := False) (B := w.heap.size) hH Tryz.zeroValue35 hB hA rfl ?_
   intro b822 w823 A824 hk827 hH825 ht826
   replace h87 := Sl.tr (Dw := False) h87 ht826
   replace h91 := Sl.tr (Dw := False) h91 ht826
   replace h642 := Sl.tr (Dw := False) h642 ht826
   replace h644 := Sl.tr (Dw := False) h644 ht826
   replace hK := Tr.trans (Dw := False) hK ht826
   replace hB := Nat.le_trans hB ht826.ex.size
   replace hA := ht826.new
   replace hH : Hp w.heap.size A824 w823 (obC b822 [.slice none 0 0, .slice none 0 0] 35 :: obC b14 [.string ByteArray.empty, .string ByteArray.empty] 23 :: []) := hH825
   refine V_CHZ (Dw := False) (hk827) ?_
   refine CHZ_l1 (Dw := False) (k := 0) [(2, 10), (2, 9), (4, 12), (4, 13)] rfl ?_ rfl ?_
   ·refine CH_l1 (Dw := False) (k := 0) rfl ?_
    refine V_allocHk (Dw := False) (B := w.heap.size) hH Tryz.zeroValue35 hB hA rfl ?_
    intro b828 w829 A830 hk833 hH831 ht832
    replace h87 := Sl.tr (Dw := False) h87 ht832
    replace h91 := Sl.tr (Dw := False) h91 ht832
    replace h642 := Sl.tr (Dw := False) h642 ht832
    replace h644 := Sl.tr (Dw := False) h644 ht832
    replace hK := Tr.trans (Dw := False) hK ht832
    replace hB := Nat.le_trans hB ht832.ex.size
    replace hA := ht832.new
    replace hH : Hp w.heap.size A830 w829 (obC b828 [.slice none 0 0, .slice none 0 0] 35 :: obC b822 [.slice none 0 0, .slice none 0 0] 35 :: obC b14 [.string ByteArray.empty, .string ByteArray.empty] 23 :: []) := hH831
    refine V_CH (Dw := False) (hk833) ?_
    refine CH_l1 (Dw := False) (k := 0) rfl ?_
    obtain ⟨x834, hx834, hm⟩ := Option.bind_eq_some_iff.1 hm
    refine V_call Tryz.call24 rfl rfl rfl rfl (staff_lowest_c (Dw := False) w829 hA x21.2.1.num v85 h87 x21.1.den v89 h91 hx834) ?_
    rintro _ w839 ⟨v835, v837, rfl, h836, h838, hk840⟩
    have ht841 := Kp.tr (Dw := False) hk840 hA hB
    replace hH := Hp.kp (Dw := False) hH hk840
    replace h642 := Sl.tr (Dw := False) h642 ht841
    replace h644 := Sl.tr (Dw := False) h644 ht841
    replace hK := Tr.trans (Dw := False) hK ht841
    replace hB := Nat.le_trans hB ht841.ex.size
    replace hA := ht841.new
    refine V_CH (Dw := False) (hk840) ?_
    refine CH_l1 (Dw := False) (k := 2) rfl ?_
    have h847 : (v641).oneCell' = true := by obtain ⟨_, _, e, _⟩ := Sl.form h642; rw [e]; rfl
    have h850 : (v643).oneCell' = true := by obtain ⟨_, _, e, _⟩ := Sl.form h644; rw [e]; rfl
    refine V_storeC (Dw := False) (off := 0) (ds := [v641, v643]) hH (i := 0) rfl Tryz.sizeOf35 rfl (Nat.le_of_ble_eq_true rfl) (by exact (List.forall_mem_cons.2 ⟨h847, (List.forall_mem_cons.2 ⟨h850, (fun _ h => nomatch h)⟩)⟩)) rfl hB hA rfl rfl ?_
    intro w842 hH843 ht844
    replace h642 := Sl.tr (Dw := False) h642 ht844
    replace h644 := Sl.tr (Dw := False) h644 ht844
    replace h836 := Sl.tr (Dw := False) h836 ht844
    replace h838 := Sl.tr (Dw := False) h838 ht844
    replace hK := Tr.trans (Dw := False) hK ht844
    replace hB := Nat.le_trans hB ht844.ex.size
    replace hA := ht844.new
    replace hH : Hp w.heap.size A830 w842 (obC b828 [v641, v643] 35 :: obC b822 [.slice none 0 0, .slice none 0 0] 35 :: obC b14 [.string ByteArray.empty, .string ByteArray.empty] 23 :: []) := hH843
    obtain ⟨A851, ht852, h853, hH854⟩ := Hp.freezeC (Dw := False) (α := staff_ratio) (x := x640) hH (i := 0) rfl hA (by exact ⟨[v641], _, rfl, ⟨_, rfl, h642⟩, ⟨_, rfl, h644⟩⟩)
    replace h836 := Sl.tr (Dw := False) h836 ht852
    replace h838 := Sl.tr (Dw := False) h838 ht852
    replace hK := Tr.trans (Dw := False) hK ht852
    replace hB := Nat.le_trans hB ht852.ex.size
    replace hA := ht852.new
    replace hH : Hp w.heap.size A851 w842 (obC b822 [.slice none 0 0, .slice none 0 0] 35 :: obC b14 [.string ByteArray.empty, .string ByteArray.empty] 23 :: []) := hH854
    refine V_CHw (Dw := False) ?_
    refine CH_l1 (Dw := False) (k := 2) rfl ?_
    have h860 : (v835).oneCell' = true := by obtain ⟨_, _, e, _⟩ := Sl.form h836; rw [e]; rfl
    have h863 : (v837).oneCell' = true := by obtain ⟨_, _, e, _⟩ := Sl.form h838; rw [e]; rfl
    refine V_storeC (Dw := False) (off := 0) (ds := [v835, v837]) hH (i := 0) rfl Tryz.sizeOf35 rfl (Nat.le_of_ble_eq_true rfl) (by exact (List.forall_mem_cons.2 ⟨h860, (List.forall_mem_cons.2 ⟨h863, (fun _ h => nomatch h)⟩)⟩)) rfl hB hA rfl rfl ?_
    intro w855 hH856 ht857
    replace h853 := El.tr (Dw := False) h853 ht857
    replace h836 := Sl.tr (Dw := False) h836 ht857
    replace h838 := Sl.tr (Dw := False) h838 ht857
    replace hK := Tr.trans (Dw := False) hK ht857
    replace hB := Nat.le_trans hB ht857.ex.size
    replace hA := ht857.new
    replace hH : Hp w.heap.size A851 w855 (obC b822 [v835, v837] 35 :: obC b14 [.string ByteArray.empty, .string ByteArray.empty] 23 :: []) := hH856
    obtain ⟨A864, ht865, h866, hH867⟩ := Hp.freezeC (Dw := False) (α := staff_ratio) (x := x834) hH (i := 0) rfl hA (by exact ⟨[v835], _, rfl, ⟨_, rfl, h836⟩, ⟨_, rfl, h838⟩⟩)
    replace h853 := El.tr (Dw := False) h853 ht865
    replace hK := Tr.trans (Dw := False) hK ht865
    replace hB := Nat.le_trans hB ht865.ex.size
    replace hA := ht865.new
    replace hH : Hp w.heap.size A864 w855 (obC b14 [.string ByteArray.empty, .string ByteArray.empty] 23 :: []) := hH867
    refine V_CHw (Dw := False) ?_
    refine CH_tail (Dw := False) ?_
    show V _ _ _ _ [] _ _
    refine V_to (fun _ _ => rfl) ?_
    refine C_seq ?_
    refine C_region_ch (Dw := False) A864 16 [(1, 0), (1, 1), (1, 2), (1, 3), (1, 5), (1, 6), (1, 7), (1, 8), (2, 4), (2, 9), (1, 10), (2, 11), (1, 12), (1, 13), (4, 14), (1, 15)] Tryz_mixed (by kernel_rfl) (fun w868 hk869 => ?_)
    have ht870 := Kp.tr (Dw := False) hk869 hA hB
    replace hH := Hp.kp (Dw := False) hH hk869
    replace h866 := El.tr (Dw := False) h866 ht870
    replace h853 := El.tr (Dw := False) h853 ht870
    replace hK := Tr.trans (Dw := False) hK ht870
    replace hB := Nat.le_trans hB ht870.ex.size
    replace hA := ht870.new
    refine CH_q2 (Dw := False) rfl ?_
    have h871 := El_staff_ratio_0 h853
    refine VQ_y (fun w' hw' => Y_fieldAddr Tryz.underlying35 rfl Tryz.sizeOf33 (by decide) rfl) rfl rfl rfl ?_
    refine VQ_CH (Dw := False) ?_
    refine CH_q2 (Dw := False) rfl ?_
    obtain ⟨v872, h873, h874⟩ := El.list h871
    refine VQ_y (fun w' hw' => Y_load ((World.cell?_of_block (hw'.2 _ h871.2.1 h871.1)).trans h873) Tryz.isAgg33 rfl) rfl rfl rfl ?_
    refine VQ_CH (Dw := False) ?_
    refine CH_q2 (Dw := False) rfl ?_
    have h875 := El_staff_ratio_0 h866
    refine VQ_y (fun w' hw' => Y_fieldAddr Tryz.underlying35 rfl Tryz.sizeOf33 (by decide) rfl) rfl rfl rfl ?_
    refine VQ_CH (Dw := False) ?_
    refine CH_q2 (Dw := False) rfl ?_
    obtain ⟨v876, h877, h878⟩ := El.list h875
    refine VQ_y (fun w' hw' => Y_load ((World.cell?_of_block (hw'.2 _ h875.2.1 h875.1)).trans h877) Tryz.isAgg33 rfl) rfl rfl rfl ?_
    refine VQ_CH (Dw := False) ?_
    refine CH_q2 (Dw := False) rfl ?_
    have h879 := El_staff_ratio_1 h853
    refine VQ_y (fun w' hw' => Y_fieldAddr Tryz.underlying35 rfl Tryz.sizeOf33 (by decide) rfl) rfl rfl rfl ?_
    refine VQ_CH (Dw := False) ?_
    refine CH_q2 (Dw := False) rfl ?_
    obtain ⟨v880, h881, h882⟩ := El.list h879
    refine VQ_y (fun w' hw' => Y_load ((World.cell?_of_block (hw'.2 _ h879.2.1 h879.1)).trans h881) Tryz.isAgg33 rfl) rfl rfl rfl ?_
    refine VQ_CH (Dw := False) ?_
    refine CH_q2 (Dw := False) rfl ?_
    have h883 := El_staff_ratio_1 h866
    refine VQ_y (fun w' hw' => Y_fieldAddr Tryz.underlying35 rfl Tryz.sizeOf33 (by decide) rfl) rfl rfl rfl ?_
    refine VQ_CH (Dw := False) ?_
    refine CH_q2 (Dw := False) rfl ?_
    obtain ⟨v884, h885, h886⟩ := El.list h883
    refine VQ_y (fun w' hw' => Y_load ((World.cell?_of_block (hw'.2 _ h883.2.1 h883.1)).trans h885) Tryz.isAgg33 rfl) rfl rfl rfl ?_
    refine VQ_CH (Dw := False) ?_
    refine CH_l1 (Dw := False) (k := 0) rfl ?_
    obtain ⟨x887, hx887, hm⟩ := Option.bind_eq_some_iff.1 hm
    refine V_call Tryz.call18 rfl rfl rfl rfl (staff_nat_times_c (Dw := False) w868 hA x640.num v872 h874 x834.num v876 h878 hx887) ?_
    rintro v888 w890 ⟨_, rfl, h889, hk891⟩
    have ht892 := Kp.tr (Dw := False) hk891 hA hB
    replace hH := Hp.kp (Dw := False) hH hk891
    replace h882 := Sl.tr (Dw := False) h882 ht892
    replace h886 := Sl.tr (Dw := False) h886 ht892
    replace hK := Tr.trans (Dw := False) hK ht892
    replace hB := Nat.le_trans hB ht892.ex.size
    replace hA := ht892.new
    refine V_CH (Dw := False) (hk891) ?_
    refine CH_l1 (Dw := False) (k := 0) rfl ?_
    obtain ⟨x893, hx893, hm⟩ := Option.bind_eq_some_iff.1 hm
    refine V_call Tryz.call18 rfl rfl rfl rfl (staff_nat_times_c (Dw := False) w890 hA x640.den v880 h882 x834.den v884 h886 hx893) ?_
    rintro v894 w896 ⟨_, rfl, h895, hk897⟩
    have ht898 := Kp.tr (Dw := False) hk897 hA hB
    replace hH := Hp.kp (Dw := False) hH hk897
    replace h889 := Sl.tr (Dw := False) h889 ht898
    replace hK := Tr.trans (Dw := False) hK ht898
    replace hB := Nat.le_trans hB ht898.ex.size
    replace hA := ht898.new
    refine V_CH (Dw := False) (hk897) ?_
    refine CH_q2 (Dw := False) rfl ?_
    refine VQ_y (fun w' hw' => Y_build (cells := #[v888, v894]) Tryz.underlying35 Tryz.zeroValue35 (Tryz_places35 _ Tryz.underlying35) rfl (by obtain ⟨a899, c900, e901, _⟩ := Sl.form h889; subst e901; obtain ⟨a902, c903, e904, _⟩ := Sl.form h895; subst e904; with_unfolding_all rfl)) rfl rfl rfl ?_
    refine VQ_CH (Dw := False) ?_
    refine CH_l1 (Dw := False) (k := 0) rfl ?_
    obtain ⟨x905, hx905, hm⟩ := Option.bind_eq_some_iff.1 hm
    refine V_call Tryz.call20 rfl rfl rfl rfl (staff_limited_c w896 hA (Fz.tr (Dw := False) hT hK) (⟨x887, x893⟩ : staff_ratio) v888 h889 v894 h895 hx905) ?_
    rintro _ w906 ⟨rfl, hk907⟩
    have ht908 := Kp.tr (Dw := False) hk907 hA hB
    replace hH := Hp.kp (Dw := False) hH hk907
    replace hK := Tr.trans (Dw := False) hK ht908
    replace hB := Nat.le_trans hB ht908.ex.size
    replace hA := ht908.new
    refine V_CH (Dw := False) (hk907) ?_
    refine CH_q2 (Dw := False) rfl ?_
    refine VQ_y (fun w' hw' => Y_extract rfl rfl) rfl rfl rfl ?_
    refine VQ_CH (Dw := False) ?_
    refine CH_q2 (Dw := False) rfl ?_
    refine VQ_y (fun w' hw' => Y_extract rfl rfl) rfl rfl rfl ?_
    refine VQ_CH (Dw := False) ?_
    refine CH_l1 (Dw := False) (k := 2) rfl ?_
    refine V_storeC (Dw := False) (off := 0) (ds := [.string x905.1.num, .string x905.1.den]) hH (i := 0) rfl Tryz.sizeOf23 rfl (Nat.le_of_ble_eq_true rfl) (by simp [Value.cells, Value.oneCell']) rfl hB hA rfl rfl ?_
    intro w909 hH910 ht911
    replace hK := Tr.trans (Dw := False) hK ht911
    replace hH : Hp w.heap.size A864 w909 (obC b14 [.string x905.1.num, .string x905.1.den] 23 :: []) := hH910
    refine V_CHw (Dw := False) ?_
    refine CH_q2 (Dw := False) rfl ?_
    refine VQ_y (fun w' hw' => Y_assign rfl) rfl rfl rfl ?_
    refine VQ_CH (Dw := False) ?_
    refine CH_tail (Dw := False) ?_
    show V _ _ _ _ [] _ _
    refine V_to (fun _ _ => rfl) ?_
    obtain rfl := Option.some.inj hm
    refine C_ret ?_
    try simp only [↓inBlock_ret, ↓then_ret]
    exact retQ rfl (Res.l2 Tryz.results8 (RL.cell rfl (loadVar_agg (Hp.part (off := 0) (n := 2) (ds := [.string x905.1.num, .string x905.1.den]) hH (i := 0) rfl rfl) Tryz.isAgg23 Tryz.sizeOf23)) (RL.tmp rfl)) ⟨rfl, hK.kp⟩
   obtain ⟨x912, hx912, hm⟩ := Option.bind_eq_some_iff.1 hm
   refine V_call Tryz.call24 rfl rfl rfl rfl (staff_lowest_c (Dw := False) w823 hA x21.2.1.num v85 h87 x21.1.den v89 h91 hx912) ?_
   rintro _ w917 ⟨v913, v915, rfl, h914, h916, hk918⟩
   have ht919 := Kp.tr (Dw := False) hk918 hA hB
   replace hH := Hp.kp (Dw := False) hH hk918
   replace h642 := Sl.tr (Dw := False) h642 ht919
   replace h644 := Sl.tr (Dw := False) h644 ht919
   replace hK := Tr.trans (Dw := False) hK ht919
   replace hB := Nat.le_trans hB ht919.ex.size
   replace hA := ht919.new
   refine V_CHZ (Dw := False) (hk918) ?_
   refine CHZ_nil (Dw := False) ?_
   refine CH_l1 (Dw := False) (k := 0) rfl ?_
   refine V_allocHk (Dw := False) (B := w.heap.size) hH Tryz.zeroValue35 hB hA rfl ?_
   intro b920 w921 A922 hk925 hH923 ht924
   replace h642 := Sl.tr (Dw := False) h642 ht924
   replace h644 := Sl.tr (Dw := False) h644 ht924
   replace h914 := Sl.tr (Dw := False) h914 ht924
   replace h916 := Sl.tr (Dw := False) h916 ht924
   replace hK := Tr.trans (Dw := False) hK ht924
   replace hB := Nat.le_trans hB ht924.ex.size
   replace hA := ht924.new
   replace hH : Hp w.heap.size A922 w921 (obC b920 [.slice none 0 0, .slice none 0 0] 35 :: obC b822 [.slice none 0 0, .slice none 0 0] 35 :: obC b14 [.string ByteArray.empty, .string ByteArray.empty] 23 :: []) := hH923
   refine V_CH (Dw := False) (hk925) ?_
   refine CH_l1 (Dw := False) (k := 2) rfl ?_
   have h931 : (v641).oneCell' = true := by obtain ⟨_, _, e, _⟩ := Sl.form h642; rw [e]; rfl
   have h934 : (v643).oneCell' = true := by obtain ⟨_, _, e, _⟩ := Sl.form h644; rw [e]; rfl
   refine V_storeC (Dw := False) (off := 0) (ds := [v641, v643]) hH (i := 0) rfl Tryz.sizeOf35 rfl (Nat.le_of_ble_eq_true rfl) (by exact (List.forall_mem_cons.2 ⟨h931, (List.forall_mem_cons.2 ⟨h934, (fun _ h => nomatch h)⟩)⟩)) rfl hB hA rfl rfl ?_
   intro w926 hH927 ht928
   replace h642 := Sl.tr (Dw := False) h642 ht928
   replace h644 := Sl.tr (Dw := False) h644 ht928
   replace h914 := Sl.tr (Dw := False) h914 ht928
   replace h916 := Sl.tr (Dw := False) h916 ht928
   replace hK := Tr.trans (Dw := False) hK ht928
   replace hB := Nat.le_trans hB ht928.ex.size
   replace hA := ht928.new
   replace hH : Hp w.heap.size A922 w926 (obC b920 [v641, v643] 35 :: obC b822 [.slice none 0 0, .slice none 0 0] 35 :: obC b14 [.string ByteArray.empty, .string ByteArray.empty] 23 :: []) := hH927
   obtain ⟨A935, ht936, h937, hH938⟩ := Hp.freezeC (Dw := False) (α := staff_ratio) (x := x640) hH (i := 0) rfl hA (by exact ⟨[v641], _, rfl, ⟨_, rfl, h642⟩, ⟨_, rfl, h644⟩⟩)
   replace h914 := Sl.tr (Dw := False) h914 ht936
   replace h916 := Sl.tr (Dw := False) h916 ht936
   replace hK := Tr.trans (Dw := False) hK ht936
   replace hB := Nat.le_trans hB ht936.ex.size
   replace hA := ht936.new
   replace hH : Hp w.heap.size A935 w926 (obC b822 [.slice none 0 0, .slice none 0 0] 35 :: obC b14 [.string ByteArray.empty, .string ByteArray.empty] 23 :: []) := hH938
   refine V_CHw (Dw := False) ?_
   refine CH_l1 (Dw := False) (k := 2) rfl ?_
   have h944 : (v913).oneCell' = true := by obtain ⟨_, _, e, _⟩ := Sl.form h914; rw [e]; rfl
   have h947 : (v915).oneCell' = true := by obtain ⟨_, _, e, _⟩ := Sl.form h916; rw [e]; rfl
   refine V_storeC (Dw := False) (off := 0) (ds := [v913, v915]) hH (i := 0) rfl Tryz.sizeOf35 rfl (Nat.le_of_ble_eq_true rfl) (by exact (List.forall_mem_cons.2 ⟨h944, (List.forall_mem_cons.2 ⟨h947, (fun _ h => nomatch h)⟩)⟩)) rfl hB hA rfl rfl ?_
   intro w939 hH940 ht941
   replace h914 := Sl.tr (Dw := False) h914 ht941
   replace h916 := Sl.tr (Dw := False) h916 ht941
   replace h937 := El.tr (Dw := False) h937 ht941
   replace hK := Tr.trans (Dw := False) hK ht941
   replace hB := Nat.le_trans hB ht941.ex.size
   replace hA := ht941.new
   replace hH : Hp w.heap.size A935 w939 (obC b822 [v913, v915] 35 :: obC b14 [.string ByteArray.empty, .string ByteArray.empty] 23 :: []) := hH940
   obtain ⟨A948, ht949, h950, hH951⟩ := Hp.freezeC (Dw := False) (α := staff_ratio) (x := x912) hH (i := 0) rfl hA (by exact ⟨[v913], _, rfl, ⟨_, rfl, h914⟩, ⟨_, rfl, h916⟩⟩)
   replace h937 := El.tr (Dw := False) h937 ht949
   replace hK := Tr.trans (Dw := False) hK ht949
   replace hB := Nat.le_trans hB ht949.ex.size
   replace hA := ht949.new
   replace hH : Hp w.heap.size A948 w939 (obC b14 [.string ByteArray.empty, .string ByteArray.empty] 23 :: []) := hH951
   refine V_CHw (Dw := False) ?_
   refine CH_tail (Dw := False) ?_
   show V _ _ _ _ [] _ _
   refine V_to (fun _ _ => rfl) ?_
   refine C_seq ?_
   refine C_region_ch (Dw := False) A948 16 [(1, 0), (1, 1), (1, 2), (1, 3), (1, 5), (1, 6), (1, 7), (1, 8), (2, 4), (2, 9), (1, 10), (2, 11), (1, 12), (1, 13), (4, 14), (1, 15)] Tryz_mixed (by kernel_rfl) (fun w952 hk953 => ?_)
   have ht954 := Kp.tr (Dw := False) hk953 hA hB
   replace hH := Hp.kp (Dw := False) hH hk953
   replace h950 := El.tr (Dw := False) h950 ht954
   replace h937 := El.tr (Dw := False) h937 ht954
   replace hK := Tr.trans (Dw := False) hK ht954
   replace hB := Nat.le_trans hB ht954.ex.size
   replace hA := ht954.new
   refine CH_q2 (Dw := False) rfl ?_
   have h955 := El_staff_ratio_0 h937
   refine VQ_y (fun w' hw' => Y_fieldAddr Tryz.underlying35 rfl Tryz.sizeOf33 (by decide) rfl) rfl rfl rfl ?_
   refine VQ_CH (Dw := False) ?_
   refine CH_q2 (Dw := False) rfl ?_
   obtain ⟨v956, h957, h958⟩ := El.list h955
   refine VQ_y (fun w' hw' => Y_load ((World.cell?_of_block (hw'.2 _ h955.2.1 h955.1)).trans h957) Tryz.isAgg33 rfl) rfl rfl rfl ?_
   refine VQ_CH (Dw := False) ?_
   refine CH_q2 (Dw := False) rfl ?_
   have h959 := El_staff_ratio_0 h950
   refine VQ_y (fun w' hw' => Y_fieldAddr Tryz.underlying35 rfl Tryz.sizeOf33 (by decide) rfl) rfl rfl rfl ?_
   refine VQ_CH (Dw := False) ?_
   refine CH_q2 (Dw := False) rfl ?_
   obtain ⟨v960, h961, h962⟩ := El.list h959
   refine VQ_y (fun w' hw' => Y_load ((World.cell?_of_block (hw'.2 _ h959.2.1 h959.1)).trans h961) Tryz.isAgg33 rfl) rfl rfl rfl ?_
   refine VQ_CH (Dw := False) ?_
   refine CH_q2 (Dw := False) rfl ?_
   have h963 := El_staff_ratio_1 h937
   refine VQ_y (fun w' hw' => Y_fieldAddr Tryz.underlying35 rfl Tryz.sizeOf33 (by decide) rfl) rfl rfl rfl ?_
   refine VQ_CH (Dw := False) ?_
   refine CH_q2 (Dw := False) rfl ?_
   obtain ⟨v964, h965, h966⟩ := El.list h963
   refine VQ_y (fun w' hw' => Y_load ((World.cell?_of_block (hw'.2 _ h963.2.1 h963.1)).trans h965) Tryz.isAgg33 rfl) rfl rfl rfl ?_
   refine VQ_CH (Dw := False) ?_
   refine CH_q2 (Dw := False) rfl ?_
   have h967 := El_staff_ratio_1 h950
   refine VQ_y (fun w' hw' => Y_fieldAddr Tryz.underlying35 rfl Tryz.sizeOf33 (by decide) rfl) rfl rfl rfl ?_
   refine VQ_CH (Dw := False) ?_
   refine CH_q2 (Dw := False) rfl ?_
   obtain ⟨v968, h969, h970⟩ := El.list h967
   refine VQ_y (fun w' hw' => Y_load ((World.cell?_of_block (hw'.2 _ h967.2.1 h967.1)).trans h969) Tryz.isAgg33 rfl) rfl rfl rfl ?_
   refine VQ_CH (Dw := False) ?_
   refine CH_l1 (Dw := False) (k := 0) rfl ?_
   obtain ⟨x971, hx971, hm⟩ := Option.bind_eq_some_iff.1 hm
   refine V_call Tryz.call18 rfl rfl rfl rfl (staff_nat_times_c (Dw := False) w952 hA x640.num v956 h958 x912.num v960 h962 hx971) ?_
   rintro v972 w974 ⟨_, rfl, h973, hk975⟩
   have ht976 := Kp.tr (Dw := False) hk975 hA hB
   replace hH := Hp.kp (Dw := False) hH hk975
   replace h966 := Sl.tr (Dw := False) h966 ht976
   replace h970 := Sl.tr (Dw := False) h970 ht976
   replace hK := Tr.trans (Dw := False) hK ht976
   replace hB := Nat.le_trans hB ht976.ex.size
   replace hA := ht976.new
   refine V_CH (Dw := False) (hk975) ?_
   refine CH_l1 (Dw := False) (k := 0) rfl ?_
   obtain ⟨x977, hx977, hm⟩ := Option.bind_eq_some_iff.1 hm
   refine V_call Tryz.call18 rfl rfl rfl rfl (staff_nat_times_c (Dw := False) w974 hA x640.den v964 h966 x912.den v968 h970 hx977) ?_
   rintro v978 w980 ⟨_, rfl, h979, hk981⟩
   have ht982 := Kp.tr (Dw := False) hk981 hA hB
   replace hH := Hp.kp (Dw := False) hH hk981
   replace h973 := Sl.tr (Dw := False) h973 ht982
   replace hK := Tr.trans (Dw := False) hK ht982
   replace hB := Nat.le_trans hB ht982.ex.size
   replace hA := ht982.new
   refine V_CH (Dw := False) (hk981) ?_
   refine CH_q2 (Dw := False) rfl ?_
   refine VQ_y (fun w' hw' => Y_build (cells := #[v972, v978]) Tryz.underlying35 Tryz.zeroValue35 (Tryz_places35 _ Tryz.underlying35) rfl (by obtain ⟨a983, c984, e985, _⟩ := Sl.form h973; subst e985; obtain ⟨a986, c987, e988, _⟩ := Sl.form h979; subst e988; with_unfolding_all rfl)) rfl rfl rfl ?_
   refine VQ_CH (Dw := False) ?_
   refine CH_l1 (Dw := False) (k := 0) rfl ?_
   obtain ⟨x989, hx989, hm⟩ := Option.bind_eq_some_iff.1 hm
   refine V_call Tryz.call20 rfl rfl rfl rfl (staff_limited_c w980 hA (Fz.tr (Dw := False) hT hK) (⟨x971, x977⟩ : staff_ratio) v972 h973 v978 h979 hx989) ?_
   rintro _ w990 ⟨rfl, hk991⟩
   have ht992 := Kp.tr (Dw := False) hk991 hA hB
   replace hH := Hp.kp (Dw := False) hH hk991
   replace hK := Tr.trans (Dw := False) hK ht992
   replace hB := Nat.le_trans hB ht992.ex.size
   replace hA := ht992.new
   refine V_CH (Dw := False) (hk991) ?_
   refine CH_q2 (Dw := False) rfl ?_
   refine VQ_y (fun w' hw' => Y_extract rfl rfl) rfl rfl rfl ?_
   refine VQ_CH (Dw := False) ?_
   refine CH_q2 (Dw := False) rfl ?_
   refine VQ_y (fun w' hw' => Y_extract rfl rfl) rfl rfl rfl ?_
   refine VQ_CH (Dw := False) ?_
   refine CH_l1 (Dw := False) (k := 2) rfl ?_
   refine V_storeC (Dw := False) (off := 0) (ds := [.string x989.1.num, .string x989.1.den]) hH (i := 0) rfl Tryz.sizeOf23 rfl (Nat.le_of_ble_eq_true rfl) (by simp [Value.cells, Value.oneCell']) rfl hB hA rfl rfl ?_
   intro w993 hH994 ht995
   replace hK := Tr.trans (Dw := False) hK ht995
   replace hH : Hp w.heap.size A948 w993 (obC b14 [.string x989.1.num, .string x989.1.den] 23 :: []) := hH994
   refine V_CHw (Dw := False) ?_
   refine CH_q2 (Dw := False) rfl ?_
   refine VQ_y (fun w' hw' => Y_assign rfl) rfl rfl rfl ?_
   refine VQ_CH (Dw := False) ?_
   refine CH_tail (Dw := False) ?_
   show V _ _ _ _ [] _ _
   refine V_to (fun _ _ => rfl) ?_
   obtain rfl := Option.some.inj hm
   refine C_ret ?_
   try simp only [↓inBlock_ret, ↓then_ret]
   exact retQ rfl (Res.l2 Tryz.results8 (RL.cell rfl (loadVar_agg (Hp.part (off := 0) (n := 2) (ds := [.string x989.1.num, .string x989.1.den]) hH (i := 0) rfl rfl) Tryz.isAgg23 Tryz.sizeOf23)) (RL.tmp rfl)) ⟨rfl, hK.kp⟩
  obtain ⟨x996, hx996, hm⟩ := Option.bind_eq_some_iff.1 hm
  refine V_call Tryz.call24 rfl rfl rfl rfl (staff_lowest_c (Dw := False) w645 hA x21.2.1.num v85 h87 x21.1.den v89 h91 hx996) ?_
  rintro _ w1001 ⟨v997, v999, rfl, h998, h1000, hk1002⟩
  have ht1003 := Kp.tr (Dw := False) hk1002 hA hB
  replace hH := Hp.kp (Dw := False) hH hk1002
  replace h642 := Sl.tr (Dw := False) h642 ht1003
  replace h644 := Sl.tr (Dw := False) h644 ht1003
  replace hK := Tr.trans (Dw := False) hK ht1003
  replace hB := Nat.le_trans hB ht1003.ex.size
  replace hA := ht1003.new
  refine V_CHZ2 (Dw := False) (hk1002) ?_
  refine CHZ2_nil (Dw := False) rfl rfl ?_ ?_
  ·refine V_allocHk (Dw := False) (B := w.heap.size) hH Tryz.zeroValue35 hB hA rfl ?_
   intro b1004 w1005 A1006 hk1009 hH1007 ht1008
   replace h642 := Sl.tr (Dw := False) h642 ht1008
   replace h644 := Sl.tr (Dw := False) h644 ht1008
   replace h998 := Sl.tr (Dw := False) h998 ht1008
   replace h1000 := Sl.tr (Dw := False) h1000 ht1008
   replace hK := Tr.trans (Dw := False) hK ht1008
   replace hB := Nat.le_trans hB ht1008.ex.size
   replace hA := ht1008.new
   replace hH : Hp w.heap.size A1006 w1005 (obC b1004 [.slice none 0 0, .slice none 0 0] 35 :: obC b14 [.string ByteArray.empty, .string ByteArray.empty] 23 :: []) := hH1007
   refine V_CHZ (Dw := False) (hk1009) ?_
   refine CHZ_nil (Dw := False) ?_
   refine CH_l1 (Dw := False) (k := 0) rfl ?_
   refine V_allocHk (Dw := False) (B := w.heap.size) hH Tryz.zeroValue35 hB hA rfl ?_
   intro b1010 w1011 A1012 hk1015 hH1013 ht1014
   replace h642 := Sl.tr (Dw := False) h642 ht1014
   replace h644 := Sl.tr (Dw := False) h644 ht1014
   replace h998 := Sl.tr (Dw := False) h998 ht1014
   replace h1000 := Sl.tr (Dw := False) h1000 ht1014
   replace hK := Tr.trans (Dw := False) hK ht1014
   replace hB := Nat.le_trans hB ht1014.ex.size
   replace hA := ht1014.new
   replace hH : Hp w.heap.size A1012 w1011 (obC b1010 [.slice none 0 0, .slice none 0 0] 35 :: obC b1004 [.slice none 0 0, .slice none 0 0] 35 :: obC b14 [.string ByteArray.empty, .string ByteArray.empty] 23 :: []) := hH1013
   refine V_CH (Dw := False) (hk1015) ?_
   refine CH_l1 (Dw := False) (k := 2) rfl ?_
   have h1021 : (v641).oneCell' = true := by obtain ⟨_, _, e, _⟩ := Sl.form h642; rw [e]; rfl
   have h1024 : (v643).oneCell' = true := by obtain ⟨_, _, e, _⟩ := Sl.form h644; rw [e]; rfl
   refine V_storeC (Dw := False) (off := 0) (ds := [v641, v643]) hH (i := 1) rfl Tryz.sizeOf35 rfl (Nat.le_of_ble_eq_true rfl) (by exact (List.forall_mem_cons.2 ⟨h1021, (List.forall_mem_cons.2 ⟨h1024, (fun _ h => nomatch h)⟩)⟩)) rfl hB hA rfl rfl ?_
   intro w1016 hH1017 ht1018
   replace h642 := Sl.tr (Dw := False) h642 ht1018
   replace h644 := Sl.tr (Dw := False) h644 ht1018
   replace h998 := Sl.tr (Dw := False) h998 ht1018
   replace h1000 := Sl.tr (Dw := False) h1000 ht1018
   replace hK := Tr.trans (Dw := False) hK ht1018
   replace hB := Nat.le_trans hB ht1018.ex.size
   replace hA := ht1018.new
   replace hH : Hp w.heap.size A1012 w1016 (obC b1010 [.slice none 0 0, .slice none 0 0] 35 :: obC b1004 [v641, v643] 35 :: obC b14 [.string ByteArray.empty, .string ByteArray.empty] 23 :: []) := hH1017
   obtain ⟨A1025, ht1026, h1027, hH1028⟩ := Hp.freezeC (Dw := False) (α := staff_ratio) (x := x640) hH (i := 1) rfl hA (by exact ⟨[v641], _, rfl, ⟨_, rfl, h642⟩, ⟨_, rfl, h644⟩⟩)
   replace h998 := Sl.tr (Dw := False) h998 ht1026
   replace h1000 := Sl.tr (Dw := False) h1000 ht1026
   replace hK := Tr.trans (Dw := False) hK ht1026
   replace hB := Nat.le_trans hB ht1026.ex.size
   replace hA := ht1026.new
   replace hH : Hp w.heap.size A1025 w1016 (obC b1010 [.slice none 0 0, .slice none 0 0] 35 :: obC b14 [.string ByteArray.empty, .string ByteArray.empty] 23 :: []) := hH1028
   refine V_CHw (Dw := False) ?_
   refine CH_l1 (Dw := False) (k := 2) rfl ?_
   have h1034 : (v997).oneCell' = true := by obtain ⟨_, _, e, _⟩ := Sl.form h998; rw [e]; rfl
   have h1037 : (v999).oneCell' = true := by obtain ⟨_, _, e, _⟩ := Sl.form h1000; rw [e]; rfl
   refine V_storeC (Dw := False) (off := 0) (ds := [v997, v999]) hH (i := 0) rfl Tryz.sizeOf35 rfl (Nat.le_of_ble_eq_true rfl) (by exact (List.forall_mem_cons.2 ⟨h1034, (List.forall_mem_cons.2 ⟨h1037, (fun _ h => nomatch h)⟩)⟩)) rfl hB hA rfl rfl ?_
   intro w1029 hH1030 ht1031
   replace h998 := Sl.tr (Dw := False) h998 ht1031
   replace h1000 := Sl.tr (Dw := False) h1000 ht1031
   replace h1027 := El.tr (Dw := False) h1027 ht1031
   replace hK := Tr.trans (Dw := False) hK ht1031
   replace hB := Nat.le_trans hB ht1031.ex.size
   replace hA := ht1031.new
   replace hH : Hp w.heap.size A1025 w1029 (obC b1010 [v997, v999] 35 :: obC b14 [.string ByteArray.empty, .string ByteArray.empty] 23 :: []) := hH1030
   obtain ⟨A1038, ht1039, h1040, hH1041⟩ := Hp.freezeC (Dw := False) (α := staff_ratio) (x := x996) hH (i := 0) rfl hA (by exact ⟨[v997], _, rfl, ⟨_, rfl, h998⟩, ⟨_, rfl, h1000⟩⟩)
   replace h1027 := El.tr (Dw := False) h1027 ht1039
   replace hK := Tr.trans (Dw := False) hK ht1039
   replace hB := Nat.le_trans hB ht1039.ex.size
   replace hA := ht1039.new
   replace hH : Hp w.heap.size A1038 w1029 (obC b14 [.string ByteArray.empty, .string ByteArray.empty] 23 :: []) := hH1041
   refine V_CHw (Dw := False) ?_
   refine CH_tail (Dw := False) ?_
   show V _ _ _ _ [] _ _
   refine V_to (fun _ _ => rfl) ?_
   refine C_seq ?_
   refine C_region_ch (Dw := False) A1038 16 [(1, 0), (1, 1), (1, 2), (1, 3), (1, 5), (1, 6), (1, 7), (1, 8), (2, 4), (2, 9), (1, 10), (2, 11), (1, 12), (1, 13), (4, 14), (1, 15)] Tryz_mixed (by kernel_rfl) (fun w1042 hk1043 => ?_)
   have ht1044 := Kp.tr (Dw := False) hk1043 hA hB
   replace hH := Hp.kp (Dw := False) hH hk1043
   replace h1027 := El.tr (Dw := False) h1027 ht1044
   replace h1040 := El.tr (Dw := False) h1040 ht1044
   replace hK := Tr.trans (Dw := False) hK ht1044
   replace hB := Nat.le_trans hB ht1044.ex.size
   replace hA := ht1044.new
   refine CH_q2 (Dw := False) rfl ?_
   have h1045 := El_staff_ratio_0 h1027
   refine VQ_y (fun w' hw' => Y_fieldAddr Tryz.underlying35 rfl Tryz.sizeOf33 (by decide) rfl) rfl rfl rfl ?_
   refine VQ_CH (Dw := False) ?_
   refine CH_q2 (Dw := False) rfl ?_
   obtain ⟨v1046, h1047, h1048⟩ := El.list h1045
   refine VQ_y (fun w' hw' => Y_load ((World.cell?_of_block (hw'.2 _ h1045.2.1 h1045.1)).trans h1047) Tryz.isAgg33 rfl) rfl rfl rfl ?_
   refine VQ_CH (Dw := False) ?_
   refine CH_q2 (Dw := False) rfl ?_
   have h1049 := El_staff_ratio_0 h1040
   refine VQ_y (fun w' hw' => Y_fieldAddr Tryz.underlying35 rfl Tryz.sizeOf33 (by decide) rfl) rfl rfl rfl ?_
   refine VQ_CH (Dw := False) ?_
   refine CH_q2 (Dw := False) rfl ?_
   obtain ⟨v1050, h1051, h1052⟩ := El.list h1049
   refine VQ_y (fun w' hw' => Y_load ((World.cell?_of_block (hw'.2 _ h1049.2.1 h1049.1)).trans h1051) Tryz.isAgg33 rfl) rfl rfl rfl ?_
   refine VQ_CH (Dw := False) ?_
   refine CH_q2 (Dw := False) rfl ?_
   have h1053 := El_staff_ratio_1 h1027
   refine VQ_y (fun w' hw' => Y_fieldAddr Tryz.underlying35 rfl Tryz.sizeOf33 (by decide) rfl) rfl rfl rfl ?_
   refine VQ_CH (Dw := False) ?_
   refine CH_q2 (Dw := False) rfl ?_
   obtain ⟨v1054, h1055, h1056⟩ := El.list h1053
   refine VQ_y (fun w' hw' => Y_load ((World.cell?_of_block (hw'.2 _ h1053.2.1 h1053.1)).trans h1055) Tryz.isAgg33 rfl) rfl rfl rfl ?_
   refine VQ_CH (Dw := False) ?_
   refine CH_q2 (Dw := False) rfl ?_
   have h1057 := El_staff_ratio_1 h1040
   refine VQ_y (fun w' hw' => Y_fieldAddr Tryz.underlying35 rfl Tryz.sizeOf33 (by decide) rfl) rfl rfl rfl ?_
   refine VQ_CH (Dw := False) ?_
   refine CH_q2 (Dw := False) rfl ?_
   obtain ⟨v1058, h1059, h1060⟩ := El.list h1057
   refine VQ_y (fun w' hw' => Y_load ((World.cell?_of_block (hw'.2 _ h1057.2.1 h1057.1)).trans h1059) Tryz.isAgg33 rfl) rfl rfl rfl ?_
   refine VQ_CH (Dw := False) ?_
   refine CH_l1 (Dw := False) (k := 0) rfl ?_
   obtain ⟨x1061, hx1061, hm⟩ := Option.bind_eq_some_iff.1 hm
   refine V_call Tryz.call18 rfl rfl rfl rfl (staff_nat_times_c (Dw := False) w1042 hA x640.num v1046 h1048 x996.num v1050 h1052 hx1061) ?_
   rintro v1062 w1064 ⟨_, rfl, h1063, hk1065⟩
   have ht1066 := Kp.tr (Dw := False) hk1065 hA hB
   replace hH := Hp.kp (Dw := False) hH hk1065
   replace h1056 := Sl.tr (Dw := False) h1056 ht1066
   replace h1060 := Sl.tr (Dw := False) h1060 ht1066
   replace hK := Tr.trans (Dw := False) hK ht1066
   replace hB := Nat.le_trans hB ht1066.ex.size
   replace hA := ht1066.new
   refine V_CH (Dw := False) (hk1065) ?_
   refine CH_l1 (Dw := False) (k := 0) rfl ?_
   obtain ⟨x1067, hx1067, hm⟩ := Option.bind_eq_some_iff.1 hm
   refine V_call Tryz.call18 rfl rfl rfl rfl (staff_nat_times_c (Dw := False) w1064 hA x640.den v1054 h1056 x996.den v1058 h1060 hx1067) ?_
   rintro v1068 w1070 ⟨_, rfl, h1069, hk1071⟩
   have ht1072 := Kp.tr (Dw := False) hk1071 hA hB
   replace hH := Hp.kp (Dw := False) hH hk1071
   replace h1063 := Sl.tr (Dw := False) h1063 ht1072
   replace hK := Tr.trans (Dw := False) hK ht1072
   replace hB := Nat.le_trans hB ht1072.ex.size
   replace hA := ht1072.new
   refine V_CH (Dw := False) (hk1071) ?_
   refine CH_q2 (Dw := False) rfl ?_
   refine VQ_y (fun w' hw' => Y_build (cells := #[v1062, v1068]) Tryz.underlying35 Tryz.zeroValue35 (Tryz_places35 _ Tryz.underlying35) rfl (by obtain ⟨a1073, c1074, e1075, _⟩ := Sl.form h1063; subst e1075; obtain ⟨a1076, c1077, e1078, _⟩ := Sl.form h1069; subst e1078; with_unfolding_all rfl)) rfl rfl rfl ?_
   refine VQ_CH (Dw := False) ?_
   refine CH_l1 (Dw := False) (k := 0) rfl ?_
   obtain ⟨x1079, hx1079, hm⟩ := Option.bind_eq_some_iff.1 hm
   refine V_call Tryz.call20 rfl rfl rfl rfl (staff_limited_c w1070 hA (Fz.tr (Dw := False) hT hK) (⟨x1061, x1067⟩ : staff_ratio) v1062 h1063 v1068 h1069 hx1079) ?_
   rintro _ w1080 ⟨rfl, hk1081⟩
   have ht1082 := Kp.tr (Dw := False) hk1081 hA hB
   replace hH := Hp.kp (Dw := False) hH hk1081
   replace hK := Tr.trans (Dw := False) hK ht1082
   replace hB := Nat.le_trans hB ht1082.ex.size
   replace hA := ht1082.new
   refine V_CH (Dw := False) (hk1081) ?_
   refine CH_q2 (Dw := False) rfl ?_
   refine VQ_y (fun w' hw' => Y_extract rfl rfl) rfl rfl rfl ?_
   refine VQ_CH (Dw := False) ?_
   refine CH_q2 (Dw := False) rfl ?_
   refine VQ_y (fun w' hw' => Y_extract rfl rfl) rfl rfl rfl ?_
   refine VQ_CH (Dw := False) ?_
   refine CH_l1 (Dw := False) (k := 2) rfl ?_
   refine V_storeC (Dw := False) (off := 0) (ds := [.string x1079.1.num, .string x1079.1.den]) hH (i := 0) rfl Tryz.sizeOf23 rfl (Nat.le_of_ble_eq_true rfl) (by simp [Value.cells, Value.oneCell']) rfl hB hA rfl rfl ?_
   intro w1083 hH1084 ht1085
   replace hK := Tr.trans (Dw := False) hK ht1085
   replace hH : Hp w.heap.size A1038 w1083 (obC b14 [.string x1079.1.num, .string x1079.1.den] 23 :: []) := hH1084
   refine V_CHw (Dw := False) ?_
   refine CH_q2 (Dw := False) rfl ?_
   refine VQ_y (fun w' hw' => Y_assign rfl) rfl rfl rfl ?_
   refine VQ_CH (Dw := False) ?_
   refine CH_tail (Dw := False) ?_
   show V _ _ _ _ [] _ _
   refine V_to (fun _ _ => rfl) ?_
   obtain rfl := Option.some.inj hm
   refine C_ret ?_
   try simp only [↓inBlock_ret, ↓then_ret]
   exact retQ rfl (Res.l2 Tryz.results8 (RL.cell rfl (loadVar_agg (Hp.part (off := 0) (n := 2) (ds := [.string x1079.1.num, .string x1079.1.den]) hH (i := 0) rfl rfl) Tryz.isAgg23 Tryz.sizeOf23)) (RL.tmp rfl)) ⟨rfl, hK.kp⟩
  ·refine V_allocHk (Dw := False) (B := w.heap.size) hH Tryz.zeroValue35 hB hA rfl ?_
   intro b1086 w1087 A1088 hk1091 hH1089 ht1090
   replace h642 := Sl.tr (Dw := False) h642 ht1090
   replace h644 := Sl.tr (Dw := False) h644 ht1090
   replace h998 := Sl.tr (Dw := False) h998 ht1090
   replace h1000 := Sl.tr (Dw := False) h1000 ht1090
   replace hK := Tr.trans (Dw := False) hK ht1090
   replace hB := Nat.le_trans hB ht1090.ex.size
   replace hA := ht1090.new
   replace hH : Hp w.heap.size A1088 w1087 (obC b1086 [.slice none 0 0, .slice none 0 0] 35 :: obC b14 [.string ByteArray.empty, .string ByteArray.empty] 23 :: []) := hH1089
   refine V_CHZ (Dw := False) (hk1091) ?_
   refine CHZ_nil (Dw := False) ?_
   refine CH_l1 (Dw := False) (k := 0) rfl ?_
   refine V_allocHk (Dw := False) (B := w.heap.size) hH Tryz.zeroValue35 hB hA rfl ?_
   intro b1092 w1093 A1094 hk1097 hH1095 ht1096
   replace h642 := Sl.tr (Dw := False) h642 ht1096
   replace h644 := Sl.tr (Dw := False) h644 ht1096
   replace h998 := Sl.tr (Dw := False) h998 ht1096
   replace h1000 := Sl.tr (Dw := False) h1000 ht1096
   replace hK := Tr.trans (Dw := False) hK ht1096
   replace hB := Nat.le_trans hB ht1096.ex.size
   replace hA := ht1096.new
   replace hH : Hp w.heap.size A1094 w1093 (obC b1092 [.slice none 0 0, .slice none 0 0] 35 :: obC b1086 [.slice none 0 0, .slice none 0 0] 35 :: obC b14 [.string ByteArray.empty, .string ByteArray.empty] 23 :: []) := hH1095
   refine V_CH (Dw := False) (hk1097) ?_
   refine CH_l1 (Dw := False) (k := 2) rfl ?_
   have h1103 : (v641).oneCell' = true := by obtain ⟨_, _, e, _⟩ := Sl.form h642; rw [e]; rfl
   have h1106 : (v643).oneCell' = true := by obtain ⟨_, _, e, _⟩ := Sl.form h644; rw [e]; rfl
   refine V_storeC (Dw := False) (off := 0) (ds := [v641, v643]) hH (i := 0) rfl Tryz.sizeOf35 rfl (Nat.le_of_ble_eq_true rfl) (by exact (List.forall_mem_cons.2 ⟨h1103, (List.forall_mem_cons.2 ⟨h1106, (fun _ h => nomatch h)⟩)⟩)) rfl hB hA rfl rfl ?_
   intro w1098 hH1099 ht1100
   replace h642 := Sl.tr (Dw := False) h642 ht1100
   replace h644 := Sl.tr (Dw := False) h644 ht1100
   replace h998 := Sl.tr (Dw := False) h998 ht1100
   replace h1000 := Sl.tr (Dw := False) h1000 ht1100
   replace hK := Tr.trans (Dw := False) hK ht1100
   replace hB := Nat.le_trans hB ht1100.ex.size
   replace hA := ht1100.new
   replace hH : Hp w.heap.size A1094 w1098 (obC b1092 [v641, v643] 35 :: obC b1086 [.slice none 0 0, .slice none 0 0] 35 :: obC b14 [.string ByteArray.empty, .string ByteArray.empty] 23 :: []) := hH1099
   obtain ⟨A1107, ht1108, h1109, hH1110⟩ := Hp.freezeC (Dw := False) (α := staff_ratio) (x := x640) hH (i := 0) rfl hA (by exact ⟨[v641], _, rfl, ⟨_, rfl, h642⟩, ⟨_, rfl, h644⟩⟩)
   replace h998 := Sl.tr (Dw := False) h998 ht1108
   replace h1000 := Sl.tr (Dw := False) h1000 ht1108
   replace hK := Tr.trans (Dw := False) hK ht1108
   replace hB := Nat.le_trans hB ht1108.ex.size
   replace hA := ht1108.new
   replace hH : Hp w.heap.size A1107 w1098 (obC b1086 [.slice none 0 0, .slice none 0 0] 35 :: obC b14 [.string ByteArray.empty, .string ByteArray.empty] 23 :: []) := hH1110
   refine V_CHw (Dw := False) ?_
   refine CH_l1 (Dw := False) (k := 2) rfl ?_
   have h1116 : (v997).oneCell' = true := by obtain ⟨_, _, e, _⟩ := Sl.form h998; rw [e]; rfl
   have h1119 : (v999).oneCell' = true := by obtain ⟨_, _, e, _⟩ := Sl.form h1000; rw [e]; rfl
   refine V_storeC (Dw := False) (off := 0) (ds := [v997, v999]) hH (i := 0) rfl Tryz.sizeOf35 rfl (Nat.le_of_ble_eq_true rfl) (by exact (List.forall_mem_cons.2 ⟨h1116, (List.forall_mem_cons.2 ⟨h1119, (fun _ h => nomatch h)⟩)⟩)) rfl hB hA rfl rfl ?_
   intro w1111 hH1112 ht1113
   replace h998 := Sl.tr (Dw := False) h998 ht1113
   replace h1000 := Sl.tr (Dw := False) h1000 ht1113
   replace h1109 := El.tr (Dw := False) h1109 ht1113
   replace hK := Tr.trans (Dw := False) hK ht1113
   replace hB := Nat.le_trans hB ht1113.ex.size
   replace hA := ht1113.new
   replace hH : Hp w.heap.size A1107 w1111 (obC b1086 [v997, v999] 35 :: obC b14 [.string ByteArray.empty, .string ByteArray.empty] 23 :: []) := hH1112
   obtain ⟨A1120, ht1121, h1122, hH1123⟩ := Hp.freezeC (Dw := False) (α := staff_ratio) (x := x996) hH (i := 0) rfl hA (by exact ⟨[v997], _, rfl, ⟨_, rfl, h998⟩, ⟨_, rfl, h1000⟩⟩)
   replace h1109 := El.tr (Dw := False) h1109 ht1121
   replace hK := Tr.trans (Dw := False) hK ht1121
   replace hB := Nat.le_trans hB ht1121.ex.size
   replace hA := ht1121.new
   replace hH : Hp w.heap.size A1120 w1111 (obC b14 [.string ByteArray.empty, .string ByteArray.empty] 23 :: []) := hH1123
   refine V_CHw (Dw := False) ?_
   refine CH_tail (Dw := False) ?_
   show V _ _ _ _ [] _ _
   refine V_to (fun _ _ => rfl) ?_
   refine C_seq ?_
   refine C_region_ch (Dw := False) A1120 16 [(1, 0), (1, 1), (1, 2), (1, 3), (1, 5), (1, 6), (1, 7), (1, 8), (2, 4), (2, 9), (1, 10), (2, 11), (1, 12), (1, 13), (4, 14), (1, 15)] Tryz_mixed (by kernel_rfl) (fun w1124 hk1125 => ?_)
   have ht1126 := Kp.tr (Dw := False) hk1125 hA hB
   replace hH := Hp.kp (Dw := False) hH hk1125
   replace h1122 := El.tr (Dw := False) h1122 ht1126
   replace h1109 := El.tr (Dw := False) h1109 ht1126
   replace hK := Tr.trans (Dw := False) hK ht1126
   replace hB := Nat.le_trans hB ht1126.ex.size
   replace hA := ht1126.new
   refine CH_q2 (Dw := False) rfl ?_
   have h1127 := El_staff_ratio_0 h1109
   refine VQ_y (fun w' hw' => Y_fieldAddr Tryz.underlying35 rfl Tryz.sizeOf33 (by decide) rfl) rfl rfl rfl ?_
   refine VQ_CH (Dw := False) ?_
   refine CH_q2 (Dw := False) rfl ?_
   obtain ⟨v1128, h1129, h1130⟩ := El.list h1127
   refine VQ_y (fun w' hw' => Y_load ((World.cell?_of_block (hw'.2 _ h1127.2.1 h1127.1)).trans h1129) Tryz.isAgg33 rfl) rfl rfl rfl ?_
   refine VQ_CH (Dw := False) ?_
   refine CH_q2 (Dw := False) rfl ?_
   have h1131 := El_staff_ratio_0 h1122
   refine VQ_y (fun w' hw' => Y_fieldAddr Tryz.underlying35 rfl Tryz.sizeOf33 (by decide) rfl) rfl rfl rfl ?_
   refine VQ_CH (Dw := False) ?_
   refine CH_q2 (Dw := False) rfl ?_
   obtain ⟨v1132, h1133, h1134⟩ := El.list h1131
   refine VQ_y (fun w' hw' => Y_load ((World.cell?_of_block (hw'.2 _ h1131.2.1 h1131.1)).trans h1133) Tryz.isAgg33 rfl) rfl rfl rfl ?_
   refine VQ_CH (Dw := False) ?_
   refine CH_q2 (Dw := False) rfl ?_
   have h1135 := El_staff_ratio_1 h1109
   refine VQ_y (fun w' hw' => Y_fieldAddr Tryz.underlying35 rfl Tryz.sizeOf33 (by decide) rfl) rfl rfl rfl ?_
   refine VQ_CH (Dw := False) ?_
   refine CH_q2 (Dw := False) rfl ?_
   obtain ⟨v1136, h1137, h1138⟩ := El.list h1135
   refine VQ_y (fun w' hw' => Y_load ((World.cell?_of_block (hw'.2 _ h1135.2.1 h1135.1)).trans h1137) Tryz.isAgg33 rfl) rfl rfl rfl ?_
   refine VQ_CH (Dw := False) ?_
   refine CH_q2 (Dw := False) rfl ?_
   have h1139 := El_staff_ratio_1 h1122
   refine VQ_y (fun w' hw' => Y_fieldAddr Tryz.underlying35 rfl Tryz.sizeOf33 (by decide) rfl) rfl rfl rfl ?_
   refine VQ_CH (Dw := False) ?_
   refine CH_q2 (Dw := False) rfl ?_
   obtain ⟨v1140, h1141, h1142⟩ := El.list h1139
   refine VQ_y (fun w' hw' => Y_load ((World.cell?_of_block (hw'.2 _ h1139.2.1 h1139.1)).trans h1141) Tryz.isAgg33 rfl) rfl rfl rfl ?_
   refine VQ_CH (Dw := False) ?_
   refine CH_l1 (Dw := False) (k := 0) rfl ?_
   obtain ⟨x1143, hx1143, hm⟩ := Option.bind_eq_some_iff.1 hm
   refine V_call Tryz.call18 rfl rfl rfl rfl (staff_nat_times_c (Dw := False) w1124 hA x640.num v1128 h1130 x996.num v1132 h1134 hx1143) ?_
   rintro v1144 w1146 ⟨_, rfl, h1145, hk1147⟩
   have ht1148 := Kp.tr (Dw := False) hk1147 hA hB
   replace hH := Hp.kp (Dw := False) hH hk1147
   replace h1138 := Sl.tr (Dw := False) h1138 ht1148
   replace h1142 := Sl.tr (Dw := False) h1142 ht1148
   replace hK := Tr.trans (Dw := False) hK ht1148
   replace hB := Nat.le_trans hB ht1148.ex.size
   replace hA := ht1148.new
   refine V_CH (Dw := False) (hk1147) ?_
   refine CH_l1 (Dw := False) (k := 0) rfl ?_
   obtain ⟨x1149, hx1149, hm⟩ := Option.bind_eq_some_iff.1 hm
   refine V_call Tryz.call18 rfl rfl rfl rfl (staff_nat_times_c (Dw := False) w1146 hA x640.den v1136 h1138 x996.den v1140 h1142 hx1149) ?_
   rintro v1150 w1152 ⟨_, rfl, h1151, hk1153⟩
   have ht1154 := Kp.tr (Dw := False) hk1153 hA hB
   replace hH := Hp.kp (Dw := False) hH hk1153
   replace h1145 := Sl.tr (Dw := False) h1145 ht1154
   replace hK := Tr.trans (Dw := False) hK ht1154
   replace hB := Nat.le_trans hB ht1154.ex.size
   replace hA := ht1154.new
   refine V_CH (Dw := False) (hk1153) ?_
   refine CH_q2 (Dw := False) rfl ?_
   refine VQ_y (fun w' hw' => Y_build (cells := #[v1144, v1150]) Tryz.underlying35 Tryz.zeroValue35 (Tryz_places35 _ Tryz.underlying35) rfl (by obtain ⟨a1155, c1156, e1157, _⟩ := Sl.form h1145; subst e1157; obtain ⟨a1158, c1159, e1160, _⟩ := Sl.form h1151; subst e1160; with_unfolding_all rfl)) rfl rfl rfl ?_
   refine VQ_CH (Dw := False) ?_
   refine CH_l1 (Dw := False) (k := 0) rfl ?_
   obtain ⟨x1161, hx1161, hm⟩ := Option.bind_eq_some_iff.1 hm
   refine V_call Tryz.call20 rfl rfl rfl rfl (staff_limited_c w1152 hA (Fz.tr (Dw := False) hT hK) (⟨x1143, x1149⟩ : staff_ratio) v1144 h1145 v1150 h1151 hx1161) ?_
   rintro _ w1162 ⟨rfl, hk1163⟩
   have ht1164 := Kp.tr (Dw := False) hk1163 hA hB
   replace hH := Hp.kp (Dw := False) hH hk1163
   replace hK := Tr.trans (Dw := False) hK ht1164
   replace hB := Nat.le_trans hB ht1164.ex.size
   replace hA := ht1164.new
   refine V_CH (Dw := False) (hk1163) ?_
   refine CH_q2 (Dw := False) rfl ?_
   refine VQ_y (fun w' hw' => Y_extract rfl rfl) rfl rfl rfl ?_
   refine VQ_CH (Dw := False) ?_
   refine CH_q2 (Dw := False) rfl ?_
   refine VQ_y (fun w' hw' => Y_extract rfl rfl) rfl rfl rfl ?_
   refine VQ_CH (Dw := False) ?_
   refine CH_l1 (Dw := False) (k := 2) rfl ?_
   refine V_storeC (Dw := False) (off := 0) (ds := [.string x1161.1.num, .string x1161.1.den]) hH (i := 0) rfl Tryz.sizeOf23 rfl (Nat.le_of_ble_eq_true rfl) (by simp [Value.cells, Value.oneCell']) rfl hB hA rfl rfl ?_
   intro w1165 hH1166 ht1167
   replace hK := Tr.trans (Dw := False) hK ht1167
   replace hH : Hp w.heap.size A1120 w1165 (obC b14 [.string x1161.1.num, .string x1161.1.den] 23 :: []) := hH1166
   refine V_CHw (Dw := False) ?_
   refine CH_q2 (Dw := False) rfl ?_
   refine VQ_y (fun w' hw' => Y_assign rfl) rfl rfl rfl ?_
   refine VQ_CH (Dw := False) ?_
   refine CH_tail (Dw := False) ?_
   show V _ _ _ _ [] _ _
   refine V_to (fun _ _ => rfl) ?_
   obtain rfl := Option.some.inj hm
   refine C_ret ?_
   try simp only [↓inBlock_ret, ↓then_ret]
   exact retQ rfl (Res.l2 Tryz.results8 (RL.cell rfl (loadVar_agg (Hp.part (off := 0) (n := 2) (ds := [.string x1161.1.num, .string x1161.1.den]) hH (i := 0) rfl rfl) Tryz.isAgg23 Tryz.sizeOf23)) (RL.tmp rfl)) ⟨rfl, hK.kp⟩

end Go.Proofs.YtnnbhehaplphiaaGreatDoor.W
