/-
  Written by program (gen.py) from the IR of the dump: each function computes its model.
-/
import Derived.Test.YtnnbhehaplphiaaGreatDoorRatioSumsW5
namespace Go.Proofs.YtnnbhehaplphiaaGreatDoor.W
open Go Go.RowKit Go.Pu Go.Gw Go.Proofs Go.Proofs.YtnnbhehaplphiaaGreatDoor.M
set_option linter.unusedVariables false
set_option linter.unusedSimpArgs false
variable {Dw : Prop}

set_option maxRecDepth 4000 in
set_option maxHeartbeats 4000000 in
theorem staff_CheckRatio_c (w : World) {A : Nat → Prop} (hA : ∀ b, w.heap.size ≤ b → A b) (hT : Fz Tryz_FR A w) (r_ : staff_Ratio) {r : Int} (hm : staff_CheckRatio r_ = some r) : Ret Tryz.prog 9 #[.agg #[.string r_.num, .string r_.den]] w fun v w' => v = .int .i64 r ∧ Kp False w w' := by
 unfold staff_CheckRatio at hm
 refine enter Tryz.func9 rfl Tryz.ntmps9 rfl ?_
 have hA0 := hA
 have hB := Nat.le_refl w.heap.size
 have hK : Tr False w.heap.size A w A w := Tr.refl (Dw := False) hA
 have hH : Hp w.heap.size A w [] := Hp.nil
 refine C_seq ?_
 refine C_region ?_
 refine V_box rfl rfl ?_
 intro b1 w2 h3
 have hk5 := h3.kp (Dw := False)
 have h4 : El (α := staff_Ratio) A w2 b1 0 r_ := h3.el hA ⟨[.string r_.num], _, rfl, rfl, rfl⟩
 have ht6 := Kp.tr (Dw := False) hk5 hA hB
 replace hK := Tr.trans (Dw := False) hK ht6
 replace hB := Nat.le_trans hB ht6.ex.size
 replace hA := ht6.new
 refine V_as rfl rfl ?_
 refine V_to (fun _ _ => rfl) ?_
 refine C_seq ?_
 refine C_region ?_
 obtain ⟨h7, _⟩ := El_staff_Ratio h4
 refine V_y (Y_loadA h7 Tryz.isAgg23 Tryz.sizeOf23 rfl) rfl rfl rfl ?_
 obtain ⟨x8, hx8, hm⟩ := Option.bind_eq_some_iff.1 hm
 refine V_call Tryz.call25 rfl rfl rfl rfl (staff_read_c w2 hA (Fz.tr (Dw := False) hT hK) r_ hx8) ?_
 rintro _ w13 ⟨v9, v11, rfl, h10, h12, hk14⟩
 have ht15 := Kp.tr (Dw := False) hk14 hA hB
 replace hK := Tr.trans (Dw := False) hK ht15
 replace hB := Nat.le_trans hB ht15.ex.size
 replace hA := ht15.new
 refine V_mv rfl rfl ?_
 refine V_y (Y_extract rfl rfl) rfl rfl rfl ?_
 refine V_y (Y_extract rfl rfl) rfl rfl rfl ?_
 refine V_alloc Tryz.zeroValue35 rfl ?_
 intro b16 w17 h18
 have h23 : (v9).oneCell' = true := by obtain ⟨_, _, e, _⟩ := Sl.form h10; rw [e]; rfl
 have h26 : (v11).oneCell' = true := by obtain ⟨_, _, e, _⟩ := Sl.form h12; rw [e]; rfl
 refine V_storeNew h18 Tryz.sizeOf35 rfl rfl rfl rfl (by exact (List.forall_mem_cons.2 ⟨h23, (List.forall_mem_cons.2 ⟨h26, (fun _ h => nomatch h)⟩)⟩)) ?_
 intro w19 h20
 have hk28 := h20.kp (Dw := False)
 have h27 : El (α := staff_ratio) A w19 b16 0 x8.1 := h20.el hA ⟨[v9], _, rfl, ⟨_, rfl, h10⟩, ⟨_, rfl, h12⟩⟩
 have ht29 := Kp.tr (Dw := False) hk28 hA hB
 replace hK := Tr.trans (Dw := False) hK ht29
 refine V_as rfl rfl ?_
 refine V_to (fun _ _ => rfl) ?_
 refine C_seq ?_
 refine C_region ?_
 refine V_mv rfl rfl ?_
 refine V_as rfl rfl ?_
 refine V_to (fun _ _ => rfl) ?_
 obtain rfl := Option.some.inj hm
 refine C_ret ?_
 try simp only [↓inBlock_ret, ↓then_ret]
 exact retQ rfl (Res.one Tryz.results9 rfl) ⟨rfl, hK.kp⟩

set_option maxRecDepth 4000 in
set_option maxHeartbeats 4000000 in
theorem portlaw2_RatioSums_c (w : World) {A : Nat → Prop} (hA : ∀ b, w.heap.size ≤ b → A b) (hT : Fz Tryz_FR A w) (a_ : staff_Ratio) (b : staff_Ratio) {r : Bool} (hm : portlaw2_RatioSums a_ b = some r) : Ret Tryz.prog 3 #[.agg #[.string a_.num, .string a_.den], .agg #[.string b.num, .string b.den]] w fun v w' => v = .bool r ∧ Kp False w w' := by
 unfold portlaw2_RatioSums at hm
 refine enter Tryz.func3 rfl Tryz.ntmps3 rfl ?_
 have hA0 := hA
 have hB := Nat.le_refl w.heap.size
 have hK : Tr False w.heap.size A w A w := Tr.refl (Dw := False) hA
 have hH : Hp w.heap.size A w [] := Hp.nil
 refine C_seq ?_
 refine C_region ?_
 refine V_box rfl rfl ?_
 intro b1 w2 h3
 have hk5 := h3.kp (Dw := False)
 have h4 : El (α := staff_Ratio) A w2 b1 0 a_ := h3.el hA ⟨[.string a_.num], _, rfl, rfl, rfl⟩
 have ht6 := Kp.tr (Dw := False) hk5 hA hB
 replace hK := Tr.trans (Dw := False) hK ht6
 replace hB := Nat.le_trans hB ht6.ex.size
 replace hA := ht6.new
 refine V_box rfl rfl ?_
 intro b7 w9 h10
 have hk12 := h10.kp (Dw := False)
 have h11 : El (α := staff_Ratio) A w9 b7 0 b := h10.el hA ⟨[.string b.num], _, rfl, rfl, rfl⟩
 have ht13 := Kp.tr (Dw := False) hk12 hA hB
 replace h4 := El.tr (Dw := False) h4 ht13
 replace hK := Tr.trans (Dw := False) hK ht13
 replace hB := Nat.le_trans hB ht13.ex.size
 replace hA := ht13.new
 refine V_as rfl rfl ?_
 refine V_to (fun _ _ => rfl) ?_
 refine C_seq ?_
 refine C_region ?_
 obtain ⟨h14, _⟩ := El_staff_Ratio h4
 refine V_y (Y_loadA h14 Tryz.isAgg23 Tryz.sizeOf23 rfl) rfl rfl rfl ?_
 obtain ⟨h15, _⟩ := El_staff_Ratio h11
 refine V_y (Y_loadA h15 Tryz.isAgg23 Tryz.sizeOf23 rfl) rfl rfl rfl ?_
 obtain ⟨x16, hx16, hm⟩ := Option.bind_eq_some_iff.1 hm
 refine V_call Tryz.call4 rfl rfl rfl rfl (staff_Compare_c w9 hA (Fz.tr (Dw := False) hT hK) a_ b hx16) ?_
 rintro _ w17 ⟨rfl, hk18⟩
 have ht19 := Kp.tr (Dw := False) hk18 hA hB
 replace h4 := El.tr (Dw := False) h4 ht19
 replace h11 := El.tr (Dw := False) h11 ht19
 replace hK := Tr.trans (Dw := False) hK ht19
 replace hB := Nat.le_trans hB ht19.ex.size
 replace hA := ht19.new
 refine V_mv rfl rfl ?_
 refine V_y (Y_extract rfl rfl) rfl rfl rfl ?_
 refine V_y (Y_extract rfl rfl) rfl rfl rfl ?_
 refine V_as rfl rfl ?_
 refine V_as rfl rfl ?_
 refine V_to (fun _ _ => rfl) ?_
 refine C_seq ?_
 refine C_region ?_
 obtain ⟨h20, _⟩ := El_staff_Ratio h4
 refine V_y (Y_loadA h20 Tryz.isAgg23 Tryz.sizeOf23 rfl) rfl rfl rfl ?_
 obtain ⟨h21, _⟩ := El_staff_Ratio h11
 refine V_y (Y_loadA h21 Tryz.isAgg23 Tryz.sizeOf23 rfl) rfl rfl rfl ?_
 obtain ⟨x22, hx22, hm⟩ := Option.bind_eq_some_iff.1 hm
 refine V_call Tryz.call5 rfl rfl rfl rfl (portref2_CompareRatios_c w17 hA a_ b hx22) ?_
 rintro _ w23 ⟨rfl, hk24⟩
 have ht25 := Kp.tr (Dw := False) hk24 hA hB
 replace h4 := El.tr (Dw := False) h4 ht25
 replace h11 := El.tr (Dw := False) h11 ht25
 replace hK := Tr.trans (Dw := False) hK ht25
 replace hB := Nat.le_trans hB ht25.ex.size
 replace hA := ht25.new
 refine V_mv rfl rfl ?_
 refine V_y (Y_extract rfl rfl) rfl rfl rfl ?_
 refine V_y (Y_extract rfl rfl) rfl rfl rfl ?_
 refine V_as rfl rfl ?_
 refine V_as rfl rfl ?_
 refine V_to (fun _ _ => rfl) ?_
 refine C_seq ?_
 refine C_region ?_
 obtain ⟨h26, _⟩ := El_staff_Ratio h4
 refine V_y (Y_loadA h26 Tryz.isAgg23 Tryz.sizeOf23 rfl) rfl rfl rfl ?_
 obtain ⟨h27, _⟩ := El_staff_Ratio h11
 refine V_y (Y_loadA h27 Tryz.isAgg23 Tryz.sizeOf23 rfl) rfl rfl rfl ?_
 obtain ⟨x28, hx28, hm⟩ := Option.bind_eq_some_iff.1 hm
 refine V_call Tryz.call6 rfl rfl rfl rfl (staff_Plus_c w23 hA (Fz.tr (Dw := False) hT hK) a_ b hx28) ?_
 rintro _ w29 ⟨rfl, hk30⟩
 have ht31 := Kp.tr (Dw := False) hk30 hA hB
 replace h4 := El.tr (Dw := False) h4 ht31
 replace h11 := El.tr (Dw := False) h11 ht31
 replace hK := Tr.trans (Dw := False) hK ht31
 replace hB := Nat.le_trans hB ht31.ex.size
 replace hA := ht31.new
 refine V_mv rfl rfl ?_
 refine V_y (Y_extract rfl rfl) rfl rfl rfl ?_
 refine V_y (Y_extract rfl rfl) rfl rfl rfl ?_
 refine V_alloc Tryz.zeroValue23 rfl ?_
 intro b32 w33 h34
 refine V_storeNew h34 Tryz.sizeOf23 rfl rfl rfl rfl (by exact (List.forall_mem_cons.2 ⟨rfl, (List.forall_mem_cons.2 ⟨rfl, (fun _ h => nomatch h)⟩)⟩)) ?_
 intro w35 h36
 have hk38 := h36.kp (Dw := False)
 have h37 : El (α := staff_Ratio) A w35 b32 0 x28.1 := h36.el hA ⟨[.string x28.1.num], _, rfl, rfl, rfl⟩
 have ht39 := Kp.tr (Dw := False) hk38 hA hB
 replace h4 := El.tr (Dw := False) h4 ht39
 replace h11 := El.tr (Dw := False) h11 ht39
 replace hK := Tr.trans (Dw := False) hK ht39
 replace hB := Nat.le_trans hB ht39.ex.size
 replace hA := ht39.new
 refine V_as rfl rfl ?_
 refine V_to (fun _ _ => rfl) ?_
 refine C_seq ?_
 refine C_region ?_
 obtain ⟨h40, _⟩ := El_staff_Ratio h4
 refine V_y (Y_loadA h40 Tryz.isAgg23 Tryz.sizeOf23 rfl) rfl rfl rfl ?_
 obtain ⟨h41, _⟩ := El_staff_Ratio h11
 refine V_y (Y_loadA h41 Tryz.isAgg23 Tryz.sizeOf23 rfl) rfl rfl rfl ?_
 obtain ⟨x42, hx42, hm⟩ := Option.bind_eq_some_iff.1 hm
 refine V_call Tryz.call7 rfl rfl rfl rfl (portref2_OpOf_c w35 hA a_ b false hx42) ?_
 rintro _ w43 ⟨rfl, hk44⟩
 have ht45 := Kp.tr (Dw := False) hk44 hA hB
 replace h4 := El.tr (Dw := False) h4 ht45
 replace h11 := El.tr (Dw := False) h11 ht45
 replace h37 := El.tr (Dw := False) h37 ht45
 replace hK := Tr.trans (Dw := False) hK ht45
 replace hB := Nat.le_trans hB ht45.ex.size
 replace hA := ht45.new
 refine V_mv rfl rfl ?_
 refine V_y (Y_extract rfl rfl) rfl rfl rfl ?_
 refine V_y (Y_extract rfl rfl) rfl rfl rfl ?_
 refine V_alloc Tryz.zeroValue23 rfl ?_
 intro b46 w47 h48
 refine V_storeNew h48 Tryz.sizeOf23 rfl rfl rfl rfl (by exact (List.forall_mem_cons.2 ⟨rfl, (List.forall_mem_cons.2 ⟨rfl, (fun _ h => nomatch h)⟩)⟩)) ?_
 intro w49 h50
 have hk52 := h50.kp (Dw := False)
 have h51 : El (α := staff_Ratio) A w49 b46 0 x42.1 := h50.el hA ⟨[.string x42.1.num], _, rfl, rfl, rfl⟩
 have ht53 := Kp.tr (Dw := False) hk52 hA hB
 replace h4 := El.tr (Dw := False) h4 ht53
 replace h11 := El.tr (Dw := False) h11 ht53
 replace h37 := El.tr (Dw := False) h37 ht53
 replace hK := Tr.trans (Dw := False) hK ht53
 replace hB := Nat.le_trans hB ht53.ex.size
 replace hA := ht53.new
 refine V_as rfl rfl ?_
 refine V_to (fun _ _ => rfl) ?_
 refine C_seq ?_
 refine C_region ?_
 obtain ⟨h54, _⟩ := El_staff_Ratio h4
 refine V_y (Y_loadA h54 Tryz.isAgg23 Tryz.sizeOf23 rfl) rfl rfl rfl ?_
 obtain ⟨h55, _⟩ := El_staff_Ratio h11
 refine V_y (Y_loadA h55 Tryz.isAgg23 Tryz.sizeOf23 rfl) rfl rfl rfl ?_
 obtain ⟨x56, hx56, hm⟩ := Option.bind_eq_some_iff.1 hm
 refine V_call Tryz.call8 rfl rfl rfl rfl (staff_Times_c w49 hA (Fz.tr (Dw := False) hT hK) a_ b hx56) ?_
 rintro _ w57 ⟨rfl, hk58⟩
 have ht59 := Kp.tr (Dw := False) hk58 hA hB
 replace h4 := El.tr (Dw := False) h4 ht59
 replace h11 := El.tr (Dw := False) h11 ht59
 replace h37 := El.tr (Dw := False) h37 ht59
 replace h51 := El.tr (Dw := False) h51 ht59
 replace hK := Tr.trans (Dw := False) hK ht59
 replace hB := Nat.le_trans hB ht59.ex.size
 replace hA := ht59.new
 refine V_mv rfl rfl ?_
 refine V_y (Y_extract rfl rfl) rfl rfl rfl ?_
 refine V_y (Y_extract rfl rfl) rfl rfl rfl ?_
 refine V_alloc Tryz.zeroValue23 rfl ?_
 intro b60 w61 h62
 refine V_storeNew h62 Tryz.sizeOf23 rfl rfl rfl rfl (by exact (List.forall_mem_cons.2 ⟨rfl, (List.forall_mem_cons.2 ⟨rfl, (fun _ h => nomatch h)⟩)⟩)) ?_
 intro w63 h64
 have hk66 := h64.kp (Dw := False)
 have h65 : El (α := staff_Ratio) A w63 b60 0 x56.1 := h64.el hA ⟨[.string x56.1.num], _, rfl, rfl, rfl⟩
 have ht67 := Kp.tr (Dw := False) hk66 hA hB
 replace h4 := El.tr (Dw := False) h4 ht67
 replace h11 := El.tr (Dw := False) h11 ht67
 replace h37 := El.tr (Dw := False) h37 ht67
 replace h51 := El.tr (Dw := False) h51 ht67
 replace hK := Tr.trans (Dw := False) hK ht67
 replace hB := Nat.le_trans hB ht67.ex.size
 replace hA := ht67.new
 refine V_as rfl rfl ?_
 refine V_to (fun _ _ => rfl) ?_
 refine C_seq ?_
 refine C_region ?_
 obtain ⟨h68, _⟩ := El_staff_Ratio h4
 refine V_y (Y_loadA h68 Tryz.isAgg23 Tryz.sizeOf23 rfl) rfl rfl rfl ?_
 obtain ⟨h69, _⟩ := El_staff_Ratio h11
 refine V_y (Y_loadA h69 Tryz.isAgg23 Tryz.sizeOf23 rfl) rfl rfl rfl ?_
 obtain ⟨x70, hx70, hm⟩ := Option.bind_eq_some_iff.1 hm
 refine V_call Tryz.call7 rfl rfl rfl rfl (portref2_OpOf_c w63 hA a_ b true hx70) ?_
 rintro _ w71 ⟨rfl, hk72⟩
 have ht73 := Kp.tr (Dw := False) hk72 hA hB
 replace h4 := El.tr (Dw := False) h4 ht73
 replace h37 := El.tr (Dw := False) h37 ht73
 replace h51 := El.tr (Dw := False) h51 ht73
 replace h65 := El.tr (Dw := False) h65 ht73
 replace hK := Tr.trans (Dw := False) hK ht73
 replace hB := Nat.le_trans hB ht73.ex.size
 replace hA := ht73.new
 refine V_mv rfl rfl ?_
 refine V_y (Y_extract rfl rfl) rfl rfl rfl ?_
 refine V_y (Y_extract rfl rfl) rfl rfl rfl ?_
 refine V_alloc Tryz.zeroValue23 rfl ?_
 intro b74 w75 h76
 refine V_storeNew h76 Tryz.sizeOf23 rfl rfl rfl rfl (by exact (List.forall_mem_cons.2 ⟨rfl, (List.forall_mem_cons.2 ⟨rfl, (fun _ h => nomatch h)⟩)⟩)) ?_
 intro w77 h78
 have hk80 := h78.kp (Dw := False)
 have h79 : El (α := staff_Ratio) A w77 b74 0 x70.1 := h78.el hA ⟨[.string x70.1.num], _, rfl, rfl, rfl⟩
 have ht81 := Kp.tr (Dw := False) hk80 hA hB
 replace h4 := El.tr (Dw := False) h4 ht81
 replace h37 := El.tr (Dw := False) h37 ht81
 replace h51 := El.tr (Dw := False) h51 ht81
 replace h65 := El.tr (Dw := False) h65 ht81
 replace hK := Tr.trans (Dw := False) hK ht81
 replace hB := Nat.le_trans hB ht81.ex.size
 replace hA := ht81.new
 refine V_as rfl rfl ?_
 refine V_to (fun _ _ => rfl) ?_
 refine C_seq ?_
 refine C_region_q (Dw := False) Tryz_mixed (by kernel_rfl) ?_
 refine VQ_y (fun w' hw' => Y_move rfl) rfl rfl rfl ?_
 refine VQ_y (fun w' hw' => Y_move rfl) rfl rfl rfl ?_
 refine VQ_y (fun w' hw' => Y_eql rfl rfl) rfl rfl rfl ?_
 refine VQ_y (fun w' hw' => Y_move rfl) rfl rfl rfl ?_
 refine VQ_cut 4 (fun _ : Unit => [(2, .pointer (some ⟨b1, 0, none⟩)), (6, .int .i64 x16.2), (8, .int .i64 x22.2), (10, .int .i64 x28.2), (12, .int .i64 x42.2), (13, .pointer (some ⟨b60, 0, none⟩)), (14, .int .i64 x56.2), (15, .pointer (some ⟨b74, 0, none⟩)), (16, .int .i64 x70.2), (60, .bool ((x16.1 == x22.1) && (strEq x28.1.num x42.1.num && (strEq x28.1.den x42.1.den))))]) (fun _ => True) ?_ ?_
 ·simp only [List.take, List.drop]
  rcases Bool.eq_false_or_eq_true (x16.1 == x22.1) with hc82 | hc82
  ·refine VQ_ge rfl rfl rfl hc82 ?_
   obtain ⟨h84, _⟩ := El_staff_Ratio h37
   refine VQ_y (fun w' hw' => Y_loadA (At.kp (Dw := False) h84 hw' h37.2.1) Tryz.isAgg23 Tryz.sizeOf23 rfl) rfl rfl rfl ?_
   refine VQ_ge rfl rfl rfl hc82 ?_
   obtain ⟨h85, _⟩ := El_staff_Ratio h51
   refine VQ_y (fun w' hw' => Y_loadA (At.kp (Dw := False) h85 hw' h51.2.1) Tryz.isAgg23 Tryz.sizeOf23 rfl) rfl rfl rfl ?_
   refine VQ_ge rfl rfl rfl hc82 ?_
   refine VQ_y (fun w' hw' => Y_eqlA (fun w => Tryz_eqt23_10000 x28.1.num x28.1.den x42.1.num x42.1.den w) Tryz_eqg23 rfl rfl) rfl rfl rfl ?_
   refine VQ_y (fun _ _ => Y_pick_te rfl hc82 rfl) rfl rfl rfl ?_
   exact VQ_end fun a ha => ⟨(), ha.sub ⟨rfl, rfl, rfl, rfl, rfl, rfl, rfl, rfl, rfl, (by rw [hc82]; rfl), trivial⟩, trivial⟩
  ·refine VQ_gn rfl rfl rfl hc82 rfl rfl rfl ?_
   refine VQ_gn rfl rfl rfl hc82 rfl rfl rfl ?_
   refine VQ_gn rfl rfl rfl hc82 rfl rfl rfl ?_
   refine VQ_y (fun _ _ => Y_pick_fe rfl hc82 rfl) rfl rfl rfl ?_
   exact VQ_end fun a ha => ⟨(), ha.sub ⟨rfl, rfl, rfl, rfl, rfl, rfl, rfl, rfl, rfl, (by rw [hc82]; rfl), trivial⟩, trivial⟩
 simp only [List.take, List.drop]
 rintro _ _
 refine VQ_y (fun w' hw' => Y_move rfl) rfl rfl rfl ?_
 refine VQ_cut 4 (fun _ : Unit => [(2, .pointer (some ⟨b1, 0, none⟩)), (6, .int .i64 x16.2), (8, .int .i64 x22.2), (10, .int .i64 x28.2), (12, .int .i64 x42.2), (14, .int .i64 x56.2), (16, .int .i64 x70.2), (65, .bool (((x16.1 == x22.1) && (strEq x28.1.num x42.1.num && (strEq x28.1.den x42.1.den))) && (strEq x56.1.num x70.1.num && (strEq x56.1.den x70.1.den))))]) (fun _ => True) ?_ ?_
 ·simp only [List.take, List.drop]
  rcases Bool.eq_false_or_eq_true (((x16.1 == x22.1) && (strEq x28.1.num x42.1.num && (strEq x28.1.den x42.1.den)))) with hc86 | hc86
  ·refine VQ_ge rfl rfl rfl hc86 ?_
   obtain ⟨h88, _⟩ := El_staff_Ratio h65
   refine VQ_y (fun w' hw' => Y_loadA (At.kp (Dw := False) h88 hw' h65.2.1) Tryz.isAgg23 Tryz.sizeOf23 rfl) rfl rfl rfl ?_
   refine VQ_ge rfl rfl rfl hc86 ?_
   obtain ⟨h89, _⟩ := El_staff_Ratio h79
   refine VQ_y (fun w' hw' => Y_loadA (At.kp (Dw := False) h89 hw' h79.2.1) Tryz.isAgg23 Tryz.sizeOf23 rfl) rfl rfl rfl ?_
   refine VQ_ge rfl rfl rfl hc86 ?_
   refine VQ_y (fun w' hw' => Y_eqlA (fun w => Tryz_eqt23_10000 x56.1.num x56.1.den x70.1.num x70.1.den w) Tryz_eqg23 rfl rfl) rfl rfl rfl ?_
   refine VQ_y (fun _ _ => Y_pick_te rfl hc86 rfl) rfl rfl rfl ?_
   exact VQ_end fun a ha => ⟨(), ha.sub ⟨rfl, rfl, rfl, rfl, rfl, rfl, rfl, (by rw [hc86]; rfl), trivial⟩, trivial⟩
  ·refine VQ_gn rfl rfl rfl hc86 rfl rfl rfl ?_
   refine VQ_gn rfl rfl rfl hc86 rfl rfl rfl ?_
   refine VQ_gn rfl rfl rfl hc86 rfl rfl rfl ?_
   refine VQ_y (fun _ _ => Y_pick_fe rfl hc86 rfl) rfl rfl rfl ?_
   exact VQ_end fun a ha => ⟨(), ha.sub ⟨rfl, rfl, rfl, rfl, rfl, rfl, rfl, (by rw [hc86]; rfl), trivial⟩, trivial⟩
 simp only [List.take, List.drop]
 rintro _ _
 refine VQ_y (fun w' hw' => Y_move rfl) rfl rfl rfl ?_
 refine VQ_cut 4 (fun _ : Unit => [(2, .pointer (some ⟨b1, 0, none⟩)), (10, .int .i64 x28.2), (12, .int .i64 x42.2), (14, .int .i64 x56.2), (16, .int .i64 x70.2), (70, .bool ((((x16.1 == x22.1) && (strEq x28.1.num x42.1.num && (strEq x28.1.den x42.1.den))) && (strEq x56.1.num x70.1.num && (strEq x56.1.den x70.1.den))) && (x16.2 == x22.2)))]) (fun _ => True) ?_ ?_
 ·simp only [List.take, List.drop]
  rcases Bool.eq_false_or_eq_true ((((x16.1 == x22.1) && (strEq x28.1.num x42.1.num && (strEq x28.1.den x42.1.den))) && (strEq x56.1.num x70.1.num && (strEq x56.1.den x70.1.den)))) with hc90 | hc90
  ·refine VQ_ge rfl rfl rfl hc90 ?_
   refine VQ_y (fun w' hw' => Y_move rfl) rfl rfl rfl ?_
   refine VQ_ge rfl rfl rfl hc90 ?_
   refine VQ_y (fun w' hw' => Y_move rfl) rfl rfl rfl ?_
   refine VQ_ge rfl rfl rfl hc90 ?_
   refine VQ_y (fun w' hw' => Y_eql rfl rfl) rfl rfl rfl ?_
   refine VQ_y (fun _ _ => Y_pick_te rfl hc90 rfl) rfl rfl rfl ?_
   exact VQ_end fun a ha => ⟨(), ha.sub ⟨rfl, rfl, rfl, rfl, rfl, (by rw [hc90]; rfl), trivial⟩, trivial⟩
  ·refine VQ_gn rfl rfl rfl hc90 rfl rfl rfl ?_
   refine VQ_gn rfl rfl rfl hc90 rfl rfl rfl ?_
   refine VQ_gn rfl rfl rfl hc90 rfl rfl rfl ?_
   refine VQ_y (fun _ _ => Y_pick_fe rfl hc90 rfl) rfl rfl rfl ?_
   exact VQ_end fun a ha => ⟨(), ha.sub ⟨rfl, rfl, rfl, rfl, rfl, (by rw [hc90]; rfl), trivial⟩, trivial⟩
 simp only [List.take, List.drop]
 rintro _ _
 refine VQ_y (fun w' hw' => Y_move rfl) rfl rfl rfl ?_
 refine VQ_cut 4 (fun _ : Unit => [(2, .pointer (some ⟨b1, 0, none⟩)), (14, .int .i64 x56.2), (16, .int .i64 x70.2), (75, .bool (((((x16.1 == x22.1) && (strEq x28.1.num x42.1.num && (strEq x28.1.den x42.1.den))) && (strEq x56.1.num x70.1.num && (strEq x56.1.den x70.1.den))) && (x16.2 == x22.2)) && (x28.2 == x42.2)))]) (fun _ => True) ?_ ?_
 ·simp only [List.take, List.drop]
  rcases Bool.eq_false_or_eq_true (((((x16.1 == x22.1) && (strEq x28.1.num x42.1.num && (strEq x28.1.den x42.1.den))) && (strEq x56.1.num x70.1.num && (strEq x56.1.den x70.1.den))) && (x16.2 == x22.2))) with hc92 | hc92
  ·refine VQ_ge rfl rfl rfl hc92 ?_
   refine VQ_y (fun w' hw' => Y_move rfl) rfl rfl rfl ?_
   refine VQ_ge rfl rfl rfl hc92 ?_
   refine VQ_y (fun w' hw' => Y_move rfl) rfl rfl rfl ?_
   refine VQ_ge rfl rfl rfl hc92 ?_
   refine VQ_y (fun w' hw' => Y_eql rfl rfl) rfl rfl rfl ?_
   refine VQ_y (fun _ _ => Y_pick_te rfl hc92 rfl) rfl rfl rfl ?_
   exact VQ_end fun a ha => ⟨(), ha.sub ⟨rfl, rfl, rfl, (by rw [hc92]; rfl), trivial⟩, trivial⟩
  ·refine VQ_gn rfl rfl rfl hc92 rfl rfl rfl ?_
   refine VQ_gn rfl rfl rfl hc92 rfl rfl rfl ?_
   refine VQ_gn rfl rfl rfl hc92 rfl rfl rfl ?_
   refine VQ_y (fun _ _ => Y_pick_fe rfl hc92 rfl) rfl rfl rfl ?_
   exact VQ_end fun a ha => ⟨(), ha.sub ⟨rfl, rfl, rfl, (by rw [hc92]; rfl), trivial⟩, trivial⟩
 simp only [List.take, List.drop]
 rintro _ _
 refine VQ_y (fun w' hw' => Y_move rfl) rfl rfl rfl ?_
 refine VQ_cut 4 (fun _ : Unit => [(2, .pointer (some ⟨b1, 0, none⟩)), (80, .bool ((((((x16.1 == x22.1) && (strEq x28.1.num x42.1.num && (strEq x28.1.den x42.1.den))) && (strEq x56.1.num x70.1.num && (strEq x56.1.den x70.1.den))) && (x16.2 == x22.2)) && (x28.2 == x42.2)) && (x56.2 == x70.2)))]) (fun _ => True) ?_ ?_
 ·simp only [List.take, List.drop]
  rcases Bool.eq_false_or_eq_true ((((((x16.1 == x22.1) && (strEq x28.1.num x42.1.num && (strEq x28.1.den x42.1.den))) && (strEq x56.1.num x70.1.num && (strEq x56.1.den x70.1.den))) && (x16.2 == x22.2)) && (x28.2 == x42.2))) with hc94 | hc94
  ·refine VQ_ge rfl rfl rfl hc94 ?_
   refine VQ_y (fun w' hw' => Y_move rfl) rfl rfl rfl ?_
   refine VQ_ge rfl rfl rfl hc94 ?_
   refine VQ_y (fun w' hw' => Y_move rfl) rfl rfl rfl ?_
   refine VQ_ge rfl rfl rfl hc94 ?_
   refine VQ_y (fun w' hw' => Y_eql rfl rfl) rfl rfl rfl ?_
   refine VQ_y (fun _ _ => Y_pick_te rfl hc94 rfl) rfl rfl rfl ?_
   exact VQ_end fun a ha => ⟨(), ha.sub ⟨rfl, (by rw [hc94]; rfl), trivial⟩, trivial⟩
  ·refine VQ_gn rfl rfl rfl hc94 rfl rfl rfl ?_
   refine VQ_gn rfl rfl rfl hc94 rfl rfl rfl ?_
   refine VQ_gn rfl rfl rfl hc94 rfl rfl rfl ?_
   refine VQ_y (fun _ _ => Y_pick_fe rfl hc94 rfl) rfl rfl rfl ?_
   exact VQ_end fun a ha => ⟨(), ha.sub ⟨rfl, (by rw [hc94]; rfl), trivial⟩, trivial⟩
 simp only [List.take, List.drop]
 rintro _ _
 refine VQ_y (fun w' hw' => Y_move rfl) rfl rfl rfl ?_
 obtain ⟨s97, hs97, hm⟩ := Option.bind_eq_some_iff.1 hm
 refine VQ_cut 6 (fun _ : Unit => [(87, .bool s97)]) (fun _ => True) ?_ ?_
 ·simp only [List.take, List.drop]
  rcases Bool.eq_false_or_eq_true (((((((x16.1 == x22.1) && (strEq x28.1.num x42.1.num && (strEq x28.1.den x42.1.den))) && (strEq x56.1.num x70.1.num && (strEq x56.1.den x70.1.den))) && (x16.2 == x22.2)) && (x28.2 == x42.2)) && (x56.2 == x70.2))) with hc96 | hc96
  ·rw [if_pos hc96] at hs97
   refine VQ_ge rfl rfl rfl hc96 ?_
   obtain ⟨h98, _⟩ := El_staff_Ratio h4
   refine VQ_y (fun w' hw' => Y_loadA (At.kp (Dw := False) h98 hw' h4.2.1) Tryz.isAgg23 Tryz.sizeOf23 rfl) rfl rfl rfl ?_
   refine VQ_ge rfl rfl rfl hc96 ?_
   obtain ⟨x99, hx99, hs97⟩ := Option.bind_eq_some_iff.1 hs97
   refine VQ_call (.int .i64 x99) Tryz.call9 rfl rfl rfl rfl (fun w' hw' => (staff_CheckRatio_c w' (fun b hb => hA b (Nat.le_trans hw'.size hb)) (Fz.kp (Dw := False) (Fz.tr (Dw := False) hT hK) hw') a_ hx99).mono (fun _ _ h => ⟨h.1, Kp.trans (Dw := False) hw' h.2⟩)) ?_
   refine VQ_ge rfl rfl rfl hc96 ?_
   obtain ⟨h100, _⟩ := El_staff_Ratio h4
   refine VQ_y (fun w' hw' => Y_loadA (At.kp (Dw := False) h100 hw' h4.2.1) Tryz.isAgg23 Tryz.sizeOf23 rfl) rfl rfl rfl ?_
   refine VQ_ge rfl rfl rfl hc96 ?_
   obtain ⟨x101, hx101, hs97⟩ := Option.bind_eq_some_iff.1 hs97
   refine VQ_call (.int .i64 x101) Tryz.call10 rfl rfl rfl rfl (fun w' hw' => (portref2_RatioFault_c w' (fun b hb => hA b (Nat.le_trans hw'.size hb)) a_ hx101).mono (fun _ _ h => ⟨h.1, Kp.trans (Dw := False) hw' h.2⟩)) ?_
   refine VQ_ge rfl rfl rfl hc96 ?_
   refine VQ_y (fun w' hw' => Y_eql rfl rfl) rfl rfl rfl ?_
   refine VQ_y (fun _ _ => Y_pick_te rfl hc96 rfl) rfl rfl rfl ?_
   obtain rfl := Option.some.inj hs97
   exact VQ_end fun a ha => ⟨(), ha.sub ⟨rfl, trivial⟩, trivial⟩
  ·rw [if_neg (nt hc96)] at hs97
   refine VQ_gn rfl rfl rfl hc96 rfl rfl rfl ?_
   refine VQ_gn rfl rfl rfl hc96 rfl rfl rfl ?_
   refine VQ_gn rfl rfl rfl hc96 rfl rfl rfl ?_
   refine VQ_gn rfl rfl rfl hc96 rfl rfl rfl ?_
   refine VQ_gn rfl rfl rfl hc96 rfl rfl rfl ?_
   refine VQ_y (fun _ _ => Y_pick_fe rfl hc96 rfl) rfl rfl rfl ?_
   obtain rfl := Option.some.inj hs97
   exact VQ_end fun a ha => ⟨(), ha.sub ⟨rfl, trivial⟩, trivial⟩
 simp only [List.take, List.drop]
 rintro _ _
 refine VQ_y (fun w' hw' => Y_assign rfl) rfl rfl rfl ?_
 refine VQ_to (fun _ _ => rfl) (fun w102 hk103 => ?_)
 have ht104 := Kp.tr (Dw := False) hk103 hA hB
 replace hK := Tr.trans (Dw := False) hK ht104
 obtain rfl := Option.some.inj hm
 refine C_ret ?_
 try simp only [↓inBlock_ret, ↓then_ret]
 exact retQ rfl (Res.one Tryz.results3 rfl) ⟨rfl, hK.kp⟩

end Go.Proofs.YtnnbhehaplphiaaGreatDoor.W
