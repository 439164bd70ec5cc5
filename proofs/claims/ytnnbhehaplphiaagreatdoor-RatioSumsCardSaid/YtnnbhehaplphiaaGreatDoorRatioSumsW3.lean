/-
  Written by program (gen.py) from the IR of the dump: each function computes its model.
-/
import Derived.Test.YtnnbhehaplphiaaGreatDoorRatioSumsW2
namespace Go.Proofs.YtnnbhehaplphiaaGreatDoor.W
open Go Go.RowKit Go.Pu Go.Gw Go.Proofs Go.Proofs.YtnnbhehaplphiaaGreatDoor.M
set_option linter.unusedVariables false
set_option linter.unusedSimpArgs false
variable {Dw : Prop}

set_option maxRecDepth 4000 in
set_option maxHeartbeats 4000000 in
theorem portref2_whole_times_c (w : World) {A : Nat → Prop} (hA : ∀ b, w.heap.size ≤ b → A b) (a_ : (List UInt32)) (v_a_ : Value) (h_a_ : Sl A w v_a_ a_) (b : (List UInt32)) (v_b : Value) (h_b : Sl A w v_b b) {r : (List UInt32)} (hm : portref2_whole_times a_ b = some r) : Ret Tryz.prog 30 #[v_a_, v_b] w fun v w' => ∃ s0, v = s0 ∧ Ownd 77 w w' s0 r ∧ Kp Dw w w' := by
 unfold portref2_whole_times at hm
 refine enter Tryz.func30 rfl Tryz.ntmps30 rfl ?_
 have hA0 := hA
 have hB := Nat.le_refl w.heap.size
 have hK : Tr Dw w.heap.size A w A w := Tr.refl (Dw := Dw) hA
 have hH : Hp w.heap.size A w [] := Hp.nil
 refine C_seq ?_
 refine C_region ?_
 refine V_as rfl rfl ?_
 refine V_to (fun _ _ => rfl) ?_
 refine C_seq ?_
 refine C_region ?_
 refine V_mv rfl rfl ?_
 refine V_y (Y_lenSl h_a_ rfl Tryz.underlying41 rfl) rfl rfl rfl ?_
 refine V_mv rfl rfl ?_
 refine V_y (Y_lenSl h_b rfl Tryz.underlying41 rfl) rfl rfl rfl ?_
 refine V_y (Y_addI rfl rfl) rfl rfl rfl ?_
 obtain ⟨x5, hx5, hm⟩ := Option.bind_eq_some_iff.1 hm
 refine V_makeH (Dw := Dw) (e := 77) (ti := Tryz.t77) hH hx5 (fun _ _ => rfl) Tryz.underlying41 Tryz_info77 rfl rfl rfl (by decide) (by decide) hB hA rfl rfl rfl ?_
 intro v6 w7 A8 hH9 ht10
 replace h_a_ := Sl.tr h_a_ ht10
 replace h_b := Sl.tr h_b ht10
 replace hK := Tr.trans hK ht10
 replace hB := Nat.le_trans hB ht10.ex.size
 replace hA := ht10.new
 replace hH : Hp w.heap.size A8 w7 (obS (α := UInt32) 77 v6 x5 :: []) := hH9
 refine V_as rfl rfl ?_
 refine V_to (fun _ _ => rfl) ?_
 refine C_seq ?_
 refine C_seq ?_
 refine C_region ?_
 refine V_mv rfl rfl ?_
 refine V_y (Y_lenSl h_a_ rfl Tryz.underlying41 rfl) rfl rfl rfl ?_
 refine V_mv rfl rfl ?_
 refine V_to (fun _ _ => rfl) ?_
 have hn35 := Sl.le h_a_
 obtain ⟨o11, ho11, hm⟩ := Option.bind_eq_some_iff.1 hm
 refine C_cutG (ι := ((List UInt32) × Value × (Nat → Prop))) (fun ⟨s12, v18, A20⟩ => [(5, v18)]) (fun ⟨s12, v18, A20⟩ => fun w' => o11 = .fin s12 ∧ Hp w.heap.size A20 w' (obS (α := UInt32) 77 v18 s12 :: []) ∧ Tr Dw w.heap.size A8 w7 A20 w') ?_ ?_
 ·refine C_block ?_
  refine C_range ho11 (fun k14 s22 a w' => ∃ i : (Value × (Nat → Prop)), Has ⟨67, [], none⟩ a ([(0, v_a_), (1, v_b), (5, i.1), (16, .int .i64 (a_.length : Int)), (17, .int .i64 (k14 : Int))]) ∧ Hp w.heap.size i.2 w' (obS (α := UInt32) 77 i.1 s22 :: []) ∧ Tr Dw w.heap.size A8 w7 i.2 w') (fun a ha => ⟨(v6, A8), ha.sub ⟨rfl, rfl, rfl, rfl, rfl, trivial⟩, ⟨hH, Tr.refl (Dw := Dw) hA⟩⟩) ?_
  rintro K k14 s22 a w23 ⟨⟨v24, A26⟩, ha102, hH27, hr13⟩ hle31 K34 h33
  refine C_of ?_ ha102
  replace h_a_ := Sl.tr h_a_ hr13
  replace h_b := Sl.tr h_b hr13
  replace hB := Nat.le_trans hB hr13.ex.size
  replace hA := hr13.new
  replace hH : Hp w.heap.size A26 w23 (obS (α := UInt32) 77 v24 s22 :: []) := hH27
  refine C_seq (C_region (V_y (Y_lss rfl rfl) rfl rfl rfl (V_to (fun _ _ => rfl) ?_)))
  refine C_seq ?_
  refine C_cond rfl (fun hc36 => ?_) (fun hc36 => ?_)
  ·have hlt32 := lt_of_dec hc36
   obtain ⟨x28, h29, h30⟩ := K34 hlt32
   refine C_skip_to (fun _ _ => rfl) ?_
   refine C_seq ?_
   refine C_block ?_
   refine C_seq ?_
   refine C_region ?_
   refine V_mv rfl rfl ?_
   refine V_as rfl rfl ?_
   refine V_to (fun _ _ => rfl) ?_
   refine C_seq ?_
   refine C_region ?_
   refine V_as rfl rfl ?_
   refine V_to (fun _ _ => rfl) ?_
   refine C_seq ?_
   refine C_seq ?_
   refine C_region ?_
   refine V_mv rfl rfl ?_
   refine V_y (Y_lenSl h_b rfl Tryz.underlying41 rfl) rfl rfl rfl ?_
   refine V_mv rfl rfl ?_
   refine V_to (fun _ _ => rfl) ?_
   have hn61 := Sl.le h_b
   obtain ⟨o37, ho37, h29⟩ := Option.bind_eq_some_iff.1 h29
   refine C_cutG (ι := (((List UInt32) × Int) × Value × (Nat → Prop))) (fun ⟨s38, v44, A46⟩ => [(0, v_a_), (1, v_b), (5, v44), (6, .int .i64 (k14 : Int)), (7, .int .u64 s38.2), (16, .int .i64 (a_.length : Int)), (17, .int .i64 (k14 : Int))]) (fun ⟨s38, v44, A46⟩ => fun w' => o37 = .fin s38 ∧ Hp w.heap.size A46 w' (obS (α := UInt32) 77 v44 s38.1 :: []) ∧ Tr Dw w.heap.size A26 w23 A46 w') ?_ ?_
   ·refine C_block ?_
    refine C_range ho37 (fun k40 s48 a w' => ∃ i : (Value × (Nat → Prop)), Has ⟨67, [], none⟩ a ([(0, v_a_), (1, v_b), (5, i.1), (6, .int .i64 (k14 : Int)), (7, .int .u64 s48.2), (16, .int .i64 (a_.length : Int)), (17, .int .i64 (k14 : Int)), (21, .int .i64 (b.length : Int)), (22, .int .i64 (k40 : Int))]) ∧ Hp w.heap.size i.2 w' (obS (α := UInt32) 77 i.1 s48.1 :: []) ∧ Tr Dw w.heap.size A26 w23 i.2 w') (fun a ha => ⟨(v24, A26), ha.sub ⟨rfl, rfl, rfl, rfl, rfl, rfl, rfl, rfl, rfl, trivial⟩, ⟨hH, Tr.refl (Dw := Dw) hA⟩⟩) ?_
    rintro K k40 s48 a w49 ⟨⟨v50, A52⟩, ha90, hH53, hr39⟩ hle57 K60 h59
    refine C_of ?_ ha90
    replace h_a_ := Sl.tr h_a_ hr39
    replace h_b := Sl.tr h_b hr39
    replace hB := Nat.le_trans hB hr39.ex.size
    replace hA := hr39.new
    replace hH : Hp w.heap.size A52 w49 (obS (α := UInt32) 77 v50 s48.1 :: []) := hH53
    refine C_seq (C_region (V_y (Y_lss rfl rfl) rfl rfl rfl (V_to (fun _ _ => rfl) ?_)))
    refine C_seq ?_
    refine C_cond rfl (fun hc62 => ?_) (fun hc62 => ?_)
    ·have hlt58 := lt_of_dec hc62
     obtain ⟨x54, h55, h56⟩ := K60 hlt58
     refine C_skip_to (fun _ _ => rfl) ?_
     refine C_seq ?_
     refine C_block ?_
     refine C_seq ?_
     refine C_region ?_
     refine V_mv rfl rfl ?_
     refine V_as rfl rfl ?_
     refine V_to (fun _ _ => rfl) ?_
     refine C_seq ?_
     refine C_region_q (Dw := Dw) Tryz_mixed (by kernel_rfl) ?_
     refine VQ_y (fun w' hw' => Y_move rfl) rfl rfl rfl ?_
     refine VQ_y (fun w' hw' => Y_move rfl) rfl rfl rfl ?_
     refine VQ_y (fun w' hw' => Y_move rfl) rfl rfl rfl ?_
     obtain ⟨x63, hx63, h55⟩ := Option.bind_eq_some_iff.1 h55
     refine VQ_indexAddr h_a_ hx63 Tryz.underlying41 Tryz.sizeOf77 rfl rfl rfl ?_
     intro b64 o65 h66
     refine VQ_y (fun w' hw' => Y_load (El.u32 (El.kp (Dw := Dw) h66 hw')) Tryz.isAgg77 rfl) rfl rfl rfl ?_
     refine VQ_y (fun w' hw' => Y_convI Tryz.underlying77 Tryz.underlying76 rfl) rfl rfl rfl ?_
     refine VQ_y (fun w' hw' => Y_move rfl) rfl rfl rfl ?_
     refine VQ_y (fun w' hw' => Y_move rfl) rfl rfl rfl ?_
     obtain ⟨x67, hx67, h55⟩ := Option.bind_eq_some_iff.1 h55
     refine VQ_indexAddr h_b hx67 Tryz.underlying41 Tryz.sizeOf77 rfl rfl rfl ?_
     intro b68 o69 h70
     refine VQ_y (fun w' hw' => Y_load (El.u32 (El.kp (Dw := Dw) h70 hw')) Tryz.isAgg77 rfl) rfl rfl rfl ?_
     refine VQ_y (fun w' hw' => Y_convI Tryz.underlying77 Tryz.underlying76 rfl) rfl rfl rfl ?_
     refine VQ_y (fun w' hw' => Y_mul rfl rfl) rfl rfl rfl ?_
     refine VQ_y (fun w' hw' => Y_move rfl) rfl rfl rfl ?_
     refine VQ_y (fun w' hw' => Y_move rfl) rfl rfl rfl ?_
     refine VQ_y (fun w' hw' => Y_move rfl) rfl rfl rfl ?_
     refine VQ_y (fun w' hw' => Y_addI rfl rfl) rfl rfl rfl ?_
     obtain ⟨x71, hx71, h55⟩ := Option.bind_eq_some_iff.1 h55
     refine VQ_indexAddrH (α := UInt32) (e := 77) (v := v50) (l := s48.1) hH (i := 0) rfl hx71 Tryz.underlying41 Tryz.sizeOf77 rfl rfl rfl ?_
     intro b72 o73 h74 hl75
     refine VQ_y (fun w' hw' => Y_load (El.u32 (El.kp (Dw := Dw) h74 hw')) Tryz.isAgg77 rfl) rfl rfl rfl ?_
     refine VQ_y (fun w' hw' => Y_convI Tryz.underlying77 Tryz.underlying76 rfl) rfl rfl rfl ?_
     refine VQ_y (fun w' hw' => Y_add rfl rfl) rfl rfl rfl ?_
     refine VQ_y (fun w' hw' => Y_add rfl rfl) rfl rfl rfl ?_
     refine VQ_y (fun w' hw' => Y_assign rfl) rfl rfl rfl ?_
     refine VQ_to (fun _ _ => rfl) (fun w76 hk77 => ?_)
     have ht78 := Kp.tr hk77 hA hB
     replace hH := Hp.kp hH hk77
     replace hr39 := Tr.trans hr39 ht78
     replace hB := Nat.le_trans hB ht78.ex.size
     replace hA := ht78.new
     refine C_seq ?_
     refine C_region ?_
     refine V_mv rfl rfl ?_
     refine V_mv rfl rfl ?_
     refine V_mv rfl rfl ?_
     refine V_y (Y_addI rfl rfl) rfl rfl rfl ?_
     refine V_mv rfl rfl ?_
     refine V_y (Y_convU32 Tryz.underlying76 Tryz.underlying77 rfl) rfl rfl rfl ?_
     refine V_indexAddrH (α := UInt32) (e := 77) (v := v50) (l := s48.1) hH (i := 0) rfl hx71 Tryz.underlying41 Tryz.sizeOf77 rfl rfl rfl ?_
     intro b79 o80 h81 hl82
     obtain ⟨x83, hx83, h55⟩ := Option.bind_eq_some_iff.1 h55
     refine V_storeH (Dw := Dw) (α := UInt32) (e := 77) (v := v50) (l := s48.1) hH (i := 0) rfl hl82 hx83 rfl Tryz.sizeOf77 rfl hB hA rfl rfl ?_
     intro w84 hH85 ht86
     replace hr39 := Tr.trans hr39 ht86
     replace hH : Hp w.heap.size A52 w84 (obS (α := UInt32) 77 v50 x83 :: []) := hH85
     refine V_to (fun _ _ => rfl) ?_
     refine C_region ?_
     refine V_mv rfl rfl ?_
     obtain ⟨x87, hx87, h55⟩ := Option.bind_eq_some_iff.1 h55
     refine V_y (Y_shr hx87 rfl rfl) rfl rfl rfl ?_
     refine V_as rfl rfl ?_
     refine V_to (fun _ _ => rfl) ?_
     refine C_region ?_
     refine V_y (Y_addI rfl rfl) rfl rfl rfl ?_
     refine V_mv rfl rfl ?_
     obtain rfl := Option.some.inj h55
     refine V_end (fun a ha88 => ?_)
     exact ⟨(x83, x87), hlt58, h56, ⟨(v50, A52), ha88.sub ⟨rfl, rfl, rfl, rfl, rfl, rfl, rfl, rfl, (congrArg (fun z => some (Value.int .i64 z)) (w64_succ hlt58 hn61)), trivial⟩, ⟨hH, hr39⟩⟩⟩
    ·refine C_exit (fun a ha89 => ?_)
     exact ⟨((s48.1, s48.2), v50, A52), ha89.sub ⟨rfl, rfl, rfl, rfl, rfl, rfl, rfl, trivial⟩, ⟨(h59 (eq_of_dec hle57 hc62)).symm, hH, hr39⟩⟩
   rintro ⟨s38, v44, A46⟩ w41 ⟨rfl, hH47, hk42⟩ a ha43
   rw [Lp.andThen_fin] at h29
   replace h_b := Sl.tr h_b hk42
   replace hr13 := Tr.trans hr13 hk42
   replace hB := Nat.le_trans hB hk42.ex.size
   replace hA := hk42.new
   replace hH : Hp w.heap.size A46 w41 (obS (α := UInt32) 77 v44 s38.1 :: []) := hH47
   refine C_at (n := ⟨67, [], none⟩) (fun _ _ => rfl) ?_ ha43
   refine C_region ?_
   refine V_mv rfl rfl ?_
   refine V_mv rfl rfl ?_
   refine V_mv rfl rfl ?_
   refine V_y (Y_lenSl h_b rfl Tryz.underlying41 rfl) rfl rfl rfl ?_
   refine V_y (Y_addI rfl rfl) rfl rfl rfl ?_
   refine V_mv rfl rfl ?_
   refine V_y (Y_convU32 Tryz.underlying76 Tryz.underlying77 rfl) rfl rfl rfl ?_
   obtain ⟨x91, hx91, h29⟩ := Option.bind_eq_some_iff.1 h29
   refine V_indexAddrH (α := UInt32) (e := 77) (v := v44) (l := s38.1) hH (i := 0) rfl hx91 Tryz.underlying41 Tryz.sizeOf77 rfl rfl rfl ?_
   intro b92 o93 h94 hl95
   obtain ⟨x96, hx96, h29⟩ := Option.bind_eq_some_iff.1 h29
   refine V_storeH (Dw := Dw) (α := UInt32) (e := 77) (v := v44) (l := s38.1) hH (i := 0) rfl hl95 hx96 rfl Tryz.sizeOf77 rfl hB hA rfl rfl ?_
   intro w97 hH98 ht99
   replace hr13 := Tr.trans hr13 ht99
   replace hH : Hp w.heap.size A46 w97 (obS (α := UInt32) 77 v44 x96 :: []) := hH98
   refine V_to (fun _ _ => rfl) ?_
   refine C_region ?_
   refine V_y (Y_addI rfl rfl) rfl rfl rfl ?_
   refine V_mv rfl rfl ?_
   obtain rfl := Option.some.inj h29
   refine V_end (fun a ha100 => ?_)
   exact ⟨x96, hlt32, h30, ⟨(v44, A46), ha100.sub ⟨rfl, rfl, rfl, rfl, (congrArg (fun z => some (Value.int .i64 z)) (w64_succ hlt32 hn35)), trivial⟩, ⟨hH, hr13⟩⟩⟩
  ·refine C_exit (fun a ha101 => ?_)
   exact ⟨(s22, v24, A26), ha101.sub ⟨rfl, trivial⟩, ⟨(h33 (eq_of_dec hle31 hc36)).symm, hH, hr13⟩⟩
 rintro ⟨s12, v18, A20⟩ w15 ⟨rfl, hH21, hk16⟩ a ha17
 rw [Lp.andThen_fin] at hm
 replace hK := Tr.trans hK hk16
 replace hB := Nat.le_trans hB hk16.ex.size
 replace hA := hk16.new
 replace hH : Hp w.heap.size A20 w15 (obS (α := UInt32) 77 v18 s12 :: []) := hH21
 refine C_at (n := ⟨67, [], none⟩) (fun _ _ => rfl) ?_ ha17
 refine C_seq ?_
 refine C_region ?_
 refine V_mv rfl rfl ?_
 obtain ⟨x103, hx103, hm⟩ := Option.bind_eq_some_iff.1 hm
 refine V_call Tryz.call46 rfl rfl rfl rfl (portref2_whole_trim_c (Dw := Dw) w15 hB hA s12 v18 hH hx103) ?_
 rintro v104 w106 ⟨_, A107, rfl, hH108, ht109⟩
 replace hK := Tr.trans hK ht109
 replace hH : Hp w.heap.size A107 w106 (obS (α := UInt32) 77 v104 x103 :: []) := hH108
 refine V_as rfl rfl ?_
 refine V_to (fun _ _ => rfl) ?_
 obtain rfl := Option.some.inj hm
 refine C_ret ?_
 try simp only [↓inBlock_ret, ↓then_ret]
 exact retQ rfl (Res.one Tryz.results30 rfl) ⟨v104, rfl, (Hp.ownd hH (i := 0) rfl), hK.kp⟩

set_option maxRecDepth 4000 in
set_option maxHeartbeats 4000000 in
theorem portref2_ratio_cmp_c (w : World) {A : Nat → Prop} (hA : ∀ b, w.heap.size ≤ b → A b) (a_ : portref2_ratio) (v_a_0 : Value) (h_a_0 : Sl A w v_a_0 a_.num) (v_a_1 : Value) (h_a_1 : Sl A w v_a_1 a_.den) (b : portref2_ratio) (v_b0 : Value) (h_b0 : Sl A w v_b0 b.num) (v_b1 : Value) (h_b1 : Sl A w v_b1 b.den) {r : Int} (hm : portref2_ratio_cmp a_ b = some r) : Ret Tryz.prog 15 #[.agg #[v_a_0, v_a_1], .agg #[v_b0, v_b1]] w fun v w' => v = .int .i64 r ∧ Kp Dw w w' := by
 unfold portref2_ratio_cmp at hm
 refine enter Tryz.func15 rfl Tryz.ntmps15 rfl ?_
 have hA0 := hA
 have hB := Nat.le_refl w.heap.size
 have hK : Tr Dw w.heap.size A w A w := Tr.refl (Dw := Dw) hA
 have hH : Hp w.heap.size A w [] := Hp.nil
 refine C_seq ?_
 refine C_region ?_
 refine V_box rfl rfl ?_
 intro b9 w10 h11
 have hk13 := h11.kp (Dw := Dw)
 have h12 : El (α := portref2_ratio) A w10 b9 0 a_ := h11.el hA ⟨[v_a_0], _, rfl, ⟨_, rfl, h_a_0⟩, ⟨_, rfl, h_a_1⟩⟩
 have ht14 := Kp.tr hk13 hA hB
 replace hH := Hp.kp hH hk13
 replace h_b0 := Sl.tr h_b0 ht14
 replace h_b1 := Sl.tr h_b1 ht14
 replace hK := Tr.trans hK ht14
 replace hB := Nat.le_trans hB ht14.ex.size
 replace hA := ht14.new
 refine V_box rfl rfl ?_
 intro b15 w17 h18
 have hk20 := h18.kp (Dw := Dw)
 have h19 : El (α := portref2_ratio) A w17 b15 0 b := h18.el hA ⟨[v_b0], _, rfl, ⟨_, rfl, h_b0⟩, ⟨_, rfl, h_b1⟩⟩
 have ht21 := Kp.tr hk20 hA hB
 replace hH := Hp.kp hH hk20
 replace h12 := El.tr h12 ht21
 replace hK := Tr.trans hK ht21
 replace hB := Nat.le_trans hB ht21.ex.size
 replace hA := ht21.new
 refine V_as rfl rfl ?_
 refine V_to (fun _ _ => rfl) ?_
 refine C_seq ?_
 refine C_region_ch (Dw := Dw) A 12 [(1, 0), (1, 1), (1, 2), (1, 3), (1, 5), (1, 6), (1, 7), (1, 8), (2, 4), (2, 9), (2, 10), (1, 11)] Tryz_mixed (by kernel_rfl) (fun w22 hk23 => ?_)
 have ht24 := Kp.tr hk23 hA hB
 replace hH := Hp.kp hH hk23
 replace h12 := El.tr h12 ht24
 replace h19 := El.tr h19 ht24
 replace hK := Tr.trans hK ht24
 replace hB := Nat.le_trans hB ht24.ex.size
 replace hA := ht24.new
 refine CH_q2 (Dw := Dw) rfl ?_
 have h25 := El_portref2_ratio_0 h12
 refine VQ_y (fun w' hw' => Y_fieldAddr Tryz.underlying43 rfl Tryz.sizeOf41 (by decide) rfl) rfl rfl rfl ?_
 refine VQ_CH (Dw := Dw) ?_
 refine CH_q2 (Dw := Dw) rfl ?_
 obtain ⟨v26, h27, h28⟩ := El.list h25
 refine VQ_y (fun w' hw' => Y_load ((World.cell?_of_block (hw'.2 _ h25.2.1 h25.1)).trans h27) Tryz.isAgg41 rfl) rfl rfl rfl ?_
 refine VQ_CH (Dw := Dw) ?_
 refine CH_q2 (Dw := Dw) rfl ?_
 have h29 := El_portref2_ratio_1 h19
 refine VQ_y (fun w' hw' => Y_fieldAddr Tryz.underlying43 rfl Tryz.sizeOf41 (by decide) rfl) rfl rfl rfl ?_
 refine VQ_CH (Dw := Dw) ?_
 refine CH_q2 (Dw := Dw) rfl ?_
 obtain ⟨v30, h31, h32⟩ := El.list h29
 refine VQ_y (fun w' hw' => Y_load ((World.cell?_of_block (hw'.2 _ h29.2.1 h29.1)).trans h31) Tryz.isAgg41 rfl) rfl rfl rfl ?_
 refine VQ_CH (Dw := Dw) ?_
 refine CH_q2 (Dw := Dw) rfl ?_
 have h33 := El_portref2_ratio_0 h19
 refine VQ_y (fun w' hw' => Y_fieldAddr Tryz.underlying43 rfl Tryz.sizeOf41 (by decide) rfl) rfl rfl rfl ?_
 refine VQ_CH (Dw := Dw) ?_
 refine CH_q2 (Dw := Dw) rfl ?_
 obtain ⟨v34, h35, h36⟩ := El.list h33
 refine VQ_y (fun w' hw' => Y_load ((World.cell?_of_block (hw'.2 _ h33.2.1 h33.1)).trans h35) Tryz.isAgg41 rfl) rfl rfl rfl ?_
 refine VQ_CH (Dw := Dw) ?_
 refine CH_q2 (Dw := Dw) rfl ?_
 have h37 := El_portref2_ratio_1 h12
 refine VQ_y (fun w' hw' => Y_fieldAddr Tryz.underlying43 rfl Tryz.sizeOf41 (by decide) rfl) rfl rfl rfl ?_
 refine VQ_CH (Dw := Dw) ?_
 refine CH_q2 (Dw := Dw) rfl ?_
 obtain ⟨v38, h39, h40⟩ := El.list h37
 refine VQ_y (fun w' hw' => Y_load ((World.cell?_of_block (hw'.2 _ h37.2.1 h37.1)).trans h39) Tryz.isAgg41 rfl) rfl rfl rfl ?_
 refine VQ_CH (Dw := Dw) ?_
 refine CH_l1 (Dw := Dw) (k := 0) rfl ?_
 obtain ⟨x41, hx41, hm⟩ := Option.bind_eq_some_iff.1 hm
 refine V_call Tryz.call30 rfl rfl rfl rfl (portref2_whole_times_c (Dw := Dw) w22 hA a_.num v26 h28 b.den v30 h32 hx41) ?_
 rintro v42 w44 ⟨_, rfl, h43, hk45⟩
 obtain ⟨A46, ht47, hH48⟩ := Hp.addOwnd (Dw := Dw) hH hB hA hk45 h43
 replace h36 := Sl.tr h36 ht47
 replace h40 := Sl.tr h40 ht47
 replace hK := Tr.trans hK ht47
 replace hB := Nat.le_trans hB ht47.ex.size
 replace hA := ht47.new
 replace hH : Hp w.heap.size A46 w44 (obS (α := UInt32) 77 v42 x41 :: []) := hH48
 refine V_CH (Dw := Dw) (hk45) ?_
 refine CH_l1 (Dw := Dw) (k := 0) rfl ?_
 obtain ⟨x49, hx49, hm⟩ := Option.bind_eq_some_iff.1 hm
 refine V_call Tryz.call30 rfl rfl rfl rfl (portref2_whole_times_c (Dw := Dw) w44 hA b.num v34 h36 a_.den v38 h40 hx49) ?_
 rintro v50 w52 ⟨_, rfl, h51, hk53⟩
 obtain ⟨A54, ht55, hH56⟩ := Hp.addOwnd (Dw := Dw) hH hB hA hk53 h51
 replace hK := Tr.trans hK ht55
 replace hB := Nat.le_trans hB ht55.ex.size
 replace hA := ht55.new
 replace hH : Hp w.heap.size A54 w52 (obS (α := UInt32) 77 v50 x49 :: obS (α := UInt32) 77 v42 x41 :: []) := hH56
 refine V_CH (Dw := Dw) (hk53) ?_
 refine CH_l1 (Dw := Dw) (k := 0) rfl ?_
 obtain ⟨x57, hx57, hm⟩ := Option.bind_eq_some_iff.1 hm
 refine V_call Tryz.call31 rfl rfl rfl rfl (portref2_whole_cmp_c (Dw := Dw) w52 (A := fun _ => True) (fun _ _ => trivial) x41 v42 (Hp.any (α := UInt32) (e := 77) (v := v42) (l := x41) hH (i := 1) rfl) x49 v50 (Hp.any (α := UInt32) (e := 77) (v := v50) (l := x49) hH (i := 0) rfl) hx57) ?_
 rintro _ w58 ⟨rfl, hk59⟩
 have ht60 := Kp.tr hk59 hA hB
 replace hK := Tr.trans hK ht60
 refine V_CH (Dw := Dw) (hk59) ?_
 refine CH_q2 (Dw := Dw) rfl ?_
 refine VQ_y (fun w' hw' => Y_assign rfl) rfl rfl rfl ?_
 refine VQ_CH (Dw := Dw) ?_
 refine CH_tail (Dw := Dw) ?_
 show V _ _ _ _ [] _ _
 refine V_to (fun _ _ => rfl) ?_
 obtain rfl := Option.some.inj hm
 refine C_ret ?_
 try simp only [↓inBlock_ret, ↓then_ret]
 exact retQ rfl (Res.one Tryz.results15 rfl) ⟨rfl, hK.kp⟩

set_option maxRecDepth 4000 in
set_option maxHeartbeats 4000000 in
theorem portref2_CompareRatios_c (w : World) {A : Nat → Prop} (hA : ∀ b, w.heap.size ≤ b → A b) (a_ : staff_Ratio) (b : staff_Ratio) {r : (Int × Int)} (hm : portref2_CompareRatios a_ b = some r) : Ret Tryz.prog 5 #[.agg #[.string a_.num, .string a_.den], .agg #[.string b.num, .string b.den]] w fun v w' => v = .tuple #[.int .i64 r.1, .int .i64 r.2] ∧ Kp False w w' := by
 unfold portref2_CompareRatios at hm
 refine enter Tryz.func5 rfl Tryz.ntmps5 rfl ?_
 have hA0 := hA
 have hB := Nat.le_refl w.heap.size
 have hK : Tr False w.heap.size A w A w := Tr.refl (Dw := False) hA
 have hH : Hp w.heap.size A w [] := Hp.nil
 refine C_seq ?_
 refine C_region ?_
 refine V_box rfl rfl ?_
 intro b1 w2 h3
 have hk5 := h3.kp (Dw := False)
 have h4 : El (α := staff_Ratio) A w2 b1 0 a_ := h3.el hA ⟨[.string a_.num], _, rfl, rfl, rfl⟩
 have ht6 := Kp.tr (Dw := False) hk5 hA hB
 replace hK := Tr.trans (Dw := False) hK ht6
 replace hB := Nat.le_trans hB ht6.ex.size
 replace hA := ht6.new
 refine V_box rfl rfl ?_
 intro b7 w9 h10
 have hk12 := h10.kp (Dw := False)
 have h11 : El (α := staff_Ratio) A w9 b7 0 b := h10.el hA ⟨[.string b.num], _, rfl, rfl, rfl⟩
 have ht13 := Kp.tr (Dw := False) hk12 hA hB
 replace h4 := El.tr (Dw := False) h4 ht13
 replace hK := Tr.trans (Dw := False) hK ht13
 replace hB := Nat.le_trans hB ht13.ex.size
 replace hA := ht13.new
 refine V_as rfl rfl ?_
 refine V_as rfl rfl ?_
 refine V_to (fun _ _ => rfl) ?_
 refine C_seq ?_
 refine C_seq ?_
 refine C_region ?_
 obtain ⟨h14, _⟩ := El_staff_Ratio h4
 refine V_y (Y_loadA h14 Tryz.isAgg23 Tryz.sizeOf23 rfl) rfl rfl rfl ?_
 obtain ⟨h15, _⟩ := El_staff_Ratio h11
 refine V_y (Y_loadA h15 Tryz.isAgg23 Tryz.sizeOf23 rfl) rfl rfl rfl ?_
 obtain ⟨x16, hx16, hm⟩ := Option.bind_eq_some_iff.1 hm
 refine V_call Tryz.call13 rfl rfl rfl rfl (portref2_twoRatios_c w9 hA a_ b hx16) ?_
 rintro _ w17 ⟨rfl, hk18⟩
 have ht19 := Kp.tr (Dw := False) hk18 hA hB
 replace h4 := El.tr (Dw := False) h4 ht19
 replace h11 := El.tr (Dw := False) h11 ht19
 replace hK := Tr.trans (Dw := False) hK ht19
 replace hB := Nat.le_trans hB ht19.ex.size
 replace hA := ht19.new
 refine V_as rfl rfl ?_
 refine V_to (fun _ _ => rfl) ?_
 refine C_seq ?_
 refine C_region ?_
 refine V_mv rfl rfl ?_
 refine V_y (Y_neq rfl rfl) rfl rfl rfl ?_
 refine V_to (fun _ _ => rfl) ?_
 refine C_cond rfl (fun hc20 => ?_) (fun hc20 => ?_)
 ·rw [if_pos hc20] at hm
  refine C_seq ?_
  refine C_region ?_
  refine V_mv rfl rfl ?_
  refine V_as rfl rfl ?_
  refine V_as rfl rfl ?_
  refine V_to (fun _ _ => rfl) ?_
  obtain rfl := Option.some.inj hm
  refine C_ret ?_
  try simp only [↓inBlock_ret, ↓then_ret]
  exact retQ rfl (Res.two Tryz.results5 rfl rfl) ⟨rfl, hK.kp⟩
 ·rw [if_neg (nt hc20)] at hm
  refine C_skip_to (fun _ _ => rfl) ?_
  refine C_seq ?_
  refine C_region_ch (Dw := False) A 7 [(1, 0), (1, 2), (2, 1), (2, 3), (2, 4), (1, 5), (1, 6)] Tryz_mixed (by kernel_rfl) (fun w21 hk22 => ?_)
  have ht23 := Kp.tr (Dw := False) hk22 hA hB
  replace h4 := El.tr (Dw := False) h4 ht23
  replace h11 := El.tr (Dw := False) h11 ht23
  replace hK := Tr.trans (Dw := False) hK ht23
  replace hB := Nat.le_trans hB ht23.ex.size
  replace hA := ht23.new
  refine CH_q2 (Dw := False) rfl ?_
  obtain ⟨h24, _⟩ := El_staff_Ratio h4
  refine VQ_y (fun w' hw' => Y_loadA (At.same h24 (hw'.2 _ h4.2.1 h4.1)) Tryz.isAgg23 Tryz.sizeOf23 rfl) rfl rfl rfl ?_
  refine VQ_CH (Dw := False) ?_
  refine CH_q2 (Dw := False) rfl ?_
  obtain ⟨h25, _⟩ := El_staff_Ratio h11
  refine VQ_y (fun w' hw' => Y_loadA (At.same h25 (hw'.2 _ h11.2.1 h11.1)) Tryz.isAgg23 Tryz.sizeOf23 rfl) rfl rfl rfl ?_
  refine VQ_CH (Dw := False) ?_
  refine CH_l1 (Dw := False) (k := 0) rfl ?_
  obtain ⟨x26, hx26, hm⟩ := Option.bind_eq_some_iff.1 hm
  refine V_call Tryz.call14 rfl rfl rfl rfl (portref2_ratOf_c (Dw := False) w21 hA a_ hx26) ?_
  rintro _ w31 ⟨v27, v29, rfl, h28, h30, hk32⟩
  have ht33 := Kp.tr (Dw := False) hk32 hA hB
  replace hK := Tr.trans (Dw := False) hK ht33
  replace hB := Nat.le_trans hB ht33.ex.size
  replace hA := ht33.new
  refine V_CH (Dw := False) (hk32) ?_
  refine CH_l1 (Dw := False) (k := 0) rfl ?_
  obtain ⟨x34, hx34, hm⟩ := Option.bind_eq_some_iff.1 hm
  refine V_call Tryz.call14 rfl rfl rfl rfl (portref2_ratOf_c (Dw := False) w31 hA b hx34) ?_
  rintro _ w39 ⟨v35, v37, rfl, h36, h38, hk40⟩
  have ht41 := Kp.tr (Dw := False) hk40 hA hB
  replace h28 := Sl.tr (Dw := False) h28 ht41
  replace h30 := Sl.tr (Dw := False) h30 ht41
  replace hK := Tr.trans (Dw := False) hK ht41
  replace hB := Nat.le_trans hB ht41.ex.size
  replace hA := ht41.new
  refine V_CH (Dw := False) (hk40) ?_
  refine CH_l1 (Dw := False) (k := 0) rfl ?_
  obtain ⟨x42, hx42, hm⟩ := Option.bind_eq_some_iff.1 hm
  refine V_call Tryz.call15 rfl rfl rfl rfl (portref2_ratio_cmp_c (Dw := False) w39 hA x26 v27 h28 v29 h30 x34 v35 h36 v37 h38 hx42) ?_
  rintro _ w43 ⟨rfl, hk44⟩
  have ht45 := Kp.tr (Dw := False) hk44 hA hB
  replace hK := Tr.trans (Dw := False) hK ht45
  refine V_CH (Dw := False) (hk44) ?_
  refine CH_q2 (Dw := False) rfl ?_
  refine VQ_y (fun w' hw' => Y_assign rfl) rfl rfl rfl ?_
  refine VQ_CH (Dw := False) ?_
  refine CH_q2 (Dw := False) rfl ?_
  refine VQ_y (fun w' hw' => Y_assign rfl) rfl rfl rfl ?_
  refine VQ_CH (Dw := False) ?_
  refine CH_tail (Dw := False) ?_
  show V _ _ _ _ [] _ _
  refine V_to (fun _ _ => rfl) ?_
  obtain rfl := Option.some.inj hm
  refine C_ret ?_
  try simp only [↓inBlock_ret, ↓then_ret]
  exact retQ rfl (Res.two Tryz.results5 rfl rfl) ⟨rfl, hK.kp⟩

set_option maxRecDepth 4000 in
set_option maxHeartbeats 4000000 in
theorem staff_nat_plus_c (w : World) {A : Nat → Prop} (hA : ∀ b, w.heap.size ≤ b → A b) (a_ : (List Int)) (v_a_ : Value) (h_a_ : Sl A w v_a_ a_) (b : (List Int)) (v_b : Value) (h_b : Sl A w v_b b) {r : (List Int)} (hm : staff_nat_plus a_ b = some r) : Ret Tryz.prog 19 #[v_a_, v_b] w fun v w' => ∃ s0, v = s0 ∧ Ownd 3 w w' s0 r ∧ Kp Dw w w' := by
 unfold staff_nat_plus at hm
 refine enter Tryz.func19 rfl Tryz.ntmps19 rfl ?_
 have hA0 := hA
 have hB := Nat.le_refl w.heap.size
 have hK : Tr Dw w.heap.size A w A w := Tr.refl (Dw := Dw) hA
 have hH : Hp w.heap.size A w [] := Hp.nil
 refine C_seq ?_
 refine C_region ?_
 refine V_as rfl rfl ?_
 refine V_to (fun _ _ => rfl) ?_
 refine C_seq ?_
 refine C_seq ?_
 refine C_region ?_
 refine V_mv rfl rfl ?_
 refine V_y (Y_lenSl h_a_ rfl Tryz.underlying33 rfl) rfl rfl rfl ?_
 refine V_mv rfl rfl ?_
 refine V_y (Y_lenSl h_b rfl Tryz.underlying33 rfl) rfl rfl rfl ?_
 refine V_y (Y_lss rfl rfl) rfl rfl rfl ?_
 refine V_to (fun _ _ => rfl) ?_
 obtain ⟨s6, ho5, hm⟩ := Option.bind_eq_some_iff.1 hm
 refine C_cutG (ι := (Value × Value)) (fun ⟨v8, v10⟩ => [(0, v8), (1, v10)]) (fun ⟨v8, v10⟩ => fun w' => Sl A w' v8 s6.1 ∧ Sl A w' v10 s6.2 ∧ w = w') ?_ ?_
 ·refine C_cond rfl (fun hc15 => ?_) (fun hc15 => ?_)
  ·rw [if_pos hc15] at ho5
   refine C_region ?_
   refine V_mv rfl rfl ?_
   refine V_mv rfl rfl ?_
   refine V_as rfl rfl ?_
   refine V_as rfl rfl ?_
   obtain rfl := Option.some.inj ho5
   refine V_end (fun a ha16 => ?_)
   exact ⟨(v_b, v_a_), ha16.sub ⟨rfl, rfl, trivial⟩, ⟨h_b, h_a_, rfl⟩⟩
  ·rw [if_neg (nt hc15)] at ho5
   obtain rfl := Option.some.inj ho5
   refine C_skip (fun a ha17 => ?_)
   exact ⟨(v_a_, v_b), ha17.sub ⟨rfl, rfl, trivial⟩, ⟨h_a_, h_b, rfl⟩⟩
 rintro ⟨v8, v10⟩ _ ⟨h9, h11, rfl⟩ a ha14
 refine C_at (n := ⟨71, [], none⟩) (fun _ _ => rfl) ?_ ha14
 refine C_seq ?_
 refine C_region ?_
 refine V_mv rfl rfl ?_
 refine V_y (Y_lenSl h9 rfl Tryz.underlying33 rfl) rfl rfl rfl ?_
 refine V_mv rfl rfl ?_
 refine V_y (Y_lenSl h9 rfl Tryz.underlying33 rfl) rfl rfl rfl ?_
 refine V_y (Y_addI rfl rfl) rfl rfl rfl ?_
 obtain ⟨x18, hx18, hm⟩ := Option.bind_eq_some_iff.1 hm
 refine V_makeCH (Dw := Dw) (e := 3) (ti := Tryz.t3) hH hx18 (fun _ _ => rfl) Tryz.underlying33 Tryz_info3 rfl rfl rfl (by decide) (by decide) hB hA rfl rfl rfl ?_
 intro v19 w20 A21 hH22 ht23
 replace h9 := Sl.tr h9 ht23
 replace h11 := Sl.tr h11 ht23
 replace hK := Tr.trans hK ht23
 replace hB := Nat.le_trans hB ht23.ex.size
 replace hA := ht23.new
 replace hH : Hp w.heap.size A21 w20 (obS (α := Int) 3 v19 x18 :: []) := hH22
 refine V_as rfl rfl ?_
 refine V_to (fun _ _ => rfl) ?_
 refine C_seq ?_
 refine C_region ?_
 refine V_mv rfl rfl ?_
 refine V_mv rfl rfl ?_
 refine V_copyH (Dw := Dw) (α := Int) (e := 3) (v := v19) (l := x18) hH (i := 0) rfl h9 rfl Tryz.underlying33 (by rw [Tryz_info3]; rfl) hB hA rfl rfl rfl ?_
 intro w24 hH25 ht26
 replace h11 := Sl.tr h11 ht26
 replace hK := Tr.trans hK ht26
 replace hB := Nat.le_trans hB ht26.ex.size
 replace hA := ht26.new
 replace hH : Hp w.heap.size A21 w24 (obS (α := Int) 3 v19 (copyL x18 s6.1) :: []) := hH25
 refine V_to (fun _ _ => rfl) ?_
 refine C_seq ?_
 refine C_region ?_
 refine V_as rfl rfl ?_
 refine V_to (fun _ _ => rfl) ?_
 refine C_seq ?_
 refine C_seq ?_
 refine C_region ?_
 refine V_as rfl rfl ?_
 refine V_to (fun _ _ => rfl) ?_
 obtain ⟨o27, ho27, hm⟩ := Option.bind_eq_some_iff.1 hm
 refine C_cutG (ι := (((List Int) × Int × Int) × Value × (Nat → Prop))) (fun ⟨s28, v34, A36⟩ => [(5, v34), (6, .int .i64 s28.2.1)]) (fun ⟨s28, v34, A36⟩ => fun w' => o27 = .fin s28 ∧ Hp w.heap.size A36 w' (obS (α := Int) 3 v34 s28.1 :: []) ∧ Tr Dw w.heap.size A21 w24 A36 w') ?_ ?_
 ·refine C_block ?_
  refine C_while ho27 (fun s38 a w' => ∃ i : (Value × (Nat → Prop)), Has ⟨71, [], none⟩ a ([(1, v10), (5, i.1), (6, .int .i64 s38.2.1), (7, .int .i64 s38.2.2)]) ∧ Hp w.heap.size i.2 w' (obS (α := Int) 3 i.1 s38.1 :: []) ∧ Tr Dw w.heap.size A21 w24 i.2 w') (fun a ha => ⟨(v19, A21), ha.sub ⟨rfl, rfl, rfl, rfl, trivial⟩, ⟨hH, Tr.refl (Dw := Dw) hA⟩⟩) ?_
  rintro K s38 a w39 ⟨⟨v40, A42⟩, ha85, hH43, hr29⟩ K50
  refine C_of ?_ ha85
  replace h11 := Sl.tr h11 hr29
  replace hB := Nat.le_trans hB hr29.ex.size
  replace hA := hr29.new
  replace hH : Hp w.heap.size A42 w39 (obS (α := Int) 3 v40 s38.1 :: []) := hH43
  obtain ⟨x44, h45, h46⟩ := K50
  refine C_seq ?_
  refine C_seq ?_
  refine C_region ?_
  refine V_mv rfl rfl ?_
  refine V_mv rfl rfl ?_
  refine V_y (Y_lenSl (Hp.any (α := Int) (e := 3) (v := v40) (l := s38.1) hH (i := 0) rfl) rfl Tryz.underlying33 rfl) rfl rfl rfl ?_
  refine V_y (Y_lss rfl rfl) rfl rfl rfl ?_
  refine V_mv rfl rfl ?_
  refine V_cut 9 (fun _ : Unit => [(1, v10), (5, v40), (6, .int .i64 s38.2.1), (7, .int .i64 s38.2.2), (38, .bool ((decide (s38.2.2 < (s38.1.length : Int))) && ((decide (s38.2.2 < (s6.2.length : Int))) || (decide ((0 : Int) < s38.2.1)))))]) (fun _ w' => w39 = w') ?_ ?_
  ·simp only [List.take, List.drop]
   rcases Bool.eq_false_or_eq_true (decide (s38.2.2 < (s38.1.length : Int))) with hc51 | hc51
   ·refine V_ge rfl rfl rfl hc51 ?_
    refine V_mv rfl rfl ?_
    refine V_ge rfl rfl rfl hc51 ?_
    refine V_mv rfl rfl ?_
    refine V_ge rfl rfl rfl hc51 ?_
    refine V_y (Y_lenSl h11 rfl Tryz.underlying33 rfl) rfl rfl rfl ?_
    refine V_ge rfl rfl rfl hc51 ?_
    refine V_y (Y_lss rfl rfl) rfl rfl rfl ?_
    refine V_ge rfl rfl rfl hc51 ?_
    refine V_mv rfl rfl ?_
    refine V_cut 3 (fun _ : Unit => [(1, v10), (5, v40), (6, .int .i64 s38.2.1), (7, .int .i64 s38.2.2), (29, .bool (decide (s38.2.2 < (s38.1.length : Int)))), (37, .bool ((decide (s38.2.2 < (s6.2.length : Int))) || (decide ((0 : Int) < s38.2.1))))]) (fun _ w' => w39 = w') ?_ ?_
    ·simp only [List.take, List.drop]
     rcases Bool.eq_false_or_eq_true (decide (s38.2.2 < (s6.2.length : Int))) with hc53 | hc53
     ·refine V_gn rfl rfl rfl hc53 rfl rfl rfl ?_
      refine V_gn rfl rfl rfl hc53 rfl rfl rfl ?_
      refine V_ge rfl rfl rfl hc51 ?_
      refine V_y (Y_pick_te rfl hc53 rfl) rfl rfl rfl ?_
      exact V_end fun a ha => ⟨(), ha.sub ⟨rfl, rfl, rfl, rfl, rfl, (by rw [hc53]; rfl), trivial⟩, rfl⟩
     ·refine V_ge rfl rfl rfl hc53 ?_
      refine V_mv rfl rfl ?_
      refine V_ge rfl rfl rfl hc53 ?_
      refine V_y (Y_gtr rfl rfl) rfl rfl rfl ?_
      refine V_ge rfl rfl rfl hc51 ?_
      refine V_y (Y_pick_fe rfl hc53 rfl) rfl rfl rfl ?_
      exact V_end fun a ha => ⟨(), ha.sub ⟨rfl, rfl, rfl, rfl, rfl, (by rw [hc53]; rfl), trivial⟩, rfl⟩
    simp only [List.take, List.drop]
    rintro _ _ rfl
    refine V_y (Y_pick_te rfl hc51 rfl) rfl rfl rfl ?_
    exact V_end fun a ha => ⟨(), ha.sub ⟨rfl, rfl, rfl, rfl, (by rw [hc51]; rfl), trivial⟩, rfl⟩
   ·refine V_gn rfl rfl rfl hc51 rfl rfl rfl ?_
    refine V_gn rfl rfl rfl hc51 rfl rfl rfl ?_
    refine V_gn rfl rfl rfl hc51 rfl rfl rfl ?_
    refine V_gn rfl rfl rfl hc51 rfl rfl rfl ?_
    refine V_gn rfl rfl rfl hc51 rfl rfl rfl ?_
    refine V_gu rfl rfl rfl rfl rfl ?_
    refine V_gu rfl rfl rfl rfl rfl ?_
    refine V_gn rfl rfl rfl hc51 rfl rfl rfl ?_
    refine V_y (Y_pick_fe rfl hc51 rfl) rfl rfl rfl ?_
    exact V_end fun a ha => ⟨(), ha.sub ⟨rfl, rfl, rfl, rfl, (by rw [hc51]; rfl), trivial⟩, rfl⟩
  simp only [List.take, List.drop]
  rintro _ _ rfl
  refine V_to (fun _ _ => rfl) ?_
  refine C_cond rfl (fun hc55 => ?_) (fun hc55 => ?_)
  ·rw [if_pos hc55] at h45
   refine C_skip_to (fun _ _ => rfl) ?_
   refine C_seq ?_
   refine C_block ?_
   refine C_seq ?_
   refine C_region ?_
   refine V_mv rfl rfl ?_
   refine V_mv rfl rfl ?_
   obtain ⟨x56, hx56, h45⟩ := Option.bind_eq_some_iff.1 h45
   refine V_indexAddrH (α := Int) (e := 3) (v := v40) (l := s38.1) hH (i := 0) rfl hx56 Tryz.underlying33 Tryz.sizeOf3 rfl rfl rfl ?_
   intro b57 o58 h59 hl60
   refine V_y (Y_load (El.int h59) Tryz.isAgg3 rfl) rfl rfl rfl ?_
   refine V_mv rfl rfl ?_
   refine V_y (Y_addI rfl rfl) rfl rfl rfl ?_
   refine V_as rfl rfl ?_
   refine V_to (fun _ _ => rfl) ?_
   refine C_seq ?_
   refine C_seq ?_
   refine C_region ?_
   refine V_mv rfl rfl ?_
   refine V_mv rfl rfl ?_
   refine V_y (Y_lenSl h11 rfl Tryz.underlying33 rfl) rfl rfl rfl ?_
   refine V_y (Y_lss rfl rfl) rfl rfl rfl ?_
   refine V_to (fun _ _ => rfl) ?_
   obtain ⟨s62, ho61, h45⟩ := Option.bind_eq_some_iff.1 h45
   refine C_cutG (ι := Unit) (fun (_ : Unit) => [(1, v10), (5, v40), (7, .int .i64 s38.2.2), (8, .int .i64 s62)]) (fun (_ : Unit) => fun w' => w39 = w') ?_ ?_
   ·refine C_cond rfl (fun hc68 => ?_) (fun hc68 => ?_)
    ·rw [if_pos hc68] at ho61
     refine C_region ?_
     refine V_mv rfl rfl ?_
     refine V_mv rfl rfl ?_
     refine V_mv rfl rfl ?_
     obtain ⟨x69, hx69, ho61⟩ := Option.bind_eq_some_iff.1 ho61
     refine V_indexAddr h11 hx69 Tryz.underlying33 Tryz.sizeOf3 rfl rfl rfl ?_
     intro b70 o71 h72
     refine V_y (Y_load (El.int h72) Tryz.isAgg3 rfl) rfl rfl rfl ?_
     refine V_y (Y_addI rfl rfl) rfl rfl rfl ?_
     refine V_as rfl rfl ?_
     obtain rfl := Option.some.inj ho61
     refine V_end (fun a ha73 => ?_)
     exact ⟨(), ha73.sub ⟨rfl, rfl, rfl, rfl, trivial⟩, rfl⟩
    ·rw [if_neg (nt hc68)] at ho61
     obtain rfl := Option.some.inj ho61
     refine C_skip (fun a ha74 => ?_)
     exact ⟨(), ha74.sub ⟨rfl, rfl, rfl, rfl, trivial⟩, rfl⟩
   rintro _ _ rfl a ha67
   refine C_at (n := ⟨71, [], none⟩) (fun _ _ => rfl) ?_ ha67
   refine C_region ?_
   refine V_mv rfl rfl ?_
   refine V_mv rfl rfl ?_
   refine V_mv rfl rfl ?_
   refine V_y (Y_rem (by rw [rem, if_neg (by decide)]) rfl rfl) rfl rfl rfl ?_
   refine V_mv rfl rfl ?_
   refine V_y (Y_quo (by rw [quo, if_neg (by decide)]) rfl rfl) rfl rfl rfl ?_
   refine V_indexAddrH (α := Int) (e := 3) (v := v40) (l := s38.1) hH (i := 0) rfl hx56 Tryz.underlying33 Tryz.sizeOf3 rfl rfl rfl ?_
   intro b75 o76 h77 hl78
   obtain ⟨x79, hx79, h45⟩ := Option.bind_eq_some_iff.1 h45
   refine V_storeH (Dw := Dw) (α := Int) (e := 3) (v := v40) (l := s38.1) hH (i := 0) rfl hl78 hx79 rfl Tryz.sizeOf3 rfl hB hA rfl rfl ?_
   intro w80 hH81 ht82
   replace hr29 := Tr.trans hr29 ht82
   replace hH : Hp w.heap.size A42 w80 (obS (α := Int) 3 v40 x79 :: []) := hH81
   refine V_as rfl rfl ?_
   refine V_to (fun _ _ => rfl) ?_
   refine C_region ?_
   refine V_mv rfl rfl ?_
   refine V_y (Y_addI rfl rfl) rfl rfl rfl ?_
   refine V_as rfl rfl ?_
   obtain rfl := Option.some.inj h45
   refine V_end (fun a ha83 => ?_)
   exact ⟨(x79, w64 (Int.tdiv s62 1000000000), w64 (s38.2.2 + 1)), h46, ⟨(v40, A42), ha83.sub ⟨rfl, rfl, rfl, rfl, trivial⟩, ⟨hH, hr29⟩⟩⟩
  ·rw [if_neg (nt hc55)] at h45
   obtain rfl := Option.some.inj h45
   refine C_exit (fun a ha84 => ?_)
   exact ⟨((s38.1, s38.2.1, s38.2.2), v40, A42), ha84.sub ⟨rfl, rfl, trivial⟩, ⟨h46.symm, hH, hr29⟩⟩
 rintro ⟨s28, v34, A36⟩ w31 ⟨rfl, hH37, hk32⟩ a ha33
 rw [Lp.andThen_fin] at hm
 replace hK := Tr.trans hK hk32
 replace hB := Nat.le_trans hB hk32.ex.size
 replace hA := hk32.new
 replace hH : Hp w.heap.size A36 w31 (obS (α := Int) 3 v34 s28.1 :: []) := hH37
 refine C_at (n := ⟨71, [], none⟩) (fun _ _ => rfl) ?_ ha33
 refine C_seq ?_
 refine C_seq ?_
 refine C_region ?_
 refine V_mv rfl rfl ?_
 refine V_y (Y_gtr rfl rfl) rfl rfl rfl ?_
 refine V_to (fun _ _ => rfl) ?_
 obtain ⟨s87, ho86, hm⟩ := Option.bind_eq_some_iff.1 hm
 refine C_cutG (ι := (Value × (Nat → Prop))) (fun ⟨v89, A94⟩ => [(5, v89)]) (fun ⟨v89, A94⟩ => fun w' => Hp w.heap.size A94 w' (obS (α := Int) 3 v89 s87 :: []) ∧ Tr Dw w.heap.size A36 w31 A94 w') ?_ ?_
 ·have hr88 : Tr Dw w.heap.size A36 w31 A36 w31 := Tr.refl (Dw := Dw) hA
  refine C_cond rfl (fun hc96 => ?_) (fun hc96 => ?_)
  ·rw [if_pos hc96] at ho86
   refine C_region ?_
   refine V_mv rfl rfl ?_
   refine V_mv rfl rfl ?_
   refine V_buildSlice (Dw := Dw) (l := ([s28.2.1] : List Int)) (len := 1) Tryz.underlying33 Tryz.sizeOf3 Tryz.zeroValue3 rfl (by with_unfolding_all rfl) (show (1 * 1 : Nat) ≠ 0 by decide) (show (1 * 1 : Nat) ≤ 2 ^ 24 by decide) hA ⟨[.int .i64 s28.2.1], _, rfl, rfl, rfl⟩ rfl rfl ?_
   intro v97 w98 hk100 h99
   have ht101 := Kp.tr hk100 hA hB
   replace hH := Hp.kp hH hk100
   replace hr88 := Tr.trans hr88 ht101
   replace hB := Nat.le_trans hB ht101.ex.size
   replace hA := ht101.new
   obtain ⟨x102, hx102, ho86⟩ := Option.bind_eq_some_iff.1 ho86
   refine V_appendH (Dw := Dw) (e := 3) (v := v34) (l := s28.1) (ti := Tryz.t3) (bytes := 8) (lim := 17592186044416) hH (i := 0) rfl h99 hx102 Tryz.underlying33 Tryz_info3 rfl rfl rfl rfl (by decide) (by decide) (by decide) hB hA rfl rfl rfl ?_
   intro v103 w104 A105 hH106 ht107
   replace hr88 := Tr.trans hr88 ht107
   replace hH : Hp w.heap.size A105 w104 (obS (α := Int) 3 v103 x102 :: []) := hH106
   refine V_as rfl rfl ?_
   obtain rfl := Option.some.inj ho86
   refine V_end (fun a ha108 => ?_)
   exact ⟨(v103, A105), ha108.sub ⟨rfl, trivial⟩, ⟨hH, hr88⟩⟩
  ·rw [if_neg (nt hc96)] at ho86
   obtain rfl := Option.some.inj ho86
   refine C_skip (fun a ha109 => ?_)
   exact ⟨(v34, A36), ha109.sub ⟨rfl, trivial⟩, ⟨hH, hr88⟩⟩
 rintro ⟨v89, A94⟩ w91 ⟨hH95, hk92⟩ a ha93
 replace hK := Tr.trans hK hk92
 replace hA := hk92.new
 replace hH : Hp w.heap.size A94 w91 (obS (α := Int) 3 v89 s87 :: []) := hH95
 refine C_at (n := ⟨71, [], none⟩) (fun _ _ => rfl) ?_ ha93
 refine C_seq ?_
 refine C_region ?_
 refine V_mv rfl rfl ?_
 refine V_as rfl rfl ?_
 refine V_to (fun _ _ => rfl) ?_
 obtain rfl := Option.some.inj hm
 refine C_ret ?_
 try simp only [↓inBlock_ret, ↓then_ret]
 exact retQ rfl (Res.one Tryz.results19 rfl) ⟨v89, rfl, (Hp.ownd hH (i := 0) rfl), hK.kp⟩

def Tryz_strconv_Itoa_lay_ren : Go.Shelf.Ren := ⟨fun | 129 => 95 | 171 => 53 | 243 => 66 | 246 => 77 | 283 => 84 | 284 => 85 | 285 => 86 | 286 => 87 | 317 => 94 | 318 => 96 | 319 => 97 | 320 => 98 | 337 => 100 | 338 => 101 | n => n, fun | 0 => 0 | 1 => 1 | 2 => 2 | 3 => 3 | 4 => 4 | 5 => 5 | 6 => 6 | 7 => 7 | 8 => 8 | 9 => 9 | 10 => 10 | 11 => 11 | 12 => 12 | 13 => 13 | 14 => 14 | 15 => 15 | 16 => 16 | 17 => 17 | 18 => 18 | 19 => 19 | 20 => 20 | 21 => 21 | 23 => 86 | 27 => 138 | 28 => 32 | 37 => 80 | 40 => 136 | 41 => 108 | 46 => 78 | 47 => 143 | 51 => 77 | 52 => 87 | 53 => 76 | 54 => 123 | 55 => 135 | 63 => 111 | 64 => 121 | 69 => 117 | 70 => 89 | 71 => 90 | 72 => 91 | 74 => 82 | 75 => 83 | 76 => 84 | 77 => 85 | 80 => 69 | 81 => 151 | 83 => 92 | 84 => 114 | 85 => 103 | 86 => 104 | 104 => 56 | 105 => 109 | 106 => 110 | 108 => 120 | 111 => 142 | 114 => 137 | 115 => 95 | 116 => 96 | 117 => 97 | 118 => 98 | 119 => 131 | 122 => 94 | 123 => 99 | 124 => 100 | 127 => 101 | 128 => 93 | 137 => 132 | 138 => 133 | 139 => 134 | 143 => 128 | 144 => 129 | 145 => 130 | 164 => 112 | 165 => 113 | 167 => 102 | 168 => 105 | 169 => 106 | 170 => 107 | 171 => 122 | 172 => 124 | 173 => 125 | 174 => 126 | 175 => 115 | 176 => 116 | 209 => 118 | 210 => 119 | 211 => 139 | 212 => 140 | 213 => 141 | 214 => 127 | 232 => 144 | 233 => 145 | 236 => 40 | 238 => 146 | 239 => 147 | 240 => 148 | 241 => 149 | 242 => 150 | 243 => 152 | 244 => 153 | 245 => 154 | 246 => 155 | 247 => 156 | 248 => 157 | 249 => 158 | n => n, fun | 1 => 5 | 3 => 2 | 4 => 3 | 15 => 0 | 16 => 1 | 17 => 4 | 18 => 6 | 19 => 7 | n => n⟩
theorem Tryz_strconv_Itoa_lay0 : Go.Proofs.Lays.n171 Tryz.prog Tryz_strconv_Itoa_lay_ren := {
 mixed := by kernel_rfl,
 f129 := Tryz.func95.trans (congrArg some (by kernel_rfl)),
 f171 := Tryz.func53.trans (congrArg some (by kernel_rfl)),
 f243 := Tryz.func66.trans (congrArg some (by kernel_rfl)),
 f246 := Tryz.func77.trans (congrArg some (by kernel_rfl)),
 f283 := Tryz.func84.trans (congrArg some (by kernel_rfl)),
 f284 := Tryz.func85.trans (congrArg some (by kernel_rfl)),
 f285 := Tryz.func86.trans (congrArg some (by kernel_rfl)),
 f286 := Tryz.func87.trans (congrArg some (by kernel_rfl)),
 f317 := Tryz.func94.trans (congrArg some (by kernel_rfl)),
 f318 := Tryz.func96.trans (congrArg some (by kernel_rfl)),
 f319 := Tryz.func97.trans (congrArg some (by kernel_rfl)),
 f320 := Tryz.func98.trans (congrArg some (by kernel_rfl)),
 f337 := Tryz.func100.trans (congrArg some (by kernel_rfl)),
 f338 := Tryz.func101.trans (congrArg some (by kernel_rfl)),
 t0 := Tryz.underlying0,
 a0 := Tryz.isAgg0,
 z0 := Tryz.sizeOf0,
 v0 := Tryz.zeroValue0,
 t2 := Tryz.underlying2,
 a2 := Tryz.isAgg2,
 z2 := Tryz.sizeOf2,
 v2 := Tryz.zeroValue2,
 t3 := Tryz.underlying3,
 a3 := Tryz.isAgg3,
 z3 := Tryz.sizeOf3,
 v3 := Tryz.zeroValue3,
 t4 := Tryz.underlying4,
 a4 := Tryz.isAgg4,
 z4 := Tryz.sizeOf4,
 v4 := Tryz.zeroValue4,
 t5 := Tryz.underlying5,
 a5 := Tryz.isAgg5,
 z5 := Tryz.sizeOf5,
 v5 := Tryz.zeroValue5,
 t9 := Tryz.underlying9,
 a9 := Tryz.isAgg9,
 z9 := Tryz.sizeOf9,
 v9 := Tryz.zeroValue9,
 t20 := Tryz.underlying20,
 a20 := Tryz.isAgg20,
 z20 := Tryz.sizeOf20,
 v20 := Tryz.zeroValue20,
 t37 := Tryz.underlying80,
 a37 := Tryz.isAgg80,
 z37 := Tryz.sizeOf80,
 v37 := Tryz.zeroValue80,
 t46 := Tryz.underlying78,
 a46 := Tryz.isAgg78,
 z46 := Tryz.sizeOf78,
 v46 := Tryz.zeroValue78,
 t51 := Tryz.underlying77,
 a51 := Tryz.isAgg77,
 z51 := Tryz.sizeOf77,
 v51 := Tryz.zeroValue77,
 t53 := Tryz.underlying76,
 a53 := Tryz.isAgg76,
 z53 := Tryz.sizeOf76,
 v53 := Tryz.zeroValue76,
 t171 := Tryz.underlying122,
 a171 := Tryz.isAgg122,
 z171 := Tryz.sizeOf122,
 v171 := Tryz.zeroValue122,
 t173 := Tryz.underlying125,
 a173 := Tryz.isAgg125,
 z173 := Tryz.sizeOf125,
 v173 := Tryz.zeroValue125,
 t212 := Tryz.underlying140,
 a212 := Tryz.isAgg140,
 z212 := Tryz.sizeOf140,
 v212 := Tryz.zeroValue140,
 t213 := Tryz.underlying141,
 a213 := Tryz.isAgg141,
 z213 := Tryz.sizeOf141,
 t232 := Tryz.underlying144,
 a232 := Tryz.isAgg144,
 z232 := Tryz.sizeOf144,
 v232 := Tryz.zeroValue144,
 t233 := Tryz.underlying145,
 a233 := Tryz.isAgg145,
 z233 := Tryz.sizeOf145,
 v233 := Tryz.zeroValue145,
 g17 := by kernel_rfl,
 g18 := by kernel_rfl,
 g19 := by kernel_rfl }
theorem Tryz_strconv_Itoa_lay : Go.Proofs.LaysM.n171 Tryz.prog Tryz_strconv_Itoa_lay_ren := { Tryz_strconv_Itoa_lay0 with
 i0 := by kernel_rfl,
 i2 := by kernel_rfl,
 i3 := by kernel_rfl,
 i4 := by kernel_rfl,
 i5 := by kernel_rfl,
 i9 := by kernel_rfl,
 i20 := by kernel_rfl,
 i37 := by kernel_rfl,
 i46 := by kernel_rfl,
 i51 := by kernel_rfl,
 i53 := by kernel_rfl,
 i171 := by kernel_rfl,
 i173 := by kernel_rfl,
 i212 := by kernel_rfl,
 i232 := by kernel_rfl,
 i233 := by kernel_rfl,
 m17 := by kernel_rfl,
 m18 := by kernel_rfl,
 m19 := by kernel_rfl }
theorem strconv_Itoa_c (w : World) {A : Nat → Prop} (hA : ∀ b, w.heap.size ≤ b → A b) (hT : Tb Tryz.prog A w) (n : Int) {r : ByteArray} (hm : strconv_Itoa n = some r) : Ret Tryz.prog 53 #[.int .i64 n] w fun v w' => v = .string r ∧ Kp False w w' := by
 unfold strconv_Itoa at hm
 split at hm
 case isFalse => cases hm
 rename_i h
 obtain rfl := Option.some.inj hm
 refine Calls.mono (Go.Proofs.Any.strconv_Itoa Tryz_strconv_Itoa_lay n h.1 h.2 w hT.1) ?_
 rintro _ w' ⟨rfl, k, os, rfl⟩
 exact ⟨_, rfl, rfl, .of (Go.Lib.below_grow _ w (Nat.le_refl _) k os)⟩

def Tryz_strings_Builder_WriteString_lay_ren : Go.Shelf.Ren := ⟨fun | 166 => 52 | 240 => 65 | 276 => 76 | n => n, fun | 0 => 0 | 1 => 1 | 2 => 2 | 3 => 3 | 4 => 4 | 5 => 5 | 6 => 6 | 7 => 7 | 8 => 8 | 9 => 9 | 10 => 10 | 11 => 11 | 12 => 12 | 13 => 13 | 14 => 14 | 15 => 15 | 16 => 16 | 17 => 17 | 18 => 18 | 19 => 19 | 20 => 20 | 21 => 21 | 23 => 86 | 27 => 138 | 28 => 32 | 37 => 80 | 40 => 136 | 41 => 108 | 46 => 78 | 47 => 143 | 51 => 77 | 52 => 87 | 53 => 76 | 54 => 123 | 55 => 135 | 63 => 111 | 64 => 121 | 69 => 117 | 70 => 89 | 71 => 90 | 72 => 91 | 74 => 82 | 75 => 83 | 76 => 84 | 77 => 85 | 80 => 69 | 81 => 151 | 83 => 92 | 84 => 114 | 85 => 103 | 86 => 104 | 104 => 56 | 105 => 109 | 106 => 110 | 108 => 120 | 111 => 142 | 114 => 137 | 115 => 95 | 116 => 96 | 117 => 97 | 118 => 98 | 119 => 131 | 122 => 94 | 123 => 99 | 124 => 100 | 127 => 101 | 128 => 93 | 137 => 132 | 138 => 133 | 139 => 134 | 143 => 128 | 144 => 129 | 145 => 130 | 164 => 112 | 165 => 113 | 167 => 102 | 168 => 105 | 169 => 106 | 170 => 107 | 171 => 122 | 172 => 124 | 173 => 125 | 174 => 126 | 175 => 115 | 176 => 116 | 209 => 118 | 210 => 119 | 211 => 139 | 212 => 140 | 213 => 141 | 214 => 127 | 232 => 144 | 233 => 145 | 236 => 40 | 238 => 146 | 239 => 147 | 240 => 148 | 241 => 149 | 242 => 150 | 243 => 152 | 244 => 153 | 245 => 154 | 246 => 155 | 247 => 156 | 248 => 157 | 249 => 158 | n => n, fun | 1 => 5 | 3 => 2 | 4 => 3 | 15 => 0 | 16 => 1 | 17 => 4 | 18 => 6 | 19 => 7 | n => n⟩
theorem Tryz_strings_Builder_WriteString_lay : Go.Proofs.Lays.n166 Tryz.prog Tryz_strings_Builder_WriteString_lay_ren := {
 mixed := by kernel_rfl,
 f166 := Tryz.func52.trans (congrArg some (by kernel_rfl)),
 f240 := Tryz.func65.trans (congrArg some (by kernel_rfl)),
 f276 := Tryz.func76.trans (congrArg some (by kernel_rfl)),
 t0 := Tryz.underlying0,
 a0 := Tryz.isAgg0,
 z0 := Tryz.sizeOf0,
 v0 := Tryz.zeroValue0,
 t3 := Tryz.underlying3,
 a3 := Tryz.isAgg3,
 z3 := Tryz.sizeOf3,
 v3 := Tryz.zeroValue3,
 t4 := Tryz.underlying4,
 a4 := Tryz.isAgg4,
 z4 := Tryz.sizeOf4,
 v4 := Tryz.zeroValue4,
 t9 := Tryz.underlying9,
 a9 := Tryz.isAgg9,
 z9 := Tryz.sizeOf9,
 v9 := Tryz.zeroValue9,
 t20 := Tryz.underlying20,
 a20 := Tryz.isAgg20,
 z20 := Tryz.sizeOf20,
 v20 := Tryz.zeroValue20,
 t37 := Tryz.underlying80,
 a37 := Tryz.isAgg80,
 z37 := Tryz.sizeOf80,
 v37 := Tryz.zeroValue80,
 t70 := Tryz.underlying89,
 a70 := Tryz.isAgg89,
 z70 := Tryz.sizeOf89,
 v70 := Tryz.zeroValue89,
 t72 := Tryz.underlying91,
 a72 := Tryz.isAgg91,
 z72 := Tryz.sizeOf91,
 v72 := Tryz.zeroValue91,
 t75 := Tryz.underlying83,
 a75 := Tryz.isAgg83,
 z75 := Tryz.sizeOf83,
 v75 := Tryz.zeroValue83,
 t164 := Tryz.underlying112,
 a164 := Tryz.isAgg112,
 z164 := Tryz.sizeOf112,
 v164 := Tryz.zeroValue112 }
theorem Tryz_strings_Builder_WriteString_lay_x : Go.Proofs.Builder.Extra Tryz.prog Tryz_strings_Builder_WriteString_lay_ren := {
 sizeBuilder := by kernel_rfl
 liesBuilder := by kernel_rfl
 t5 := Tryz.underlying5
 a5 := Tryz.isAgg5
 z5 := Tryz.sizeOf5
 v5 := Tryz.zeroValue5
 infoByte := by kernel_rfl
 cellsByte := by kernel_rfl
 sizeByte := by kernel_rfl
 neB5 := (by decide : (91 : Nat) ≠ 5) }
theorem strings_Builder_WriteString_c (w : World) {A : Nat → Prop} {B : Nat} (hB : B ≤ w.heap.size) (hA : ∀ b, w.heap.size ≤ b → A b) (b : ByteArray) (b_b : Nat) (s : ByteArray) {L : List Ob} (hH : Hp B A w (obBd 91 5 b_b  b :: L)) {r : Int × Unit × ByteArray} (hm : strings_Builder_WriteString b s = some r) : Ret Tryz.prog 52 #[.pointer (some ⟨b_b, 0, none⟩), .string s] w fun v w' => ∃ A1 : Nat → Prop, v = .tuple #[.int .i64 r.1, .nilIface] ∧ Hp B A1 w' (obBd 91 5 b_b  r.2.2 :: L) ∧ Tr False B A w A1 w' := by
 unfold strings_Builder_WriteString at hm
 split at hm
 case isFalse => cases hm
 rename_i h
 obtain rfl := Option.some.inj hm
 exact Hp.bdWrite (ρ := Tryz_strings_Builder_WriteString_lay_ren) s (fun p v xs h1 h2 => bd_write Tryz_strings_Builder_WriteString_lay Tryz_strings_Builder_WriteString_lay_x b_b p v xs s w h1 h2) hB hA hH h

def Tryz_strings_Builder_String_lay_ren : Go.Shelf.Ren := ⟨fun | 169 => 54 | n => n, fun | 0 => 0 | 1 => 1 | 2 => 2 | 3 => 3 | 4 => 4 | 5 => 5 | 6 => 6 | 7 => 7 | 8 => 8 | 9 => 9 | 10 => 10 | 11 => 11 | 12 => 12 | 13 => 13 | 14 => 14 | 15 => 15 | 16 => 16 | 17 => 17 | 18 => 18 | 19 => 19 | 20 => 20 | 21 => 21 | 23 => 86 | 27 => 138 | 28 => 32 | 37 => 80 | 40 => 136 | 41 => 108 | 46 => 78 | 47 => 143 | 51 => 77 | 52 => 87 | 53 => 76 | 54 => 123 | 55 => 135 | 63 => 111 | 64 => 121 | 69 => 117 | 70 => 89 | 71 => 90 | 72 => 91 | 74 => 82 | 75 => 83 | 76 => 84 | 77 => 85 | 80 => 69 | 81 => 151 | 83 => 92 | 84 => 114 | 85 => 103 | 86 => 104 | 104 => 56 | 105 => 109 | 106 => 110 | 108 => 120 | 111 => 142 | 114 => 137 | 115 => 95 | 116 => 96 | 117 => 97 | 118 => 98 | 119 => 131 | 122 => 94 | 123 => 99 | 124 => 100 | 127 => 101 | 128 => 93 | 137 => 132 | 138 => 133 | 139 => 134 | 143 => 128 | 144 => 129 | 145 => 130 | 164 => 112 | 165 => 113 | 167 => 102 | 168 => 105 | 169 => 106 | 170 => 107 | 171 => 122 | 172 => 124 | 173 => 125 | 174 => 126 | 175 => 115 | 176 => 116 | 209 => 118 | 210 => 119 | 211 => 139 | 212 => 140 | 213 => 141 | 214 => 127 | 232 => 144 | 233 => 145 | 236 => 40 | 238 => 146 | 239 => 147 | 240 => 148 | 241 => 149 | 242 => 150 | 243 => 152 | 244 => 153 | 245 => 154 | 246 => 155 | 247 => 156 | 248 => 157 | 249 => 158 | n => n, fun | 1 => 5 | 3 => 2 | 4 => 3 | 15 => 0 | 16 => 1 | 17 => 4 | 18 => 6 | 19 => 7 | n => n⟩
theorem Tryz_strings_Builder_String_lay : Go.Proofs.Lays.n169 Tryz.prog Tryz_strings_Builder_String_lay_ren := {
 mixed := by kernel_rfl,
 f169 := Tryz.func54.trans (congrArg some (by kernel_rfl)),
 t0 := Tryz.underlying0,
 a0 := Tryz.isAgg0,
 z0 := Tryz.sizeOf0,
 v0 := Tryz.zeroValue0,
 t3 := Tryz.underlying3,
 a3 := Tryz.isAgg3,
 z3 := Tryz.sizeOf3,
 v3 := Tryz.zeroValue3,
 t9 := Tryz.underlying9,
 a9 := Tryz.isAgg9,
 z9 := Tryz.sizeOf9,
 v9 := Tryz.zeroValue9,
 t37 := Tryz.underlying80,
 a37 := Tryz.isAgg80,
 z37 := Tryz.sizeOf80,
 v37 := Tryz.zeroValue80,
 t70 := Tryz.underlying89,
 a70 := Tryz.isAgg89,
 z70 := Tryz.sizeOf89,
 v70 := Tryz.zeroValue89,
 t72 := Tryz.underlying91,
 a72 := Tryz.isAgg91,
 z72 := Tryz.sizeOf91,
 v72 := Tryz.zeroValue91,
 t127 := Tryz.underlying101,
 a127 := Tryz.isAgg101,
 z127 := Tryz.sizeOf101,
 v127 := Tryz.zeroValue101 }
theorem Tryz_strings_Builder_String_lay_x : Go.Proofs.Builder.Extra Tryz.prog Tryz_strings_Builder_String_lay_ren := {
 sizeBuilder := by kernel_rfl
 liesBuilder := by kernel_rfl
 t5 := Tryz.underlying5
 a5 := Tryz.isAgg5
 z5 := Tryz.sizeOf5
 v5 := Tryz.zeroValue5
 infoByte := by kernel_rfl
 cellsByte := by kernel_rfl
 sizeByte := by kernel_rfl
 neB5 := (by decide : (91 : Nat) ≠ 5) }
theorem strings_Builder_String_c (w : World) {A : Nat → Prop} {B : Nat} (hB : B ≤ w.heap.size) (hA : ∀ b, w.heap.size ≤ b → A b) (b : ByteArray) (b_b : Nat) {L : List Ob} (hH : Hp B A w (obBd 91 5 b_b  b :: L)) {r : ByteArray} (hm : strings_Builder_String b = some r) : Ret Tryz.prog 54 #[.pointer (some ⟨b_b, 0, none⟩)] w fun v w' => ∃ A1 : Nat → Prop, v = .string r ∧ Hp B A1 w' (obBd 91 5 b_b  b :: L) ∧ Tr False B A w A1 w' := by
 unfold strings_Builder_String at hm
 obtain rfl := Option.some.inj hm
 exact Hp.bdString (ρ := Tryz_strings_Builder_String_lay_ren) (fun p v l h1 => bd_string Tryz_strings_Builder_String_lay Tryz_strings_Builder_String_lay_x b_b p v l w h1) hB hA hH

set_option maxRecDepth 4000 in
set_option maxHeartbeats 4000000 in
theorem staff_nat_text_c (w : World) {A : Nat → Prop} (hA : ∀ b, w.heap.size ≤ b → A b) (hT : Fz Tryz_FR A w) (a_ : (List Int)) (v_a_ : Value) (h_a_ : Sl A w v_a_ a_) {r : ByteArray} (hm : staff_nat_text a_ = some r) : Ret Tryz.prog 47 #[v_a_] w fun v w' => v = .string r ∧ Kp False w w' := by
 unfold staff_nat_text at hm
 refine enter Tryz.func47 rfl Tryz.ntmps47 rfl ?_
 have hA0 := hA
 have hB := Nat.le_refl w.heap.size
 have hK : Tr False w.heap.size A w A w := Tr.refl (Dw := False) hA
 have hH : Hp w.heap.size A w [] := Hp.nil
 refine C_seq ?_
 refine C_region ?_
 refine V_as rfl rfl ?_
 refine V_to (fun _ _ => rfl) ?_
 refine C_seq ?_
 refine C_seq ?_
 refine C_region ?_
 refine V_mv rfl rfl ?_
 refine V_y (Y_lenSl h_a_ rfl Tryz.underlying33 rfl) rfl rfl rfl ?_
 refine V_y (Y_eql rfl rfl) rfl rfl rfl ?_
 refine V_to (fun _ _ => rfl) ?_
 refine C_cond rfl (fun hc3 => ?_) (fun hc3 => ?_)
 ·rw [if_pos hc3] at hm
  refine C_seq ?_
  refine C_region ?_
  refine V_as rfl rfl ?_
  refine V_to (fun _ _ => rfl) ?_
  obtain rfl := Option.some.inj hm
  refine C_ret ?_
  try simp only [↓inBlock_ret, ↓then_ret]
  exact retQ rfl (Res.one Tryz.results47 rfl) ⟨rfl, hK.kp⟩
 ·rw [if_neg (nt hc3)] at hm
  refine C_skip_to (fun _ _ => rfl) ?_
  refine C_seq ?_
  refine C_region ?_
  refine V_allocH (Dw := False) (B := w.heap.size) hH Tryz.zeroValue91 hB hA rfl ?_
  intro b4 w5 A6 hH7 ht8
  replace hH7 := Hp.bdOf (e := 5) hH7
  replace h_a_ := Sl.tr (Dw := False) h_a_ ht8
  replace hK := Tr.trans (Dw := False) hK ht8
  replace hB := Nat.le_trans hB ht8.ex.size
  replace hA := ht8.new
  replace hH : Hp w.heap.size A6 w5 (obBd 91 5 b4 ByteArray.empty :: []) := hH7
  refine V_to (fun _ _ => rfl) ?_
  refine C_seq ?_
  refine C_region ?_
  refine V_mv rfl rfl ?_
  refine V_mv rfl rfl ?_
  refine V_y (Y_lenSl h_a_ rfl Tryz.underlying33 rfl) rfl rfl rfl ?_
  refine V_y (Y_subI rfl rfl) rfl rfl rfl ?_
  obtain ⟨x9, hx9, hm⟩ := Option.bind_eq_some_iff.1 hm
  refine V_indexAddr h_a_ hx9 Tryz.underlying33 Tryz.sizeOf3 rfl rfl rfl ?_
  intro b10 o11 h12
  refine V_y (Y_load (El.int h12) Tryz.isAgg3 rfl) rfl rfl rfl ?_
  obtain ⟨x13, hx13, hm⟩ := Option.bind_eq_some_iff.1 hm
  refine V_call Tryz.call53 rfl rfl rfl rfl (strconv_Itoa_c w5 hA ((Fz.tr (Dw := False) hT hK)).1 x9 hx13) ?_
  rintro _ w14 ⟨rfl, hk15⟩
  have ht16 := Kp.tr (Dw := False) hk15 hA hB
  replace hH := Hp.kp (Dw := False) hH hk15
  replace h_a_ := Sl.tr (Dw := False) h_a_ ht16
  replace hK := Tr.trans (Dw := False) hK ht16
  replace hB := Nat.le_trans hB ht16.ex.size
  replace hA := ht16.new
  obtain ⟨x17, hx17, hm⟩ := Option.bind_eq_some_iff.1 hm
  refine V_call Tryz.call52 rfl rfl rfl rfl (strings_Builder_WriteString_c w14 hB hA ByteArray.empty b4 x13 hH hx17) ?_
  rintro _ w18 ⟨A19, rfl, hH20, ht21⟩
  replace h_a_ := Sl.tr (Dw := False) h_a_ ht21
  replace hK := Tr.trans (Dw := False) hK ht21
  replace hB := Nat.le_trans hB ht21.ex.size
  replace hA := ht21.new
  replace hH : Hp w.heap.size A19 w18 (obBd 91 5 b4 x17.2.2 :: []) := hH20
  refine V_to (fun _ _ => rfl) ?_
  refine C_seq ?_
  refine C_seq ?_
  refine C_region ?_
  refine V_mv rfl rfl ?_
  refine V_y (Y_lenSl h_a_ rfl Tryz.underlying33 rfl) rfl rfl rfl ?_
  refine V_y (Y_subI rfl rfl) rfl rfl rfl ?_
  refine V_as rfl rfl ?_
  refine V_to (fun _ _ => rfl) ?_
  obtain ⟨o22, ho22, hm⟩ := Option.bind_eq_some_iff.1 hm
  refine C_cutG (ι := ((Int × ByteArray) × (Nat → Prop))) (fun ⟨s23, A29⟩ => [(3, .pointer (some ⟨b4, 0, none⟩))]) (fun ⟨s23, A29⟩ => fun w' => o22 = .fin s23 ∧ Hp w.heap.size A29 w' (obBd 91 5 b4 s23.2 :: []) ∧ Tr False w.heap.size A19 w18 A29 w') ?_ ?_
  ·refine C_block ?_
   refine C_while ho22 (fun s31 a w' => ∃ i : (Nat → Prop), Has ⟨32, [], none⟩ a ([(0, v_a_), (3, .pointer (some ⟨b4, 0, none⟩)), (4, .int .i64 s31.1)]) ∧ Hp w.heap.size i w' (obBd 91 5 b4 s31.2 :: []) ∧ Tr False w.heap.size A19 w18 i w') (fun a ha => ⟨A19, ha.sub ⟨rfl, rfl, rfl, trivial⟩, ⟨hH, Tr.refl (Dw := False) hA⟩⟩) ?_
   rintro K s31 a w33 ⟨A34, ha60, hH35, hr24⟩ K42
   refine C_of ?_ ha60
   replace h_a_ := Sl.tr (Dw := False) h_a_ hr24
   replace hK := Tr.trans (Dw := False) hK hr24
   replace hB := Nat.le_trans hB hr24.ex.size
   replace hA := hr24.new
   replace hH : Hp w.heap.size A34 w33 (obBd 91 5 b4 s31.2 :: []) := hH35
   obtain ⟨x36, h37, h38⟩ := K42
   refine C_seq ?_
   refine C_seq ?_
   refine C_region ?_
   refine V_mv rfl rfl ?_
   refine V_y (Y_geq rfl rfl) rfl rfl rfl ?_
   refine V_to (fun _ _ => rfl) ?_
   refine C_cond rfl (fun hc43 => ?_) (fun hc43 => ?_)
   ·rw [if_pos hc43] at h37
    refine C_skip_to (fun _ _ => rfl) ?_
    refine C_seq ?_
    refine C_block ?_
    refine C_region ?_
    refine V_mv rfl rfl ?_
    refine V_mv rfl rfl ?_
    obtain ⟨x44, hx44, h37⟩ := Option.bind_eq_some_iff.1 h37
    refine V_indexAddr h_a_ hx44 Tryz.underlying33 Tryz.sizeOf3 rfl rfl rfl ?_
    intro b45 o46 h47
    refine V_y (Y_load (El.int h47) Tryz.isAgg3 rfl) rfl rfl rfl ?_
    refine V_y (Y_addI rfl rfl) rfl rfl rfl ?_
    obtain ⟨x48, hx48, h37⟩ := Option.bind_eq_some_iff.1 h37
    refine V_call Tryz.call53 rfl rfl rfl rfl (strconv_Itoa_c w33 hA ((Fz.tr (Dw := False) hT hK)).1 (w64 (1000000000 + x44)) hx48) ?_
    rintro _ w49 ⟨rfl, hk50⟩
    have ht51 := Kp.tr (Dw := False) hk50 hA hB
    replace hH := Hp.kp (Dw := False) hH hk50
    replace hr24 := Tr.trans (Dw := False) hr24 ht51
    replace hB := Nat.le_trans hB ht51.ex.size
    replace hA := ht51.new
    obtain ⟨x52, hx52, h37⟩ := Option.bind_eq_some_iff.1 h37
    refine V_y (Y_sliceSL hx52 Tryz.underlying9 rfl rfl) rfl rfl rfl ?_
    obtain ⟨x53, hx53, h37⟩ := Option.bind_eq_some_iff.1 h37
    refine V_call Tryz.call52 rfl rfl rfl rfl (strings_Builder_WriteString_c w49 hB hA s31.2 b4 x52 hH hx53) ?_
    rintro _ w54 ⟨A55, rfl, hH56, ht57⟩
    replace hr24 := Tr.trans (Dw := False) hr24 ht57
    replace hH : Hp w.heap.size A55 w54 (obBd 91 5 b4 x53.2.2 :: []) := hH56
    refine V_to (fun _ _ => rfl) ?_
    refine C_region ?_
    refine V_mv rfl rfl ?_
    refine V_y (Y_subI rfl rfl) rfl rfl rfl ?_
    refine V_as rfl rfl ?_
    obtain rfl := Option.some.inj h37
    refine V_end (fun a ha58 => ?_)
    exact ⟨(w64 (s31.1 - 1), x53.2.2), h38, ⟨A55, ha58.sub ⟨rfl, rfl, rfl, trivial⟩, ⟨hH, hr24⟩⟩⟩
   ·rw [if_neg (nt hc43)] at h37
    obtain rfl := Option.some.inj h37
    refine C_exit (fun a ha59 => ?_)
    exact ⟨((s31.1, s31.2), A34), ha59.sub ⟨rfl, trivial⟩, ⟨h38.symm, hH, hr24⟩⟩
  rintro ⟨s23, A29⟩ w26 ⟨rfl, hH30, hk27⟩ a ha28
  rw [Lp.andThen_fin] at hm
  replace hK := Tr.trans (Dw := False) hK hk27
  replace hB := Nat.le_trans hB hk27.ex.size
  replace hA := hk27.new
  replace hH : Hp w.heap.size A29 w26 (obBd 91 5 b4 s23.2 :: []) := hH30
  refine C_at (n := ⟨32, [], none⟩) (fun _ _ => rfl) ?_ ha28
  refine C_seq ?_
  refine C_region ?_
  obtain ⟨x61, hx61, hm⟩ := Option.bind_eq_some_iff.1 hm
  refine V_call Tryz.call54 rfl rfl rfl rfl (strings_Builder_String_c w26 hB hA s23.2 b4 hH hx61) ?_
  rintro _ w62 ⟨A63, rfl, hH64, ht65⟩
  replace hK := Tr.trans (Dw := False) hK ht65
  replace hH : Hp w.heap.size A63 w62 (obBd 91 5 b4 s23.2 :: []) := hH64
  refine V_as rfl rfl ?_
  refine V_to (fun _ _ => rfl) ?_
  obtain rfl := Option.some.inj hm
  refine C_ret ?_
  try simp only [↓inBlock_ret, ↓then_ret]
  exact retQ rfl (Res.one Tryz.results47 rfl) ⟨rfl, hK.kp⟩

set_option maxRecDepth 4000 in
set_option maxHeartbeats 4000000 in
theorem staff_ratio_written_c (w : World) {A : Nat → Prop} (hA : ∀ b, w.heap.size ≤ b → A b) (hT : Fz Tryz_FR A w) (r_ : staff_ratio) (v_r_0 : Value) (h_r_0 : Sl A w v_r_0 r_.num) (v_r_1 : Value) (h_r_1 : Sl A w v_r_1 r_.den) {r : staff_Ratio} (hm : staff_ratio_written r_ = some r) : Ret Tryz.prog 38 #[.agg #[v_r_0, v_r_1]] w fun v w' => v = .agg #[.string r.num, .string r.den] ∧ Kp False w w' := by
 unfold staff_ratio_written at hm
 refine enter Tryz.func38 rfl Tryz.ntmps38 rfl ?_
 have hA0 := hA
 have hB := Nat.le_refl w.heap.size
 have hK : Tr False w.heap.size A w A w := Tr.refl (Dw := False) hA
 have hH : Hp w.heap.size A w [] := Hp.nil
 refine C_seq ?_
 refine C_region ?_
 refine V_box rfl rfl ?_
 intro b5 w6 h7
 have hk9 := h7.kp (Dw := False)
 have h8 : El (α := staff_ratio) A w6 b5 0 r_ := h7.el hA ⟨[v_r_0], _, rfl, ⟨_, rfl, h_r_0⟩, ⟨_, rfl, h_r_1⟩⟩
 have ht10 := Kp.tr (Dw := False) hk9 hA hB
 replace hH := Hp.kp (Dw := False) hH hk9
 replace hK := Tr.trans (Dw := False) hK ht10
 replace hB := Nat.le_trans hB ht10.ex.size
 replace hA := ht10.new
 refine V_allocH (Dw := False) (B := w.heap.size) hH Tryz.zeroValue23 hB hA rfl ?_
 intro b11 w12 A13 hH14 ht15
 replace h8 := El.tr (Dw := False) h8 ht15
 replace hK := Tr.trans (Dw := False) hK ht15
 replace hB := Nat.le_trans hB ht15.ex.size
 replace hA := ht15.new
 replace hH : Hp w.heap.size A13 w12 (obC b11 [.string ByteArray.empty, .string ByteArray.empty] 23 :: []) := hH14
 refine V_to (fun _ _ => rfl) ?_
 refine C_seq ?_
 refine C_region_qt (Dw := False) 7 Tryz_mixed (by kernel_rfl) ?_
 simp only [List.take, List.drop]
 have h16 := El_staff_ratio_0 h8
 refine VQ_y (fun w' hw' => Y_fieldAddr Tryz.underlying35 rfl Tryz.sizeOf33 (by decide) rfl) rfl rfl rfl ?_
 obtain ⟨v17, h18, h19⟩ := El.list h16
 refine VQ_y (fun w' hw' => Y_load ((World.cell?_of_block (hw'.block _ (World.block_lt_of_cell? _ _ h18))).trans h18) Tryz.isAgg33 rfl) rfl rfl rfl ?_
 obtain ⟨x20, hx20, hm⟩ := Option.bind_eq_some_iff.1 hm
 refine VQ_call (.string x20) Tryz.call47 rfl rfl rfl rfl (fun w' hw' => (staff_nat_text_c w' (fun b hb => hA b (Nat.le_trans hw'.size hb)) (Fz.kp (Dw := False) (Fz.tr (Dw := False) hT hK) hw') r_.num v17 (Sl.kp (Dw := False) h19 hw') hx20).mono (fun _ _ h => ⟨h.1, Kp.trans (Dw := False) hw' h.2⟩)) ?_
 have h21 := El_staff_ratio_1 h8
 refine VQ_y (fun w' hw' => Y_fieldAddr Tryz.underlying35 rfl Tryz.sizeOf33 (by decide) rfl) rfl rfl rfl ?_
 obtain ⟨v22, h23, h24⟩ := El.list h21
 refine VQ_y (fun w' hw' => Y_load ((World.cell?_of_block (hw'.block _ (World.block_lt_of_cell? _ _ h23))).trans h23) Tryz.isAgg33 rfl) rfl rfl rfl ?_
 obtain ⟨x25, hx25, hm⟩ := Option.bind_eq_some_iff.1 hm
 refine VQ_call (.string x25) Tryz.call47 rfl rfl rfl rfl (fun w' hw' => (staff_nat_text_c w' (fun b hb => hA b (Nat.le_trans hw'.size hb)) (Fz.kp (Dw := False) (Fz.tr (Dw := False) hT hK) hw') r_.den v22 (Sl.kp (Dw := False) h24 hw') hx25).mono (fun _ _ h => ⟨h.1, Kp.trans (Dw := False) hw' h.2⟩)) ?_
 refine VQ_y (fun w' hw' => Y_build Tryz.underlying23 Tryz.zeroValue23 (Tryz_places23 _ Tryz.underlying23) rfl (by with_unfolding_all rfl)) rfl rfl rfl ?_
 refine VQ_tail (fun w26 hk27 => ?_)
 try simp only [List.take, List.drop]
 have ht28 := Kp.tr (Dw := False) hk27 hA hB
 replace hH := Hp.kp (Dw := False) hH hk27
 replace hK := Tr.trans (Dw := False) hK ht28
 replace hB := Nat.le_trans hB ht28.ex.size
 replace hA := ht28.new
 refine V_storeC (Dw := False) (off := 0) (ds := [.string x20, .string x25]) hH (i := 0) rfl Tryz.sizeOf23 rfl (Nat.le_of_ble_eq_true rfl) (by simp [Value.cells, Value.oneCell']) rfl hB hA rfl rfl ?_
 intro w29 hH30 ht31
 replace hK := Tr.trans (Dw := False) hK ht31
 replace hH : Hp w.heap.size A13 w29 (obC b11 [.string x20, .string x25] 23 :: []) := hH30
 refine V_to (fun _ _ => rfl) ?_
 obtain rfl := Option.some.inj hm
 refine C_ret ?_
 try simp only [↓inBlock_ret, ↓then_ret]
 exact retQ rfl (Res.l1 Tryz.results38 (RL.cell rfl (loadVar_agg (Hp.part (off := 0) (n := 2) (ds := [.string x20, .string x25]) hH (i := 0) rfl rfl) Tryz.isAgg23 Tryz.sizeOf23))) ⟨rfl, hK.kp⟩

set_option maxRecDepth 4000 in
set_option maxHeartbeats 4000000 in
theorem staff_limited_c (w : World) {A : Nat → Prop} (hA : ∀ b, w.heap.size ≤ b → A b) (hT : Fz Tryz_FR A w) (r_ : staff_ratio) (v_r_0 : Value) (h_r_0 : Sl A w v_r_0 r_.num) (v_r_1 : Value) (h_r_1 : Sl A w v_r_1 r_.den) {r : (staff_Ratio × Int)} (hm : staff_limited r_ = some r) : Ret Tryz.prog 20 #[.agg #[v_r_0, v_r_1]] w fun v w' => v = .tuple #[.agg #[.string r.1.num, .string r.1.den], .int .i64 r.2] ∧ Kp False w w' := by
 unfold staff_limited at hm
 refine enter Tryz.func20 rfl Tryz.ntmps20 rfl ?_
 have hA0 := hA
 have hB := Nat.le_refl w.heap.size
 have hK : Tr False w.heap.size A w A w := Tr.refl (Dw := False) hA
 have hH : Hp w.heap.size A w [] := Hp.nil
 refine C_seq ?_
 refine C_region ?_
 refine V_box rfl rfl ?_
 intro b5 w6 h7
 have hk9 := h7.kp (Dw := False)
 have h8 : El (α := staff_ratio) A w6 b5 0 r_ := h7.el hA ⟨[v_r_0], _, rfl, ⟨_, rfl, h_r_0⟩, ⟨_, rfl, h_r_1⟩⟩
 have ht10 := Kp.tr (Dw := False) hk9 hA hB
 replace hH := Hp.kp (Dw := False) hH hk9
 replace hK := Tr.trans (Dw := False) hK ht10
 replace hB := Nat.le_trans hB ht10.ex.size
 replace hA := ht10.new
 refine V_allocH (Dw := False) (B := w.heap.size) hH Tryz.zeroValue23 hB hA rfl ?_
 intro b11 w12 A13 hH14 ht15
 replace h8 := El.tr (Dw := False) h8 ht15
 replace hK := Tr.trans (Dw := False) hK ht15
 replace hB := Nat.le_trans hB ht15.ex.size
 replace hA := ht15.new
 replace hH : Hp w.heap.size A13 w12 (obC b11 [.string ByteArray.empty, .string ByteArray.empty] 23 :: []) := hH14
 refine V_as rfl rfl ?_
 refine V_to (fun _ _ => rfl) ?_
 refine C_seq ?_
 refine C_region ?_
 obtain ⟨v16, v18, h20, h17, h19⟩ := El_staff_ratio h8
 refine V_y (Y_loadA h20 Tryz.isAgg35 Tryz.sizeOf35 rfl) rfl rfl rfl ?_
 obtain ⟨x21, hx21, hm⟩ := Option.bind_eq_some_iff.1 hm
 refine V_call Tryz.call38 rfl rfl rfl rfl (staff_ratio_written_c w12 hA (Fz.tr (Dw := False) hT hK) r_ v16 h17 v18 h19 hx21) ?_
 rintro _ w22 ⟨rfl, hk23⟩
 have ht24 := Kp.tr (Dw := False) hk23 hA hB
 replace hH := Hp.kp (Dw := False) hH hk23
 replace hK := Tr.trans (Dw := False) hK ht24
 replace hB := Nat.le_trans hB ht24.ex.size
 replace hA := ht24.new
 refine V_alloc Tryz.zeroValue23 rfl ?_
 intro b25 w26 h27
 refine V_storeNew h27 Tryz.sizeOf23 rfl rfl rfl rfl (by exact (List.forall_mem_cons.2 ⟨rfl, (List.forall_mem_cons.2 ⟨rfl, (fun _ h => nomatch h)⟩)⟩)) ?_
 intro w28 h29
 have hk31 := h29.kp (Dw := False)
 have h30 : El (α := staff_Ratio) A13 w28 b25 0 x21 := h29.el hA ⟨[.string x21.num], _, rfl, rfl, rfl⟩
 have ht32 := Kp.tr (Dw := False) hk31 hA hB
 replace hH := Hp.kp (Dw := False) hH hk31
 replace hK := Tr.trans (Dw := False) hK ht32
 replace hB := Nat.le_trans hB ht32.ex.size
 replace hA := ht32.new
 refine V_to (fun _ _ => rfl) ?_
 refine C_seq ?_
 refine C_seq ?_
 refine C_region ?_
 have h33 := El_staff_Ratio_0 h30
 refine V_y (Y_fieldAddr Tryz.underlying23 rfl Tryz.sizeOf9 (by decide) rfl) rfl rfl rfl ?_
 refine V_y (Y_load (El.str h33) Tryz.isAgg9 rfl) rfl rfl rfl ?_
 refine V_y (Y_lenStr rfl Tryz.underlying9 rfl) rfl rfl rfl ?_
 refine V_y (Y_gtr rfl rfl) rfl rfl rfl ?_
 refine V_mv rfl rfl ?_
 refine V_cut 5 (fun _ : Unit => [(2, .pointer (some ⟨b11, 0, none⟩)), (4, .pointer (some ⟨b25, 0, none⟩)), (16, .bool ((decide ((20000 : Int) < (x21.num.size : Int))) || (decide ((20000 : Int) < (x21.den.size : Int)))))]) (fun _ w' => w28 = w') ?_ ?_
 ·simp only [List.take, List.drop]
  rcases Bool.eq_false_or_eq_true (decide ((20000 : Int) < (x21.num.size : Int))) with hc34 | hc34
  ·refine V_gn rfl rfl rfl hc34 rfl rfl rfl ?_
   refine V_gn rfl rfl rfl hc34 rfl rfl rfl ?_
   refine V_gn rfl rfl rfl hc34 rfl rfl rfl ?_
   refine V_gn rfl rfl rfl hc34 rfl rfl rfl ?_
   refine V_y (Y_pick_te rfl hc34 rfl) rfl rfl rfl ?_
   exact V_end fun a ha => ⟨(), ha.sub ⟨rfl, rfl, (by rw [hc34]; rfl), trivial⟩, rfl⟩
  ·refine V_ge rfl rfl rfl hc34 ?_
   have h36 := El_staff_Ratio_1 h30
   refine V_y (Y_fieldAddr Tryz.underlying23 rfl Tryz.sizeOf9 (by decide) rfl) rfl rfl rfl ?_
   refine V_ge rfl rfl rfl hc34 ?_
   refine V_y (Y_load (El.str h36) Tryz.isAgg9 rfl) rfl rfl rfl ?_
   refine V_ge rfl rfl rfl hc34 ?_
   refine V_y (Y_lenStr rfl Tryz.underlying9 rfl) rfl rfl rfl ?_
   refine V_ge rfl rfl rfl hc34 ?_
   refine V_y (Y_gtr rfl rfl) rfl rfl rfl ?_
   refine V_y (Y_pick_fe rfl hc34 rfl) rfl rfl rfl ?_
   exact V_end fun a ha => ⟨(), ha.sub ⟨rfl, rfl, (by rw [hc34]; rfl), trivial⟩, rfl⟩
 simp only [List.take, List.drop]
 rintro _ _ rfl
 refine V_to (fun _ _ => rfl) ?_
 refine C_cond rfl (fun hc37 => ?_) (fun hc37 => ?_)
 ·rw [if_pos hc37] at hm
  refine C_seq ?_
  refine C_region ?_
  refine V_y (Y_build Tryz.underlying23 Tryz.zeroValue23 (Tryz_places23 _ Tryz.underlying23) rfl (by with_unfolding_all rfl)) rfl rfl rfl ?_
  refine V_storeC (Dw := False) (off := 0) (ds := [.string ByteArray.empty, .string ByteArray.empty]) hH (i := 0) rfl Tryz.sizeOf23 rfl (Nat.le_of_ble_eq_true rfl) (by simp [Value.cells, Value.oneCell']) rfl hB hA rfl rfl ?_
  intro w38 hH39 ht40
  replace hK := Tr.trans (Dw := False) hK ht40
  replace hH : Hp w.heap.size A13 w38 (obC b11 [.string ByteArray.empty, .string ByteArray.empty] 23 :: []) := hH39
  refine V_as rfl rfl ?_
  refine V_to (fun _ _ => rfl) ?_
  obtain rfl := Option.some.inj hm
  refine C_ret ?_
  try simp only [↓inBlock_ret, ↓then_ret]
  exact retQ rfl (Res.l2 Tryz.results20 (RL.cell rfl (loadVar_agg (Hp.part (off := 0) (n := 2) (ds := [.string ByteArray.empty, .string ByteArray.empty]) hH (i := 0) rfl rfl) Tryz.isAgg23 Tryz.sizeOf23)) (RL.tmp rfl)) ⟨rfl, hK.kp⟩
 ·rw [if_neg (nt hc37)] at hm
  refine C_skip_to (fun _ _ => rfl) ?_
  refine C_seq ?_
  refine C_region ?_
  obtain ⟨h41, _⟩ := El_staff_Ratio h30
  refine V_y (Y_loadA h41 Tryz.isAgg23 Tryz.sizeOf23 rfl) rfl rfl rfl ?_
  refine V_storeC (Dw := False) (off := 0) (ds := [.string x21.num, .string x21.den]) hH (i := 0) rfl Tryz.sizeOf23 rfl (Nat.le_of_ble_eq_true rfl) (by simp [Value.cells, Value.oneCell']) rfl hB hA rfl rfl ?_
  intro w42 hH43 ht44
  replace hK := Tr.trans (Dw := False) hK ht44
  replace hH : Hp w.heap.size A13 w42 (obC b11 [.string x21.num, .string x21.den] 23 :: []) := hH43
  refine V_as rfl rfl ?_
  refine V_to (fun _ _ => rfl) ?_
  obtain rfl := Option.some.inj hm
  refine C_ret ?_
  try simp only [↓inBlock_ret, ↓then_ret]
  exact retQ rfl (Res.l2 Tryz.results20 (RL.cell rfl (loadVar_agg (Hp.part (off := 0) (n := 2) (ds := [.string x21.num, .string x21.den]) hH (i := 0) rfl rfl) Tryz.isAgg23 Tryz.sizeOf23)) (RL.tmp rfl)) ⟨rfl, hK.kp⟩

set_option maxRecDepth 4000 in
set_option maxHeartbeats 4000000 in
theorem staff_Plus_c (w : World) {A : Nat → Prop} (hA : ∀ b, w.heap.size ≤ b → A b) (hT : Fz Tryz_FR A w) (a_ : staff_Ratio) (b : staff_Ratio) {r : (staff_Ratio × Int)} (hm : staff_Plus a_ b = some r) : Ret Tryz.prog 6 #[.agg #[.string a_.num, .string a_.den], .agg #[.string b.num, .string b.den]] w fun v w' => v = .tuple #[.agg #[.string r.1.num, .string r.1.den], .int .i64 r.2] ∧ Kp False w w' := by
 unfold staff_Plus at hm
 refine enter Tryz.func6 rfl Tryz.ntmps6 rfl ?_
 have hA0 := hA
 have hB := Nat.le_refl w.heap.size
 have hK : Tr False w.heap.size A w A w := Tr.refl (Dw := False) hA
 have hH : Hp w.heap.size A w [] := Hp.nil
 refine C_seq ?_
 refine C_region ?_
 refine V_box rfl rfl ?_
 intro b1 w2 h3
 have hk5 := h3.kp (Dw := False)
 have h4 : El (α := staff_Ratio) A w2 b1 0 a_ := h3.el hA ⟨[.string a_.num], _, rfl, rfl, rfl⟩
 have ht6 := Kp.tr (Dw := False) hk5 hA hB
 replace hH := Hp.kp (Dw := False) hH hk5
 replace hK := Tr.trans (Dw := False) hK ht6
 replace hB := Nat.le_trans hB ht6.ex.size
 replace hA := ht6.new
 refine V_box rfl rfl ?_
 intro b7 w9 h10
 have hk12 := h10.kp (Dw := False)
 have h11 : El (α := staff_Ratio) A w9 b7 0 b := h10.el hA ⟨[.string b.num], _, rfl, rfl, rfl⟩
 have ht13 := Kp.tr (Dw := False) hk12 hA hB
 replace hH := Hp.kp (Dw := False) hH hk12
 replace h4 := El.tr (Dw := False) h4 ht13
 replace hK := Tr.trans (Dw := False) hK ht13
 replace hB := Nat.le_trans hB ht13.ex.size
 replace hA := ht13.new
 refine V_allocH (Dw := False) (B := w.heap.size) hH Tryz.zeroValue23 hB hA rfl ?_
 intro b14 w15 A16 hH17 ht18
 replace h4 := El.tr (Dw := False) h4 ht18
 replace h11 := El.tr (Dw := False) h11 ht18
 replace hK := Tr.trans (Dw := False) hK ht18
 replace hB := Nat.le_trans hB ht18.ex.size
 replace hA := ht18.new
 replace hH : Hp w.heap.size A16 w15 (obC b14 [.string ByteArray.empty, .string ByteArray.empty] 23 :: []) := hH17
 refine V_as rfl rfl ?_
 refine V_to (fun _ _ => rfl) ?_
 refine C_seq ?_
 refine C_region ?_
 obtain ⟨h19, _⟩ := El_staff_Ratio h4
 refine V_y (Y_loadA h19 Tryz.isAgg23 Tryz.sizeOf23 rfl) rfl rfl rfl ?_
 obtain ⟨h20, _⟩ := El_staff_Ratio h11
 refine V_y (Y_loadA h20 Tryz.isAgg23 Tryz.sizeOf23 rfl) rfl rfl rfl ?_
 obtain ⟨x21, hx21, hm⟩ := Option.bind_eq_some_iff.1 hm
 refine V_call Tryz.call11 rfl rfl rfl rfl (staff_two_c w15 hA (Fz.tr (Dw := False) hT hK) a_ b hx21) ?_
 rintro _ w30 ⟨v22, v24, v26, v28, rfl, h23, h25, h27, h29, hk31⟩
 have ht32 := Kp.tr (Dw := False) hk31 hA hB
 replace hH := Hp.kp (Dw := False) hH hk31
 replace hK := Tr.trans (Dw := False) hK ht32
 replace hB := Nat.le_trans hB ht32.ex.size
 replace hA := ht32.new
 refine V_mv rfl rfl ?_
 refine V_y (Y_extract rfl rfl) rfl rfl rfl ?_
 refine V_y (Y_extract rfl rfl) rfl rfl rfl ?_
 refine V_y (Y_extract rfl rfl) rfl rfl rfl ?_
 refine V_allocH (Dw := False) (B := w.heap.size) hH Tryz.zeroValue35 hB hA rfl ?_
 intro b33 w34 A35 hH36 ht37
 replace h23 := Sl.tr (Dw := False) h23 ht37
 replace h25 := Sl.tr (Dw := False) h25 ht37
 replace h27 := Sl.tr (Dw := False) h27 ht37
 replace h29 := Sl.tr (Dw := False) h29 ht37
 replace hK := Tr.trans (Dw := False) hK ht37
 replace hB := Nat.le_trans hB ht37.ex.size
 replace hA := ht37.new
 replace hH : Hp w.heap.size A35 w34 (obC b33 [.slice none 0 0, .slice none 0 0] 35 :: obC b14 [.string ByteArray.empty, .string ByteArray.empty] 23 :: []) := hH36
 refine V_allocH (Dw := False) (B := w.heap.size) hH Tryz.zeroValue35 hB hA rfl ?_
 intro b38 w39 A40 hH41 ht42
 replace h23 := Sl.tr (Dw := False) h23 ht42
 replace h25 := Sl.tr (Dw := False) h25 ht42
 replace h27 := Sl.tr (Dw := False) h27 ht42
 replace h29 := Sl.tr (Dw := False) h29 ht42
 replace hK := Tr.trans (Dw := False) hK ht42
 replace hB := Nat.le_trans hB ht42.ex.size
 replace hA := ht42.new
 replace hH : Hp w.heap.size A40 w39 (obC b38 [.slice none 0 0, .slice none 0 0] 35 :: obC b33 [.slice none 0 0, .slice none 0 0] 35 :: obC b14 [.string ByteArray.empty, .string ByteArray.empty] 23 :: []) := hH41
 have h48 : (v22).oneCell' = true := by obtain ⟨_, _, e, _⟩ := Sl.form h23; rw [e]; rfl
 have h51 : (v24).oneCell' = true := by obtain ⟨_, _, e, _⟩ := Sl.form h25; rw [e]; rfl
 refine V_storeC (Dw := False) (off := 0) (ds := [v22, v24]) hH (i := 1) rfl Tryz.sizeOf35 rfl (Nat.le_of_ble_eq_true rfl) (by exact (List.forall_mem_cons.2 ⟨h48, (List.forall_mem_cons.2 ⟨h51, (fun _ h => nomatch h)⟩)⟩)) rfl hB hA rfl rfl ?_
 intro w43 hH44 ht45
 replace h23 := Sl.tr (Dw := False) h23 ht45
 replace h25 := Sl.tr (Dw := False) h25 ht45
 replace h27 := Sl.tr (Dw := False) h27 ht45
 replace h29 := Sl.tr (Dw := False) h29 ht45
 replace hK := Tr.trans (Dw := False) hK ht45
 replace hB := Nat.le_trans hB ht45.ex.size
 replace hA := ht45.new
 replace hH : Hp w.heap.size A40 w43 (obC b38 [.slice none 0 0, .slice none 0 0] 35 :: obC b33 [v22, v24] 35 :: obC b14 [.string ByteArray.empty, .string ByteArray.empty] 23 :: []) := hH44
 obtain ⟨A52, ht53, h54, hH55⟩ := Hp.freezeC (Dw := False) (α := staff_ratio) (x := x21.1) hH (i := 1) rfl hA (by exact ⟨[v22], _, rfl, ⟨_, rfl, h23⟩, ⟨_, rfl, h25⟩⟩)
 replace h27 := Sl.tr (Dw := False) h27 ht53
 replace h29 := Sl.tr (Dw := False) h29 ht53
 replace hK := Tr.trans (Dw := False) hK ht53
 replace hB := Nat.le_trans hB ht53.ex.size
 replace hA := ht53.new
 replace hH : Hp w.heap.size A52 w43 (obC b38 [.slice none 0 0, .slice none 0 0] 35 :: obC b14 [.string ByteArray.empty, .string ByteArray.empty] 23 :: []) := hH55
 have h61 : (v26).oneCell' = true := by obtain ⟨_, _, e, _⟩ := Sl.form h27; rw [e]; rfl
 have h64 : (v28).oneCell' = true := by obtain ⟨_, _, e, _⟩ := Sl.form h29; rw [e]; rfl
 refine V_storeC (Dw := False) (off := 0) (ds := [v26, v28]) hH (i := 0) rfl Tryz.sizeOf35 rfl (Nat.le_of_ble_eq_true rfl) (by exact (List.forall_mem_cons.2 ⟨h61, (List.forall_mem_cons.2 ⟨h64, (fun _ h => nomatch h)⟩)⟩)) rfl hB hA rfl rfl ?_
 intro w56 hH57 ht58
 replace h27 := Sl.tr (Dw := False) h27 ht58
 replace h29 := Sl.tr (Dw := False) h29 ht58
 replace h54 := El.tr (Dw := False) h54 ht58
 replace hK := Tr.trans (Dw := False) hK ht58
 replace hB := Nat.le_trans hB ht58.ex.size
 replace hA := ht58.new
 replace hH : Hp w.heap.size A52 w56 (obC b38 [v26, v28] 35 :: obC b14 [.string ByteArray.empty, .string ByteArray.empty] 23 :: []) := hH57
 obtain ⟨A65, ht66, h67, hH68⟩ := Hp.freezeC (Dw := False) (α := staff_ratio) (x := x21.2.1) hH (i := 0) rfl hA (by exact ⟨[v26], _, rfl, ⟨_, rfl, h27⟩, ⟨_, rfl, h29⟩⟩)
 replace h54 := El.tr (Dw := False) h54 ht66
 replace hK := Tr.trans (Dw := False) hK ht66
 replace hB := Nat.le_trans hB ht66.ex.size
 replace hA := ht66.new
 replace hH : Hp w.heap.size A65 w56 (obC b14 [.string ByteArray.empty, .string ByteArray.empty] 23 :: []) := hH68
 refine V_as rfl rfl ?_
 refine V_to (fun _ _ => rfl) ?_
 refine C_seq ?_
 refine C_seq ?_
 refine C_region ?_
 refine V_mv rfl rfl ?_
 refine V_y (Y_neq rfl rfl) rfl rfl rfl ?_
 refine V_to (fun _ _ => rfl) ?_
 refine C_cond rfl (fun hc69 => ?_) (fun hc69 => ?_)
 ·rw [if_pos hc69] at hm
  refine C_seq ?_
  refine C_region ?_
  refine V_y (Y_build Tryz.underlying23 Tryz.zeroValue23 (Tryz_places23 _ Tryz.underlying23) rfl (by with_unfolding_all rfl)) rfl rfl rfl ?_
  refine V_mv rfl rfl ?_
  refine V_storeC (Dw := False) (off := 0) (ds := [.string ByteArray.empty, .string ByteArray.empty]) hH (i := 0) rfl Tryz.sizeOf23 rfl (Nat.le_of_ble_eq_true rfl) (by simp [Value.cells, Value.oneCell']) rfl hB hA rfl rfl ?_
  intro w70 hH71 ht72
  replace hK := Tr.trans (Dw := False) hK ht72
  replace hH : Hp w.heap.size A65 w70 (obC b14 [.string ByteArray.empty, .string ByteArray.empty] 23 :: []) := hH71
  refine V_as rfl rfl ?_
  refine V_to (fun _ _ => rfl) ?_
  obtain rfl := Option.some.inj hm
  refine C_ret ?_
  try simp only [↓inBlock_ret, ↓then_ret]
  exact retQ rfl (Res.l2 Tryz.results6 (RL.cell rfl (loadVar_agg (Hp.part (off := 0) (n := 2) (ds := [.string ByteArray.empty, .string ByteArray.empty]) hH (i := 0) rfl rfl) Tryz.isAgg23 Tryz.sizeOf23)) (RL.tmp rfl)) ⟨rfl, hK.kp⟩
 ·rw [if_neg (nt hc69)] at hm
  refine C_skip_to (fun _ _ => rfl) ?_
  refine C_seq ?_
  refine C_region ?_
  have h73 := El_staff_ratio_1 h54
  refine V_y (Y_fieldAddr Tryz.underlying35 rfl Tryz.sizeOf33 (by decide) rfl) rfl rfl rfl ?_
  obtain ⟨v74, h75, h76⟩ := El.list h73
  refine V_y (Y_load h75 Tryz.isAgg33 rfl) rfl rfl rfl ?_
  have h77 := El_staff_ratio_1 h67
  refine V_y (Y_fieldAddr Tryz.underlying35 rfl Tryz.sizeOf33 (by decide) rfl) rfl rfl rfl ?_
  obtain ⟨v78, h79, h80⟩ := El.list h77
  refine V_y (Y_load h79 Tryz.isAgg33 rfl) rfl rfl rfl ?_
  obtain ⟨x81, hx81, hm⟩ := Option.bind_eq_some_iff.1 hm
  refine V_call Tryz.call16 rfl rfl rfl rfl (staff_divisor_c (Dw := False) w56 hA x21.1.den v74 h76 x21.2.1.den v78 h80 hx81) ?_
  rintro v82 w84 ⟨_, rfl, h83, hk85⟩
  have ht86 := Kp.tr (Dw := False) hk85 hA hB
  replace hH := Hp.kp (Dw := False) hH hk85
  replace h54 := El.tr (Dw := False) h54 ht86
  replace h67 := El.tr (Dw := False) h67 ht86
  replace hK := Tr.trans (Dw := False) hK ht86
  replace hB := Nat.le_trans hB ht86.ex.size
  replace hA := ht86.new
  refine V_as rfl rfl ?_
  refine V_to (fun _ _ => rfl) ?_
  refine C_seq ?_
  refine C_region ?_
  have h87 := El_staff_ratio_1 h54
  refine V_y (Y_fieldAddr Tryz.underlying35 rfl Tryz.sizeOf33 (by decide) rfl) rfl rfl rfl ?_
  obtain ⟨v88, h89, h90⟩ := El.list h87
  refine V_y (Y_load h89 Tryz.isAgg33 rfl) rfl rfl rfl ?_
  refine V_mv rfl rfl ?_
  obtain ⟨x91, hx91, hm⟩ := Option.bind_eq_some_iff.1 hm
  refine V_call Tryz.call17 rfl rfl rfl rfl (staff_nat_by_c (Dw := False) w84 hA x21.1.den v88 h90 x81 v82 h83 hx91) ?_
  rintro _ w96 ⟨v92, v94, rfl, h93, h95, hk97⟩
  have ht98 := Kp.tr (Dw := False) hk97 hA hB
  replace hH := Hp.kp (Dw := False) hH hk97
  replace h54 := El.tr (Dw := False) h54 ht98
  replace h67 := El.tr (Dw := False) h67 ht98
  replace h83 := Sl.tr (Dw := False) h83 ht98
  replace hK := Tr.trans (Dw := False) hK ht98
  replace hB := Nat.le_trans hB ht98.ex.size
  replace hA := ht98.new
  refine V_mv rfl rfl ?_
  refine V_y (Y_extract rfl rfl) rfl rfl rfl ?_
  refine V_y (Y_extract rfl rfl) rfl rfl rfl ?_
  refine V_as rfl rfl ?_
  refine V_as rfl rfl ?_
  refine V_to (fun _ _ => rfl) ?_
  refine C_seq ?_
  refine C_region ?_
  have h99 := El_staff_ratio_1 h67
  refine V_y (Y_fieldAddr Tryz.underlying35 rfl Tryz.sizeOf33 (by decide) rfl) rfl rfl rfl ?_
  obtain ⟨v100, h101, h102⟩ := El.list h99
  refine V_y (Y_load h101 Tryz.isAgg33 rfl) rfl rfl rfl ?_
  refine V_mv rfl rfl ?_
  obtain ⟨x103, hx103, hm⟩ := Option.bind_eq_some_iff.1 hm
  refine V_call Tryz.call17 rfl rfl rfl rfl (staff_nat_by_c (Dw := False) w96 hA x21.2.1.den v100 h102 x81 v82 h83 hx103) ?_
  rintro _ w108 ⟨v104, v106, rfl, h105, h107, hk109⟩
  have ht110 := Kp.tr (Dw := False) hk109 hA hB
  replace hH := Hp.kp (Dw := False) hH hk109
  replace h54 := El.tr (Dw := False) h54 ht110
  replace h67 := El.tr (Dw := False) h67 ht110
  replace h83 := Sl.tr (Dw := False) h83 ht110
  replace h93 := Sl.tr (Dw := False) h93 ht110
  replace hK := Tr.trans (Dw := False) hK ht110
  replace hB := Nat.le_trans hB ht110.ex.size
  replace hA := ht110.new
  refine V_mv rfl rfl ?_
  refine V_y (Y_extract rfl rfl) rfl rfl rfl ?_
  refine V_y (Y_extract rfl rfl) rfl rfl rfl ?_
  refine V_as rfl rfl ?_
  refine V_as rfl rfl ?_
  refine V_to (fun _ _ => rfl) ?_
  refine C_seq ?_
  refine C_region_ch (Dw := False) A65 10 [(1, 0), (1, 1), (1, 2), (1, 4), (1, 5), (1, 6), (2, 3), (2, 7), (2, 8), (1, 9)] Tryz_mixed (by kernel_rfl) (fun w111 hk112 => ?_)
  have ht113 := Kp.tr (Dw := False) hk112 hA hB
  replace hH := Hp.kp (Dw := False) hH hk112
  replace h54 := El.tr (Dw := False) h54 ht113
  replace h67 := El.tr (Dw := False) h67 ht113
  replace h83 := Sl.tr (Dw := False) h83 ht113
  replace h93 := Sl.tr (Dw := False) h93 ht113
  replace h105 := Sl.tr (Dw := False) h105 ht113
  replace hK := Tr.trans (Dw := False) hK ht113
  replace hB := Nat.le_trans hB ht113.ex.size
  replace hA := ht113.new
  refine CH_q2 (Dw := False) rfl ?_
  have h114 := El_staff_ratio_0 h54
  refine VQ_y (fun w' hw' => Y_fieldAddr Tryz.underlying35 rfl Tryz.sizeOf33 (by decide) rfl) rfl rfl rfl ?_
  refine VQ_CH (Dw := False) ?_
  refine CH_q2 (Dw := False) rfl ?_
  obtain ⟨v115, h116, h117⟩ := El.list h114
  refine VQ_y (fun w' hw' => Y_load ((World.cell?_of_block (hw'.2 _ h114.2.1 h114.1)).trans h116) Tryz.isAgg33 rfl) rfl rfl rfl ?_
  refine VQ_CH (Dw := False) ?_
  refine CH_q2 (Dw := False) rfl ?_
  refine VQ_y (fun w' hw' => Y_move rfl) rfl rfl rfl ?_
  refine VQ_CH (Dw := False) ?_
  refine CH_q2 (Dw := False) rfl ?_
  have h118 := El_staff_ratio_0 h67
  refine VQ_y (fun w' hw' => Y_fieldAddr Tryz.underlying35 rfl Tryz.sizeOf33 (by decide) rfl) rfl rfl rfl ?_
  refine VQ_CH (Dw := False) ?_
  refine CH_q2 (Dw := False) rfl ?_
  obtain ⟨v119, h120, h121⟩ := El.list h118
  refine VQ_y (fun w' hw' => Y_load ((World.cell?_of_block (hw'.2 _ h118.2.1 h118.1)).trans h120) Tryz.isAgg33 rfl) rfl rfl rfl ?_
  refine VQ_CH (Dw := False) ?_
  refine CH_q2 (Dw := False) rfl ?_
  refine VQ_y (fun w' hw' => Y_move rfl) rfl rfl rfl ?_
  refine VQ_CH (Dw := False) ?_
  refine CH_l1 (Dw := False) (k := 0) rfl ?_
  obtain ⟨x122, hx122, hm⟩ := Option.bind_eq_some_iff.1 hm
  refine V_call Tryz.call18 rfl rfl rfl rfl (staff_nat_times_c (Dw := False) w111 hA x21.1.num v115 h117 x103.1 v104 h105 hx122) ?_
  rintro v123 w125 ⟨_, rfl, h124, hk126⟩
  have ht127 := Kp.tr (Dw := False) hk126 hA hB
  replace hH := Hp.kp (Dw := False) hH hk126
  replace h67 := El.tr (Dw := False) h67 ht127
  replace h83 := Sl.tr (Dw := False) h83 ht127
  replace h93 := Sl.tr (Dw := False) h93 ht127
  replace h121 := Sl.tr (Dw := False) h121 ht127
  replace hK := Tr.trans (Dw := False) hK ht127
  replace hB := Nat.le_trans hB ht127.ex.size
  replace hA := ht127.new
  refine V_CH (Dw := False) (hk126) ?_
  refine CH_l1 (Dw := False) (k := 0) rfl ?_
  obtain ⟨x128, hx128, hm⟩ := Option.bind_eq_some_iff.1 hm
  refine V_call Tryz.call18 rfl rfl rfl rfl (staff_nat_times_c (Dw := False) w125 hA x21.2.1.num v119 h121 x91.1 v92 h93 hx128) ?_
  rintro v129 w131 ⟨_, rfl, h130, hk132⟩
  have ht133 := Kp.tr (Dw := False) hk132 hA hB
  replace hH := Hp.kp (Dw := False) hH hk132
  replace h67 := El.tr (Dw := False) h67 ht133
  replace h83 := Sl.tr (Dw := False) h83 ht133
  replace h93 := Sl.tr (Dw := False) h93 ht133
  replace h124 := Sl.tr (Dw := False) h124 ht133
  replace hK := Tr.trans (Dw := False) hK ht133
  replace hB := Nat.le_trans hB ht133.ex.size
  replace hA := ht133.new
  refine V_CH (Dw := False) (hk132) ?_
  refine CH_l1 (Dw := False) (k := 0) rfl ?_
  obtain ⟨x134, hx134, hm⟩ := Option.bind_eq_some_iff.1 hm
  refine V_call Tryz.call19 rfl rfl rfl rfl (staff_nat_plus_c (Dw := False) w131 hA x122 v123 h124 x128 v129 h130 hx134) ?_
  rintro v135 w137 ⟨_, rfl, h136, hk138⟩
  obtain ⟨A139, ht140, hH141⟩ := Hp.addOwnd (Dw := False) hH hB hA hk138 h136
  replace h67 := El.tr (Dw := False) h67 ht140
  replace h83 := Sl.tr (Dw := False) h83 ht140
  replace h93 := Sl.tr (Dw := False) h93 ht140
  replace hK := Tr.trans (Dw := False) hK ht140
  replace hB := Nat.le_trans hB ht140.ex.size
  replace hA := ht140.new
  replace hH : Hp w.heap.size A139 w137 (obS (α := Int) 3 v135 x134 :: obC b14 [.string ByteArray.empty, .string ByteArray.empty] 23 :: []) := hH141
  refine V_CH (Dw := False) (hk138) ?_
  refine CH_q2 (Dw := False) rfl ?_
  refine VQ_y (fun w' hw' => Y_assign rfl) rfl rfl rfl ?_
  refine VQ_CH (Dw := False) ?_
  refine CH_tail (Dw := False) ?_
  show V _ _ _ _ [] _ _
  refine V_to (fun _ _ => rfl) ?_
  refine C_seq ?_
  refine C_region ?_
  refine V_mv rfl rfl ?_
  refine V_mv rfl rfl ?_
  obtain ⟨A142, ht143, h144, hH145⟩ := Hp.freeze (Dw := False) (α := Int) (v := v135) (l := x134) hH (i := 0) rfl hA
  replace h67 := El.tr (Dw := False) h67 ht143
  replace h83 := Sl.tr (Dw := False) h83 ht143
  replace h93 := Sl.tr (Dw := False) h93 ht143
  replace hK := Tr.trans (Dw := False) hK ht143
  replace hB := Nat.le_trans hB ht143.ex.size
  replace hA := ht143.new
  replace hH : Hp w.heap.size A142 w137 (obC b14 [.string ByteArray.empty, .string ByteArray.empty] 23 :: []) := hH145
  obtain ⟨x147, hx147, hm⟩ := Option.bind_eq_some_iff.1 hm
  refine V_call Tryz.call16 rfl rfl rfl rfl (staff_divisor_c (Dw := False) w137 hA x134 v135 h144 x81 v82 h83 hx147) ?_
  rintro v148 w150 ⟨_, rfl, h149, hk151⟩
  have ht152 := Kp.tr (Dw := False) hk151 hA hB
  replace hH := Hp.kp (Dw := False) hH hk151
  replace h67 := El.tr (Dw := False) h67 ht152
  replace h93 := Sl.tr (Dw := False) h93 ht152
  replace h144 := Sl.tr (Dw := False) h144 ht152
  replace hK := Tr.trans (Dw := False) hK ht152
  replace hB := Nat.le_trans hB ht152.ex.size
  replace hA := ht152.new
  refine V_as rfl rfl ?_
  refine V_to (fun _ _ => rfl) ?_
  refine C_seq ?_
  refine C_region ?_
  refine V_mv rfl rfl ?_
  refine V_mv rfl rfl ?_
  obtain ⟨x153, hx153, hm⟩ := Option.bind_eq_some_iff.1 hm
  refine V_call Tryz.call17 rfl rfl rfl rfl (staff_nat_by_c (Dw := False) w150 hA x134 v135 h144 x147 v148 h149 hx153) ?_
  rintro _ w158 ⟨v154, v156, rfl, h155, h157, hk159⟩
  have ht160 := Kp.tr (Dw := False) hk159 hA hB
  replace hH := Hp.kp (Dw := False) hH hk159
  replace h67 := El.tr (Dw := False) h67 ht160
  replace h93 := Sl.tr (Dw := False) h93 ht160
  replace h149 := Sl.tr (Dw := False) h149 ht160
  replace hK := Tr.trans (Dw := False) hK ht160
  replace hB := Nat.le_trans hB ht160.ex.size
  replace hA := ht160.new
  refine V_mv rfl rfl ?_
  refine V_y (Y_extract rfl rfl) rfl rfl rfl ?_
  refine V_y (Y_extract rfl rfl) rfl rfl rfl ?_
  refine V_as rfl rfl ?_
  refine V_to (fun _ _ => rfl) ?_
  refine C_seq ?_
  refine C_region ?_
  have h161 := El_staff_ratio_1 h67
  refine V_y (Y_fieldAddr Tryz.underlying35 rfl Tryz.sizeOf33 (by decide) rfl) rfl rfl rfl ?_
  obtain ⟨v162, h163, h164⟩ := El.list h161
  refine V_y (Y_load h163 Tryz.isAgg33 rfl) rfl rfl rfl ?_
  refine V_mv rfl rfl ?_
  obtain ⟨x165, hx165, hm⟩ := Option.bind_eq_some_iff.1 hm
  refine V_call Tryz.call17 rfl rfl rfl rfl (staff_nat_by_c (Dw := False) w158 hA x21.2.1.den v162 h164 x147 v148 h149 hx165) ?_
  rintro _ w170 ⟨v166, v168, rfl, h167, h169, hk171⟩
  have ht172 := Kp.tr (Dw := False) hk171 hA hB
  replace hH := Hp.kp (Dw := False) hH hk171
  replace h93 := Sl.tr (Dw := False) h93 ht172
  replace h155 := Sl.tr (Dw := False) h155 ht172
  replace hK := Tr.trans (Dw := False) hK ht172
  replace hB := Nat.le_trans hB ht172.ex.size
  replace hA := ht172.new
  refine V_mv rfl rfl ?_
  refine V_y (Y_extract rfl rfl) rfl rfl rfl ?_
  refine V_y (Y_extract rfl rfl) rfl rfl rfl ?_
  refine V_as rfl rfl ?_
  refine V_as rfl rfl ?_
  refine V_to (fun _ _ => rfl) ?_
  refine C_seq ?_
  refine C_region ?_
  refine V_mv rfl rfl ?_
  refine V_mv rfl rfl ?_
  refine V_mv rfl rfl ?_
  obtain ⟨x173, hx173, hm⟩ := Option.bind_eq_some_iff.1 hm
  refine V_call Tryz.call18 rfl rfl rfl rfl (staff_nat_times_c (Dw := False) w170 hA x91.1 v92 h93 x165.1 v166 h167 hx173) ?_
  rintro v174 w176 ⟨_, rfl, h175, hk177⟩
  have ht178 := Kp.tr (Dw := False) hk177 hA hB
  replace hH := Hp.kp (Dw := False) hH hk177
  replace h155 := Sl.tr (Dw := False) h155 ht178
  replace hK := Tr.trans (Dw := False) hK ht178
  replace hB := Nat.le_trans hB ht178.ex.size
  replace hA := ht178.new
  refine V_y (Y_build (cells := #[v154, v174]) Tryz.underlying35 Tryz.zeroValue35 (Tryz_places35 _ Tryz.underlying35) rfl (by obtain ⟨a179, c180, e181, _⟩ := Sl.form h155; subst e181; obtain ⟨a182, c183, e184, _⟩ := Sl.form h175; subst e184; with_unfolding_all rfl)) rfl rfl rfl ?_
  obtain ⟨x185, hx185, hm⟩ := Option.bind_eq_some_iff.1 hm
  refine V_call Tryz.call20 rfl rfl rfl rfl (staff_limited_c w176 hA (Fz.tr (Dw := False) hT hK) (⟨x153.1, x173⟩ : staff_ratio) v154 h155 v174 h175 hx185) ?_
  rintro _ w186 ⟨rfl, hk187⟩
  have ht188 := Kp.tr (Dw := False) hk187 hA hB
  replace hH := Hp.kp (Dw := False) hH hk187
  replace hK := Tr.trans (Dw := False) hK ht188
  replace hB := Nat.le_trans hB ht188.ex.size
  replace hA := ht188.new
  refine V_y (Y_extract rfl rfl) rfl rfl rfl ?_
  refine V_y (Y_extract rfl rfl) rfl rfl rfl ?_
  refine V_storeC (Dw := False) (off := 0) (ds := [.string x185.1.num, .string x185.1.den]) hH (i := 0) rfl Tryz.sizeOf23 rfl (Nat.le_of_ble_eq_true rfl) (by simp [Value.cells, Value.oneCell']) rfl hB hA rfl rfl ?_
  intro w189 hH190 ht191
  replace hK := Tr.trans (Dw := False) hK ht191
  replace hH : Hp w.heap.size A142 w189 (obC b14 [.string x185.1.num, .string x185.1.den] 23 :: []) := hH190
  refine V_as rfl rfl ?_
  refine V_to (fun _ _ => rfl) ?_
  obtain rfl := Option.some.inj hm
  refine C_ret ?_
  try simp only [↓inBlock_ret, ↓then_ret]
  exact retQ rfl (Res.l2 Tryz.results6 (RL.cell rfl (loadVar_agg (Hp.part (off := 0) (n := 2) (ds := [.string x185.1.num, .string x185.1.den]) hH (i := 0) rfl rfl) Tryz.isAgg23 Tryz.sizeOf23)) (RL.tmp rfl)) ⟨rfl, hK.kp⟩

set_option maxRecDepth 4000 in
set_option maxHeartbeats 4000000 in
theorem portref2_whole_plus_c (w : World) {A : Nat → Prop} (hA : ∀ b, w.heap.size ≤ b → A b) (a_ : (List UInt32)) (v_a_ : Value) (h_a_ : Sl A w v_a_ a_) (b : (List UInt32)) (v_b : Value) (h_b : Sl A w v_b b) {r : (List UInt32)} (hm : portref2_whole_plus a_ b = some r) : Ret Tryz.prog 39 #[v_a_, v_b] w fun v w' => ∃ s0, v = s0 ∧ Ownd 77 w w' s0 r ∧ Kp Dw w w' := by
 unfold portref2_whole_plus at hm
 refine enter Tryz.func39 rfl Tryz.ntmps39 rfl ?_
 have hA0 := hA
 have hB := Nat.le_refl w.heap.size
 have hK : Tr Dw w.heap.size A w A w := Tr.refl (Dw := Dw) hA
 have hH : Hp w.heap.size A w [] := Hp.nil
 refine C_seq ?_
 refine C_region ?_
 refine V_as rfl rfl ?_
 refine V_to (fun _ _ => rfl) ?_
 refine C_seq ?_
 refine C_seq ?_
 refine C_region ?_
 refine V_mv rfl rfl ?_
 refine V_y (Y_lenSl h_a_ rfl Tryz.underlying41 rfl) rfl rfl rfl ?_
 refine V_mv rfl rfl ?_
 refine V_y (Y_lenSl h_b rfl Tryz.underlying41 rfl) rfl rfl rfl ?_
 refine V_y (Y_lss rfl rfl) rfl rfl rfl ?_
 refine V_to (fun _ _ => rfl) ?_
 obtain ⟨s6, ho5, hm⟩ := Option.bind_eq_some_iff.1 hm
 refine C_cutG (ι := (Value × Value)) (fun ⟨v8, v10⟩ => [(0, v8), (1, v10)]) (fun ⟨v8, v10⟩ => fun w' => Sl A w' v8 s6.1 ∧ Sl A w' v10 s6.2 ∧ w = w') ?_ ?_
 ·refine C_cond rfl (fun hc15 => ?_) (fun hc15 => ?_)
  ·rw [if_pos hc15] at ho5
   refine C_region ?_
   refine V_mv rfl rfl ?_
   refine V_mv rfl rfl ?_
   refine V_as rfl rfl ?_
   refine V_as rfl rfl ?_
   obtain rfl := Option.some.inj ho5
   refine V_end (fun a ha16 => ?_)
   exact ⟨(v_b, v_a_), ha16.sub ⟨rfl, rfl, trivial⟩, ⟨h_b, h_a_, rfl⟩⟩
  ·rw [if_neg (nt hc15)] at ho5
   obtain rfl := Option.some.inj ho5
   refine C_skip (fun a ha17 => ?_)
   exact ⟨(v_a_, v_b), ha17.sub ⟨rfl, rfl, trivial⟩, ⟨h_a_, h_b, rfl⟩⟩
 rintro ⟨v8, v10⟩ _ ⟨h9, h11, rfl⟩ a ha14
 refine C_at (n := ⟨56, [], none⟩) (fun _ _ => rfl) ?_ ha14
 refine C_seq ?_
 refine C_region ?_
 refine V_mv rfl rfl ?_
 refine V_y (Y_lenSl h9 rfl Tryz.underlying41 rfl) rfl rfl rfl ?_
 refine V_y (Y_addI rfl rfl) rfl rfl rfl ?_
 obtain ⟨x18, hx18, hm⟩ := Option.bind_eq_some_iff.1 hm
 refine V_makeCH (Dw := Dw) (e := 77) (ti := Tryz.t77) hH hx18 (fun _ _ => rfl) Tryz.underlying41 Tryz_info77 rfl rfl rfl (by decide) (by decide) hB hA rfl rfl rfl ?_
 intro v19 w20 A21 hH22 ht23
 replace h9 := Sl.tr h9 ht23
 replace h11 := Sl.tr h11 ht23
 replace hK := Tr.trans hK ht23
 replace hB := Nat.le_trans hB ht23.ex.size
 replace hA := ht23.new
 replace hH : Hp w.heap.size A21 w20 (obS (α := UInt32) 77 v19 x18 :: []) := hH22
 refine V_as rfl rfl ?_
 refine V_to (fun _ _ => rfl) ?_
 refine C_seq ?_
 refine C_region ?_
 refine V_as rfl rfl ?_
 refine V_to (fun _ _ => rfl) ?_
 refine C_seq ?_
 refine C_seq ?_
 refine C_region ?_
 refine V_mv rfl rfl ?_
 refine V_y (Y_lenSl h9 rfl Tryz.underlying41 rfl) rfl rfl rfl ?_
 refine V_mv rfl rfl ?_
 refine V_to (fun _ _ => rfl) ?_
 have hn48 := Sl.le h9
 obtain ⟨o24, ho24, hm⟩ := Option.bind_eq_some_iff.1 hm
 refine C_cutG (ι := (((List UInt32) × Int) × Value × (Nat → Prop))) (fun ⟨s25, v31, A33⟩ => [(5, v31), (6, .int .u64 s25.2)]) (fun ⟨s25, v31, A33⟩ => fun w' => o24 = .fin s25 ∧ Hp w.heap.size A33 w' (obS (α := UInt32) 77 v31 s25.1 :: []) ∧ Tr Dw w.heap.size A21 w20 A33 w') ?_ ?_
 ·refine C_block ?_
  refine C_range ho24 (fun k27 s35 a w' => ∃ i : (Value × (Nat → Prop)), Has ⟨56, [], none⟩ a ([(0, v8), (1, v10), (5, i.1), (6, .int .u64 s35.2), (20, .int .i64 (s6.1.length : Int)), (21, .int .i64 (k27 : Int))]) ∧ Hp w.heap.size i.2 w' (obS (α := UInt32) 77 i.1 s35.1 :: []) ∧ Tr Dw w.heap.size A21 w20 i.2 w') (fun a ha => ⟨(v19, A21), ha.sub ⟨rfl, rfl, rfl, rfl, rfl, rfl, trivial⟩, ⟨hH, Tr.refl (Dw := Dw) hA⟩⟩) ?_
  rintro K k27 s35 a w36 ⟨⟨v37, A39⟩, ha82, hH40, hr26⟩ hle44 K47 h46
  refine C_of ?_ ha82
  replace h9 := Sl.tr h9 hr26
  replace h11 := Sl.tr h11 hr26
  replace hB := Nat.le_trans hB hr26.ex.size
  replace hA := hr26.new
  replace hH : Hp w.heap.size A39 w36 (obS (α := UInt32) 77 v37 s35.1 :: []) := hH40
  refine C_seq (C_region (V_y (Y_lss rfl rfl) rfl rfl rfl (V_to (fun _ _ => rfl) ?_)))
  refine C_seq ?_
  refine C_cond rfl (fun hc49 => ?_) (fun hc49 => ?_)
  ·have hlt45 := lt_of_dec hc49
   obtain ⟨x41, h42, h43⟩ := K47 hlt45
   refine C_skip_to (fun _ _ => rfl) ?_
   refine C_seq ?_
   refine C_block ?_
   refine C_seq ?_
   refine C_region ?_
   refine V_mv rfl rfl ?_
   refine V_as rfl rfl ?_
   refine V_to (fun _ _ => rfl) ?_
   refine C_seq ?_
   refine C_region ?_
   refine V_mv rfl rfl ?_
   refine V_mv rfl rfl ?_
   refine V_mv rfl rfl ?_
   obtain ⟨x50, hx50, h42⟩ := Option.bind_eq_some_iff.1 h42
   refine V_indexAddr h9 hx50 Tryz.underlying41 Tryz.sizeOf77 rfl rfl rfl ?_
   intro b51 o52 h53
   refine V_y (Y_load (El.u32 h53) Tryz.isAgg77 rfl) rfl rfl rfl ?_
   refine V_y (Y_convI Tryz.underlying77 Tryz.underlying76 rfl) rfl rfl rfl ?_
   refine V_y (Y_add rfl rfl) rfl rfl rfl ?_
   refine V_as rfl rfl ?_
   refine V_to (fun _ _ => rfl) ?_
   refine C_seq ?_
   refine C_seq ?_
   refine C_region ?_
   refine V_mv rfl rfl ?_
   refine V_mv rfl rfl ?_
   refine V_y (Y_lenSl h11 rfl Tryz.underlying41 rfl) rfl rfl rfl ?_
   refine V_y (Y_lss rfl rfl) rfl rfl rfl ?_
   refine V_to (fun _ _ => rfl) ?_
   obtain ⟨s55, ho54, h42⟩ := Option.bind_eq_some_iff.1 h42
   refine C_cutG (ι := Unit) (fun (_ : Unit) => [(0, v8), (1, v10), (5, v37), (6, .int .u64 s55), (20, .int .i64 (s6.1.length : Int)), (21, .int .i64 (k27 : Int))]) (fun (_ : Unit) => fun w' => w36 = w') ?_ ?_
   ·refine C_cond rfl (fun hc60 => ?_) (fun hc60 => ?_)
    ·rw [if_pos hc60] at ho54
     refine C_region ?_
     refine V_mv rfl rfl ?_
     refine V_mv rfl rfl ?_
     refine V_mv rfl rfl ?_
     obtain ⟨x61, hx61, ho54⟩ := Option.bind_eq_some_iff.1 ho54
     refine V_indexAddr h11 hx61 Tryz.underlying41 Tryz.sizeOf77 rfl rfl rfl ?_
     intro b62 o63 h64
     refine V_y (Y_load (El.u32 h64) Tryz.isAgg77 rfl) rfl rfl rfl ?_
     refine V_y (Y_convI Tryz.underlying77 Tryz.underlying76 rfl) rfl rfl rfl ?_
     refine V_y (Y_add rfl rfl) rfl rfl rfl ?_
     refine V_as rfl rfl ?_
     obtain rfl := Option.some.inj ho54
     refine V_end (fun a ha65 => ?_)
     exact ⟨(), ha65.sub ⟨rfl, rfl, rfl, rfl, rfl, rfl, trivial⟩, rfl⟩
    ·rw [if_neg (nt hc60)] at ho54
     obtain rfl := Option.some.inj ho54
     refine C_skip (fun a ha66 => ?_)
     exact ⟨(), ha66.sub ⟨rfl, rfl, rfl, rfl, rfl, rfl, trivial⟩, rfl⟩
   rintro _ _ rfl a ha59
   refine C_at (n := ⟨56, [], none⟩) (fun _ _ => rfl) ?_ ha59
   refine C_seq ?_
   refine C_region ?_
   refine V_mv rfl rfl ?_
   refine V_mv rfl rfl ?_
   refine V_y (Y_convU32 Tryz.underlying76 Tryz.underlying77 rfl) rfl rfl rfl ?_
   refine V_buildSlice (Dw := Dw) (cells := #[.int .u32 ((toU32 s55).toNat : Int)]) (l := ([(toU32 s55)] : List UInt32)) (len := 1) Tryz.underlying41 Tryz.sizeOf77 Tryz.zeroValue77 rfl (by generalize (((toU32 s55).toNat : Int) : Int) = z71; kernel_rfl) (show (1 * 1 : Nat) ≠ 0 by decide) (show (1 * 1 : Nat) ≤ 2 ^ 24 by decide) hA ⟨[.int .u32 ((toU32 s55).toNat : Int)], _, rfl, rfl, rfl⟩ rfl rfl ?_
   intro v67 w68 hk70 h69
   have ht72 := Kp.tr hk70 hA hB
   replace hH := Hp.kp hH hk70
   replace hr26 := Tr.trans hr26 ht72
   replace hB := Nat.le_trans hB ht72.ex.size
   replace hA := ht72.new
   obtain ⟨x73, hx73, h42⟩ := Option.bind_eq_some_iff.1 h42
   refine V_appendH (Dw := Dw) (e := 77) (v := v37) (l := s35.1) (ti := Tryz.t77) (bytes := 4) (lim := 35184372088832) hH (i := 0) rfl h69 hx73 Tryz.underlying41 Tryz_info77 rfl rfl rfl rfl (by decide) (by decide) (by decide) hB hA rfl rfl rfl ?_
   intro v74 w75 A76 hH77 ht78
   replace hr26 := Tr.trans hr26 ht78
   replace hH : Hp w.heap.size A76 w75 (obS (α := UInt32) 77 v74 x73 :: []) := hH77
   refine V_as rfl rfl ?_
   refine V_to (fun _ _ => rfl) ?_
   refine C_region ?_
   refine V_mv rfl rfl ?_
   obtain ⟨x79, hx79, h42⟩ := Option.bind_eq_some_iff.1 h42
   refine V_y (Y_shr hx79 rfl rfl) rfl rfl rfl ?_
   refine V_as rfl rfl ?_
   refine V_to (fun _ _ => rfl) ?_
   refine C_region ?_
   refine V_y (Y_addI rfl rfl) rfl rfl rfl ?_
   refine V_mv rfl rfl ?_
   obtain rfl := Option.some.inj h42
   refine V_end (fun a ha80 => ?_)
   exact ⟨(x73, x79), hlt45, h43, ⟨(v74, A76), ha80.sub ⟨rfl, rfl, rfl, rfl, rfl, (congrArg (fun z => some (Value.int .i64 z)) (w64_succ hlt45 hn48)), trivial⟩, ⟨hH, hr26⟩⟩⟩
  ·refine C_exit (fun a ha81 => ?_)
   exact ⟨((s35.1, s35.2), v37, A39), ha81.sub ⟨rfl, rfl, trivial⟩, ⟨(h46 (eq_of_dec hle44 hc49)).symm, hH, hr26⟩⟩
 rintro ⟨s25, v31, A33⟩ w28 ⟨rfl, hH34, hk29⟩ a ha30
 rw [Lp.andThen_fin] at hm
 replace hK := Tr.trans hK hk29
 replace hB := Nat.le_trans hB hk29.ex.size
 replace hA := hk29.new
 replace hH : Hp w.heap.size A33 w28 (obS (α := UInt32) 77 v31 s25.1 :: []) := hH34
 refine C_at (n := ⟨56, [], none⟩) (fun _ _ => rfl) ?_ ha30
 refine C_seq ?_
 refine C_region ?_
 refine V_mv rfl rfl ?_
 refine V_mv rfl rfl ?_
 refine V_y (Y_convU32 Tryz.underlying76 Tryz.underlying77 rfl) rfl rfl rfl ?_
 refine V_buildSlice (Dw := Dw) (cells := #[.int .u32 ((toU32 s25.2).toNat : Int)]) (l := ([(toU32 s25.2)] : List UInt32)) (len := 1) Tryz.underlying41 Tryz.sizeOf77 Tryz.zeroValue77 rfl (by generalize (((toU32 s25.2).toNat : Int) : Int) = z87; kernel_rfl) (show (1 * 1 : Nat) ≠ 0 by decide) (show (1 * 1 : Nat) ≤ 2 ^ 24 by decide) hA ⟨[.int .u32 ((toU32 s25.2).toNat : Int)], _, rfl, rfl, rfl⟩ rfl rfl ?_
 intro v83 w84 hk86 h85
 have ht88 := Kp.tr hk86 hA hB
 replace hH := Hp.kp hH hk86
 replace hK := Tr.trans hK ht88
 replace hB := Nat.le_trans hB ht88.ex.size
 replace hA := ht88.new
 obtain ⟨x89, hx89, hm⟩ := Option.bind_eq_some_iff.1 hm
 refine V_appendH (Dw := Dw) (e := 77) (v := v31) (l := s25.1) (ti := Tryz.t77) (bytes := 4) (lim := 35184372088832) hH (i := 0) rfl h85 hx89 Tryz.underlying41 Tryz_info77 rfl rfl rfl rfl (by decide) (by decide) (by decide) hB hA rfl rfl rfl ?_
 intro v90 w91 A92 hH93 ht94
 replace hK := Tr.trans hK ht94
 replace hB := Nat.le_trans hB ht94.ex.size
 replace hA := ht94.new
 replace hH : Hp w.heap.size A92 w91 (obS (α := UInt32) 77 v90 x89 :: []) := hH93
 obtain ⟨x95, hx95, hm⟩ := Option.bind_eq_some_iff.1 hm
 refine V_call Tryz.call46 rfl rfl rfl rfl (portref2_whole_trim_c (Dw := Dw) w91 hB hA x89 v90 hH hx95) ?_
 rintro v96 w98 ⟨_, A99, rfl, hH100, ht101⟩
 replace hK := Tr.trans hK ht101
 replace hH : Hp w.heap.size A99 w98 (obS (α := UInt32) 77 v96 x95 :: []) := hH100
 refine V_as rfl rfl ?_
 refine V_to (fun _ _ => rfl) ?_
 obtain rfl := Option.some.inj hm
 refine C_ret ?_
 try simp only [↓inBlock_ret, ↓then_ret]
 exact retQ rfl (Res.one Tryz.results39 rfl) ⟨v96, rfl, (Hp.ownd hH (i := 0) rfl), hK.kp⟩

set_option maxRecDepth 4000 in
set_option maxHeartbeats 4000000 in
theorem portref2_ratio_plus_c (w : World) {A : Nat → Prop} (hA : ∀ b, w.heap.size ≤ b → A b) (a_ : portref2_ratio) (v_a_0 : Value) (h_a_0 : Sl A w v_a_0 a_.num) (v_a_1 : Value) (h_a_1 : Sl A w v_a_1 a_.den) (b : portref2_ratio) (v_b0 : Value) (h_b0 : Sl A w v_b0 b.num) (v_b1 : Value) (h_b1 : Sl A w v_b1 b.den) {r : portref2_ratio} (hm : portref2_ratio_plus a_ b = some r) : Ret Tryz.prog 21 #[.agg #[v_a_0, v_a_1], .agg #[v_b0, v_b1]] w fun v w' => ∃ s0 s1, v = .agg #[s0, s1] ∧ Sl A w' s0 r.num ∧ Sl A w' s1 r.den ∧ Kp Dw w w' := by
 unfold portref2_ratio_plus at hm
 refine enter Tryz.func21 rfl Tryz.ntmps21 rfl ?_
 have hA0 := hA
 have hB := Nat.le_refl w.heap.size
 have hK : Tr Dw w.heap.size A w A w := Tr.refl (Dw := Dw) hA
 have hH : Hp w.heap.size A w [] := Hp.nil
 refine C_seq ?_
 refine C_region ?_
 refine V_box rfl rfl ?_
 intro b9 w10 h11
 have hk13 := h11.kp (Dw := Dw)
 have h12 : El (α := portref2_ratio) A w10 b9 0 a_ := h11.el hA ⟨[v_a_0], _, rfl, ⟨_, rfl, h_a_0⟩, ⟨_, rfl, h_a_1⟩⟩
 have ht14 := Kp.tr hk13 hA hB
 replace hH := Hp.kp hH hk13
 replace h_b0 := Sl.tr h_b0 ht14
 replace h_b1 := Sl.tr h_b1 ht14
 replace hK := Tr.trans hK ht14
 replace hB := Nat.le_trans hB ht14.ex.size
 replace hA := ht14.new
 refine V_box rfl rfl ?_
 intro b15 w17 h18
 have hk20 := h18.kp (Dw := Dw)
 have h19 : El (α := portref2_ratio) A w17 b15 0 b := h18.el hA ⟨[v_b0], _, rfl, ⟨_, rfl, h_b0⟩, ⟨_, rfl, h_b1⟩⟩
 have ht21 := Kp.tr hk20 hA hB
 replace hH := Hp.kp hH hk20
 replace h12 := El.tr h12 ht21
 replace hK := Tr.trans hK ht21
 replace hB := Nat.le_trans hB ht21.ex.size
 replace hA := ht21.new
 refine V_allocH (Dw := Dw) (B := w.heap.size) hH Tryz.zeroValue43 hB hA rfl ?_
 intro b22 w23 A24 hH25 ht26
 replace h12 := El.tr h12 ht26
 replace h19 := El.tr h19 ht26
 replace hK := Tr.trans hK ht26
 replace hB := Nat.le_trans hB ht26.ex.size
 replace hA := ht26.new
 replace hH : Hp w.heap.size A24 w23 (obC b22 [.slice none 0 0, .slice none 0 0] 43 :: []) := hH25
 refine V_to (fun _ _ => rfl) ?_
 refine C_seq ?_
 refine C_region_ch (Dw := Dw) A24 18 [(1, 0), (1, 1), (1, 2), (1, 3), (1, 5), (1, 6), (1, 7), (1, 8), (1, 11), (1, 12), (1, 13), (1, 14), (2, 4), (2, 9), (2, 10), (2, 15), (2, 16), (4, 17)] Tryz_mixed (by kernel_rfl) (fun w27 hk28 => ?_)
 have ht29 := Kp.tr hk28 hA hB
 replace hH := Hp.kp hH hk28
 replace h12 := El.tr h12 ht29
 replace h19 := El.tr h19 ht29
 replace hK := Tr.trans hK ht29
 replace hB := Nat.le_trans hB ht29.ex.size
 replace hA := ht29.new
 refine CH_q2 (Dw := Dw) rfl ?_
 have h30 := El_portref2_ratio_0 h12
 refine VQ_y (fun w' hw' => Y_fieldAddr Tryz.underlying43 rfl Tryz.sizeOf41 (by decide) rfl) rfl rfl rfl ?_
 refine VQ_CH (Dw := Dw) ?_
 refine CH_q2 (Dw := Dw) rfl ?_
 obtain ⟨v31, h32, h33⟩ := El.list h30
 refine VQ_y (fun w' hw' => Y_load ((World.cell?_of_block (hw'.2 _ h30.2.1 h30.1)).trans h32) Tryz.isAgg41 rfl) rfl rfl rfl ?_
 refine VQ_CH (Dw := Dw) ?_
 refine CH_q2 (Dw := Dw) rfl ?_
 have h34 := El_portref2_ratio_1 h19
 refine VQ_y (fun w' hw' => Y_fieldAddr Tryz.underlying43 rfl Tryz.sizeOf41 (by decide) rfl) rfl rfl rfl ?_
 refine VQ_CH (Dw := Dw) ?_
 refine CH_q2 (Dw := Dw) rfl ?_
 obtain ⟨v35, h36, h37⟩ := El.list h34
 refine VQ_y (fun w' hw' => Y_load ((World.cell?_of_block (hw'.2 _ h34.2.1 h34.1)).trans h36) Tryz.isAgg41 rfl) rfl rfl rfl ?_
 refine VQ_CH (Dw := Dw) ?_
 refine CH_q2 (Dw := Dw) rfl ?_
 have h38 := El_portref2_ratio_0 h19
 refine VQ_y (fun w' hw' => Y_fieldAddr Tryz.underlying43 rfl Tryz.sizeOf41 (by decide) rfl) rfl rfl rfl ?_
 refine VQ_CH (Dw := Dw) ?_
 refine CH_q2 (Dw := Dw) rfl ?_
 obtain ⟨v39, h40, h41⟩ := El.list h38
 refine VQ_y (fun w' hw' => Y_load ((World.cell?_of_block (hw'.2 _ h38.2.1 h38.1)).trans h40) Tryz.isAgg41 rfl) rfl rfl rfl ?_
 refine VQ_CH (Dw := Dw) ?_
 refine CH_q2 (Dw := Dw) rfl ?_
 have h42 := El_portref2_ratio_1 h12
 refine VQ_y (fun w' hw' => Y_fieldAddr Tryz.underlying43 rfl Tryz.sizeOf41 (by decide) rfl) rfl rfl rfl ?_
 refine VQ_CH (Dw := Dw) ?_
 refine CH_q2 (Dw := Dw) rfl ?_
 obtain ⟨v43, h44, h45⟩ := El.list h42
 refine VQ_y (fun w' hw' => Y_load ((World.cell?_of_block (hw'.2 _ h42.2.1 h42.1)).trans h44) Tryz.isAgg41 rfl) rfl rfl rfl ?_
 refine VQ_CH (Dw := Dw) ?_
 refine CH_q2 (Dw := Dw) rfl ?_
 have h46 := El_portref2_ratio_1 h12
 refine VQ_y (fun w' hw' => Y_fieldAddr Tryz.underlying43 rfl Tryz.sizeOf41 (by decide) rfl) rfl rfl rfl ?_
 refine VQ_CH (Dw := Dw) ?_
 refine CH_q2 (Dw := Dw) rfl ?_
 obtain ⟨v47, h48, h49⟩ := El.list h46
 refine VQ_y (fun w' hw' => Y_load ((World.cell?_of_block (hw'.2 _ h46.2.1 h46.1)).trans h48) Tryz.isAgg41 rfl) rfl rfl rfl ?_
 refine VQ_CH (Dw := Dw) ?_
 refine CH_q2 (Dw := Dw) rfl ?_
 have h50 := El_portref2_ratio_1 h19
 refine VQ_y (fun w' hw' => Y_fieldAddr Tryz.underlying43 rfl Tryz.sizeOf41 (by decide) rfl) rfl rfl rfl ?_
 refine VQ_CH (Dw := Dw) ?_
 refine CH_q2 (Dw := Dw) rfl ?_
 obtain ⟨v51, h52, h53⟩ := El.list h50
 refine VQ_y (fun w' hw' => Y_load ((World.cell?_of_block (hw'.2 _ h50.2.1 h50.1)).trans h52) Tryz.isAgg41 rfl) rfl rfl rfl ?_
 refine VQ_CH (Dw := Dw) ?_
 refine CH_l1 (Dw := Dw) (k := 0) rfl ?_
 obtain ⟨x54, hx54, hm⟩ := Option.bind_eq_some_iff.1 hm
 refine V_call Tryz.call30 rfl rfl rfl rfl (portref2_whole_times_c (Dw := Dw) w27 hA a_.num v31 h33 b.den v35 h37 hx54) ?_
 rintro v55 w57 ⟨_, rfl, h56, hk58⟩
 obtain ⟨A59, ht60, hH61⟩ := Hp.addOwnd (Dw := Dw) hH hB hA hk58 h56
 replace h41 := Sl.tr h41 ht60
 replace h45 := Sl.tr h45 ht60
 replace h49 := Sl.tr h49 ht60
 replace h53 := Sl.tr h53 ht60
 replace hK := Tr.trans hK ht60
 replace hB := Nat.le_trans hB ht60.ex.size
 replace hA := ht60.new
 replace hH : Hp w.heap.size A59 w57 (obS (α := UInt32) 77 v55 x54 :: obC b22 [.slice none 0 0, .slice none 0 0] 43 :: []) := hH61
 refine V_CH (Dw := Dw) (hk58) ?_
 refine CH_l1 (Dw := Dw) (k := 0) rfl ?_
 obtain ⟨x62, hx62, hm⟩ := Option.bind_eq_some_iff.1 hm
 refine V_call Tryz.call30 rfl rfl rfl rfl (portref2_whole_times_c (Dw := Dw) w57 hA b.num v39 h41 a_.den v43 h45 hx62) ?_
 rintro v63 w65 ⟨_, rfl, h64, hk66⟩
 obtain ⟨A67, ht68, hH69⟩ := Hp.addOwnd (Dw := Dw) hH hB hA hk66 h64
 replace h49 := Sl.tr h49 ht68
 replace h53 := Sl.tr h53 ht68
 replace hK := Tr.trans hK ht68
 replace hB := Nat.le_trans hB ht68.ex.size
 replace hA := ht68.new
 replace hH : Hp w.heap.size A67 w65 (obS (α := UInt32) 77 v63 x62 :: obS (α := UInt32) 77 v55 x54 :: obC b22 [.slice none 0 0, .slice none 0 0] 43 :: []) := hH69
 refine V_CH (Dw := Dw) (hk66) ?_
 refine CH_l1 (Dw := Dw) (k := 0) rfl ?_
 obtain ⟨x70, hx70, hm⟩ := Option.bind_eq_some_iff.1 hm
 refine V_call Tryz.call39 rfl rfl rfl rfl (portref2_whole_plus_c (Dw := Dw) w65 (A := fun _ => True) (fun _ _ => trivial) x54 v55 (Hp.any (α := UInt32) (e := 77) (v := v55) (l := x54) hH (i := 1) rfl) x62 v63 (Hp.any (α := UInt32) (e := 77) (v := v63) (l := x62) hH (i := 0) rfl) hx70) ?_
 rintro v71 w73 ⟨_, rfl, h72, hk74⟩
 obtain ⟨A75, ht76, hH77⟩ := Hp.addOwnd (Dw := Dw) hH hB hA hk74 h72
 replace h49 := Sl.tr h49 ht76
 replace h53 := Sl.tr h53 ht76
 replace hK := Tr.trans hK ht76
 replace hB := Nat.le_trans hB ht76.ex.size
 replace hA := ht76.new
 replace hH : Hp w.heap.size A75 w73 (obS (α := UInt32) 77 v71 x70 :: obS (α := UInt32) 77 v63 x62 :: obS (α := UInt32) 77 v55 x54 :: obC b22 [.slice none 0 0, .slice none 0 0] 43 :: []) := hH77
 refine V_CH (Dw := Dw) (hk74) ?_
 refine CH_l1 (Dw := Dw) (k := 0) rfl ?_
 obtain ⟨x78, hx78, hm⟩ := Option.bind_eq_some_iff.1 hm
 refine V_call Tryz.call30 rfl rfl rfl rfl (portref2_whole_times_c (Dw := Dw) w73 hA a_.den v47 h49 b.den v51 h53 hx78) ?_
 rintro v79 w81 ⟨_, rfl, h80, hk82⟩
 obtain ⟨A83, ht84, hH85⟩ := Hp.addOwnd (Dw := Dw) hH hB hA hk82 h80
 replace hK := Tr.trans hK ht84
 replace hB := Nat.le_trans hB ht84.ex.size
 replace hA := ht84.new
 replace hH : Hp w.heap.size A83 w81 (obS (α := UInt32) 77 v79 x78 :: obS (α := UInt32) 77 v71 x70 :: obS (α := UInt32) 77 v63 x62 :: obS (α := UInt32) 77 v55 x54 :: obC b22 [.slice none 0 0, .slice none 0 0] 43 :: []) := hH85
 refine V_CH (Dw := Dw) (hk82) ?_
 refine CH_l1 (Dw := Dw) (k := 0) rfl ?_
 obtain ⟨A86, ht87, h88, hH89⟩ := Hp.freeze (Dw := Dw) (α := UInt32) (v := v71) (l := x70) hH (i := 1) rfl hA
 replace hK := Tr.trans hK ht87
 replace hB := Nat.le_trans hB ht87.ex.size
 replace hA := ht87.new
 replace hH : Hp w.heap.size A86 w81 (obS (α := UInt32) 77 v79 x78 :: obS (α := UInt32) 77 v63 x62 :: obS (α := UInt32) 77 v55 x54 :: obC b22 [.slice none 0 0, .slice none 0 0] 43 :: []) := hH89
 obtain ⟨A91, ht92, h93, hH94⟩ := Hp.freeze (Dw := Dw) (α := UInt32) (v := v79) (l := x78) hH (i := 0) rfl hA
 replace h88 := Sl.tr h88 ht92
 replace hK := Tr.trans hK ht92
 replace hB := Nat.le_trans hB ht92.ex.size
 replace hA := ht92.new
 replace hH : Hp w.heap.size A91 w81 (obS (α := UInt32) 77 v63 x62 :: obS (α := UInt32) 77 v55 x54 :: obC b22 [.slice none 0 0, .slice none 0 0] 43 :: []) := hH94
 obtain ⟨x96, hx96, hm⟩ := Option.bind_eq_some_iff.1 hm
 refine V_call Tryz.call28 rfl rfl rfl rfl (portref2_lowest_c (Dw := Dw) w81 hA x70 v71 h88 x78 v79 h93 hx96) ?_
 rintro _ w101 ⟨v97, v99, rfl, h98, h100, hk102⟩
 have ht103 := Kp.tr hk102 hA hB
 replace hH := Hp.kp hH hk102
 replace hK := Tr.trans hK ht103
 replace hB := Nat.le_trans hB ht103.ex.size
 replace hA := ht103.new
 refine V_CH (Dw := Dw) (hk102) ?_
 refine CH_l1 (Dw := Dw) (k := 2) rfl ?_
 have h109 : (v97).oneCell' = true := by obtain ⟨_, _, e, _⟩ := Sl.form h98; rw [e]; rfl
 have h112 : (v99).oneCell' = true := by obtain ⟨_, _, e, _⟩ := Sl.form h100; rw [e]; rfl
 refine V_storeC (Dw := Dw) (off := 0) (ds := [v97, v99]) hH (i := 2) rfl Tryz.sizeOf43 rfl (Nat.le_of_ble_eq_true rfl) (by exact (List.forall_mem_cons.2 ⟨h109, (List.forall_mem_cons.2 ⟨h112, (fun _ h => nomatch h)⟩)⟩)) rfl hB hA rfl rfl ?_
 intro w104 hH105 ht106
 replace h98 := Sl.tr h98 ht106
 replace h100 := Sl.tr h100 ht106
 replace hK := Tr.trans hK ht106
 replace hH : Hp w.heap.size A91 w104 (obS (α := UInt32) 77 v63 x62 :: obS (α := UInt32) 77 v55 x54 :: obC b22 [v97, v99] 43 :: []) := hH105
 refine V_CHw (Dw := Dw) ?_
 refine CH_tail (Dw := Dw) ?_
 show V _ _ _ _ [] _ _
 refine V_to (fun _ _ => rfl) ?_
 obtain rfl := Option.some.inj hm
 refine C_ret ?_
 try simp only [↓inBlock_ret, ↓then_ret]
 exact retQ rfl (Res.l1 Tryz.results21 (RL.cell rfl (loadVar_agg (Hp.part (off := 0) (n := 2) (ds := [v97, v99]) hH (i := 2) rfl rfl) Tryz.isAgg43 Tryz.sizeOf43))) ⟨v97, v99, rfl, (Sl.out (Dw := Dw) h98 hA0 hK), (Sl.out (Dw := Dw) h100 hA0 hK), hK.kp⟩

set_option maxRecDepth 4000 in
set_option maxHeartbeats 4000000 in
theorem portref2_ratio_times_c (w : World) {A : Nat → Prop} (hA : ∀ b, w.heap.size ≤ b → A b) (a_ : portref2_ratio) (v_a_0 : Value) (h_a_0 : Sl A w v_a_0 a_.num) (v_a_1 : Value) (h_a_1 : Sl A w v_a_1 a_.den) (b : portref2_ratio) (v_b0 : Value) (h_b0 : Sl A w v_b0 b.num) (v_b1 : Value) (h_b1 : Sl A w v_b1 b.den) {r : portref2_ratio} (hm : portref2_ratio_times a_ b = some r) : Ret Tryz.prog 22 #[.agg #[v_a_0, v_a_1], .agg #[v_b0, v_b1]] w fun v w' => ∃ s0 s1, v = .agg #[s0, s1] ∧ Sl A w' s0 r.num ∧ Sl A w' s1 r.den ∧ Kp Dw w w' := by
 unfold portref2_ratio_times at hm
 refine enter Tryz.func22 rfl Tryz.ntmps22 rfl ?_
 have hA0 := hA
 have hB := Nat.le_refl w.heap.size
 have hK : Tr Dw w.heap.size A w A w := Tr.refl (Dw := Dw) hA
 have hH : Hp w.heap.size A w [] := Hp.nil
 refine C_seq ?_
 refine C_region ?_
 refine V_box rfl rfl ?_
 intro b9 w10 h11
 have hk13 := h11.kp (Dw := Dw)
 have h12 : El (α := portref2_ratio) A w10 b9 0 a_ := h11.el hA ⟨[v_a_0], _, rfl, ⟨_, rfl, h_a_0⟩, ⟨_, rfl, h_a_1⟩⟩
 have ht14 := Kp.tr hk13 hA hB
 replace hH := Hp.kp hH hk13
 replace h_b0 := Sl.tr h_b0 ht14
 replace h_b1 := Sl.tr h_b1 ht14
 replace hK := Tr.trans hK ht14
 replace hB := Nat.le_trans hB ht14.ex.size
 replace hA := ht14.new
 refine V_box rfl rfl ?_
 intro b15 w17 h18
 have hk20 := h18.kp (Dw := Dw)
 have h19 : El (α := portref2_ratio) A w17 b15 0 b := h18.el hA ⟨[v_b0], _, rfl, ⟨_, rfl, h_b0⟩, ⟨_, rfl, h_b1⟩⟩
 have ht21 := Kp.tr hk20 hA hB
 replace hH := Hp.kp hH hk20
 replace h12 := El.tr h12 ht21
 replace hK := Tr.trans hK ht21
 replace hB := Nat.le_trans hB ht21.ex.size
 replace hA := ht21.new
 refine V_allocH (Dw := Dw) (B := w.heap.size) hH Tryz.zeroValue43 hB hA rfl ?_
 intro b22 w23 A24 hH25 ht26
 replace h12 := El.tr h12 ht26
 replace h19 := El.tr h19 ht26
 replace hK := Tr.trans hK ht26
 replace hB := Nat.le_trans hB ht26.ex.size
 replace hA := ht26.new
 replace hH : Hp w.heap.size A24 w23 (obC b22 [.slice none 0 0, .slice none 0 0] 43 :: []) := hH25
 refine V_to (fun _ _ => rfl) ?_
 refine C_seq ?_
 refine C_region_ch (Dw := Dw) A24 12 [(1, 0), (1, 1), (1, 2), (1, 3), (1, 5), (1, 6), (1, 7), (1, 8), (2, 4), (2, 9), (2, 10), (4, 11)] Tryz_mixed (by kernel_rfl) (fun w27 hk28 => ?_)
 have ht29 := Kp.tr hk28 hA hB
 replace hH := Hp.kp hH hk28
 replace h12 := El.tr h12 ht29
 replace h19 := El.tr h19 ht29
 replace hK := Tr.trans hK ht29
 replace hB := Nat.le_trans hB ht29.ex.size
 replace hA := ht29.new
 refine CH_q2 (Dw := Dw) rfl ?_
 have h30 := El_portref2_ratio_0 h12
 refine VQ_y (fun w' hw' => Y_fieldAddr Tryz.underlying43 rfl Tryz.sizeOf41 (by decide) rfl) rfl rfl rfl ?_
 refine VQ_CH (Dw := Dw) ?_
 refine CH_q2 (Dw := Dw) rfl ?_
 obtain ⟨v31, h32, h33⟩ := El.list h30
 refine VQ_y (fun w' hw' => Y_load ((World.cell?_of_block (hw'.2 _ h30.2.1 h30.1)).trans h32) Tryz.isAgg41 rfl) rfl rfl rfl ?_
 refine VQ_CH (Dw := Dw) ?_
 refine CH_q2 (Dw := Dw) rfl ?_
 have h34 := El_portref2_ratio_0 h19
 refine VQ_y (fun w' hw' => Y_fieldAddr Tryz.underlying43 rfl Tryz.sizeOf41 (by decide) rfl) rfl rfl rfl ?_
 refine VQ_CH (Dw := Dw) ?_
 refine CH_q2 (Dw := Dw) rfl ?_
 obtain ⟨v35, h36, h37⟩ := El.list h34
 refine VQ_y (fun w' hw' => Y_load ((World.cell?_of_block (hw'.2 _ h34.2.1 h34.1)).trans h36) Tryz.isAgg41 rfl) rfl rfl rfl ?_
 refine VQ_CH (Dw := Dw) ?_
 refine CH_q2 (Dw := Dw) rfl ?_
 have h38 := El_portref2_ratio_1 h12
 refine VQ_y (fun w' hw' => Y_fieldAddr Tryz.underlying43 rfl Tryz.sizeOf41 (by decide) rfl) rfl rfl rfl ?_
 refine VQ_CH (Dw := Dw) ?_
 refine CH_q2 (Dw := Dw) rfl ?_
 obtain ⟨v39, h40, h41⟩ := El.list h38
 refine VQ_y (fun w' hw' => Y_load ((World.cell?_of_block (hw'.2 _ h38.2.1 h38.1)).trans h40) Tryz.isAgg41 rfl) rfl rfl rfl ?_
 refine VQ_CH (Dw := Dw) ?_
 refine CH_q2 (Dw := Dw) rfl ?_
 have h42 := El_portref2_ratio_1 h19
 refine VQ_y (fun w' hw' => Y_fieldAddr Tryz.underlying43 rfl Tryz.sizeOf41 (by decide) rfl) rfl rfl rfl ?_
 refine VQ_CH (Dw := Dw) ?_
 refine CH_q2 (Dw := Dw) rfl ?_
 obtain ⟨v43, h44, h45⟩ := El.list h42
 refine VQ_y (fun w' hw' => Y_load ((World.cell?_of_block (hw'.2 _ h42.2.1 h42.1)).trans h44) Tryz.isAgg41 rfl) rfl rfl rfl ?_
 refine VQ_CH (Dw := Dw) ?_
 refine CH_l1 (Dw := Dw) (k := 0) rfl ?_
 obtain ⟨x46, hx46, hm⟩ := Option.bind_eq_some_iff.1 hm
 refine V_call Tryz.call30 rfl rfl rfl rfl (portref2_whole_times_c (Dw := Dw) w27 hA a_.num v31 h33 b.num v35 h37 hx46) ?_
 rintro v47 w49 ⟨_, rfl, h48, hk50⟩
 obtain ⟨A51, ht52, hH53⟩ := Hp.addOwnd (Dw := Dw) hH hB hA hk50 h48
 replace h41 := Sl.tr h41 ht52
 replace h45 := Sl.tr h45 ht52
 replace hK := Tr.trans hK ht52
 replace hB := Nat.le_trans hB ht52.ex.size
 replace hA := ht52.new
 replace hH : Hp w.heap.size A51 w49 (obS (α := UInt32) 77 v47 x46 :: obC b22 [.slice none 0 0, .slice none 0 0] 43 :: []) := hH53
 refine V_CH (Dw := Dw) (hk50) ?_
 refine CH_l1 (Dw := Dw) (k := 0) rfl ?_
 obtain ⟨x54, hx54, hm⟩ := Option.bind_eq_some_iff.1 hm
 refine V_call Tryz.call30 rfl rfl rfl rfl (portref2_whole_times_c (Dw := Dw) w49 hA a_.den v39 h41 b.den v43 h45 hx54) ?_
 rintro v55 w57 ⟨_, rfl, h56, hk58⟩
 obtain ⟨A59, ht60, hH61⟩ := Hp.addOwnd (Dw := Dw) hH hB hA hk58 h56
 replace hK := Tr.trans hK ht60
 replace hB := Nat.le_trans hB ht60.ex.size
 replace hA := ht60.new
 replace hH : Hp w.heap.size A59 w57 (obS (α := UInt32) 77 v55 x54 :: obS (α := UInt32) 77 v47 x46 :: obC b22 [.slice none 0 0, .slice none 0 0] 43 :: []) := hH61
 refine V_CH (Dw := Dw) (hk58) ?_
 refine CH_l1 (Dw := Dw) (k := 0) rfl ?_
 obtain ⟨A62, ht63, h64, hH65⟩ := Hp.freeze (Dw := Dw) (α := UInt32) (v := v47) (l := x46) hH (i := 1) rfl hA
 replace hK := Tr.trans hK ht63
 replace hB := Nat.le_trans hB ht63.ex.size
 replace hA := ht63.new
 replace hH : Hp w.heap.size A62 w57 (obS (α := UInt32) 77 v55 x54 :: obC b22 [.slice none 0 0, .slice none 0 0] 43 :: []) := hH65
 obtain ⟨A67, ht68, h69, hH70⟩ := Hp.freeze (Dw := Dw) (α := UInt32) (v := v55) (l := x54) hH (i := 0) rfl hA
 replace h64 := Sl.tr h64 ht68
 replace hK := Tr.trans hK ht68
 replace hB := Nat.le_trans hB ht68.ex.size
 replace hA := ht68.new
 replace hH : Hp w.heap.size A67 w57 (obC b22 [.slice none 0 0, .slice none 0 0] 43 :: []) := hH70
 obtain ⟨x72, hx72, hm⟩ := Option.bind_eq_some_iff.1 hm
 refine V_call Tryz.call28 rfl rfl rfl rfl (portref2_lowest_c (Dw := Dw) w57 hA x46 v47 h64 x54 v55 h69 hx72) ?_
 rintro _ w77 ⟨v73, v75, rfl, h74, h76, hk78⟩
 have ht79 := Kp.tr hk78 hA hB
 replace hH := Hp.kp hH hk78
 replace hK := Tr.trans hK ht79
 replace hB := Nat.le_trans hB ht79.ex.size
 replace hA := ht79.new
 refine V_CH (Dw := Dw) (hk78) ?_
 refine CH_l1 (Dw := Dw) (k := 2) rfl ?_
 have h85 : (v73).oneCell' = true := by obtain ⟨_, _, e, _⟩ := Sl.form h74; rw [e]; rfl
 have h88 : (v75).oneCell' = true := by obtain ⟨_, _, e, _⟩ := Sl.form h76; rw [e]; rfl
 refine V_storeC (Dw := Dw) (off := 0) (ds := [v73, v75]) hH (i := 0) rfl Tryz.sizeOf43 rfl (Nat.le_of_ble_eq_true rfl) (by exact (List.forall_mem_cons.2 ⟨h85, (List.forall_mem_cons.2 ⟨h88, (fun _ h => nomatch h)⟩)⟩)) rfl hB hA rfl rfl ?_
 intro w80 hH81 ht82
 replace h74 := Sl.tr h74 ht82
 replace h76 := Sl.tr h76 ht82
 replace hK := Tr.trans hK ht82
 replace hH : Hp w.heap.size A67 w80 (obC b22 [v73, v75] 43 :: []) := hH81
 refine V_CHw (Dw := Dw) ?_
 refine CH_tail (Dw := Dw) ?_
 show V _ _ _ _ [] _ _
 refine V_to (fun _ _ => rfl) ?_
 obtain rfl := Option.some.inj hm
 refine C_ret ?_
 try simp only [↓inBlock_ret, ↓then_ret]
 exact retQ rfl (Res.l1 Tryz.results22 (RL.cell rfl (loadVar_agg (Hp.part (off := 0) (n := 2) (ds := [v73, v75]) hH (i := 0) rfl rfl) Tryz.isAgg43 Tryz.sizeOf43))) ⟨v73, v75, rfl, (Sl.out (Dw := Dw) h74 hA0 hK), (Sl.out (Dw := Dw) h76 hA0 hK), hK.kp⟩

end Go.Proofs.YtnnbhehaplphiaaGreatDoor.W
