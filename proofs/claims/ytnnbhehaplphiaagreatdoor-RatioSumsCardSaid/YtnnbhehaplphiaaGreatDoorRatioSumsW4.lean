/-
  Written by program (gen.py) from the IR of the dump: each function computes its model.
-/
import Derived.Test.YtnnbhehaplphiaaGreatDoorRatioSumsW3
namespace Go.Proofs.YtnnbhehaplphiaaGreatDoor.W
open Go Go.RowKit Go.Pu Go.Gw Go.Proofs Go.Proofs.YtnnbhehaplphiaaGreatDoor.M
set_option linter.unusedVariables false
set_option linter.unusedSimpArgs false
variable {Dw : Prop}

set_option maxRecDepth 4000 in
set_option maxHeartbeats 4000000 in
theorem portref2_OpOf_c (w : World) {A : Nat → Prop} (hA : ∀ b, w.heap.size ≤ b → A b) (a_ : staff_Ratio) (b : staff_Ratio) (times : Bool) {r : (staff_Ratio × Int)} (hm : portref2_OpOf a_ b times = some r) : Ret Tryz.prog 7 #[.agg #[.string a_.num, .string a_.den], .agg #[.string b.num, .string b.den], .bool times] w fun v w' => v = .tuple #[.agg #[.string r.1.num, .string r.1.den], .int .i64 r.2] ∧ Kp False w w' := by
 unfold portref2_OpOf at hm
 refine enter Tryz.func7 rfl Tryz.ntmps7 rfl ?_
 have hA0 := hA
 have hB := Nat.le_refl w.heap.size
 have hK : Tr False w.heap.size A w A w := Tr.refl (Dw := False) hA
 have hH : Hp w.heap.size A w [] := Hp.nil
 refine C_seq ?_
 refine C_region ?_
 refine V_box rfl rfl ?_
 intro b1 w2 h3
 have hk5 := h3.kp (Dw := False)
 have h4 : El (α := staff_Ratio) A w2 b1 0 a_ := h3.el hA ⟨[.string a_.num], _, rfl, rfl, rfl⟩
 have ht6 := Kp.tr (Dw := False) hk5 hA hB
 replace hH := Hp.kp (Dw := False) hH hk5
 replace hK := Tr.trans (Dw := False) hK ht6
 replace hB := Nat.le_trans hB ht6.ex.size
 replace hA := ht6.new
 refine V_box rfl rfl ?_
 intro b7 w9 h10
 have hk12 := h10.kp (Dw := False)
 have h11 : El (α := staff_Ratio) A w9 b7 0 b := h10.el hA ⟨[.string b.num], _, rfl, rfl, rfl⟩
 have ht13 := Kp.tr (Dw := False) hk12 hA hB
 replace hH := Hp.kp (Dw := False) hH hk12
 replace h4 := El.tr (Dw := False) h4 ht13
 replace hK := Tr.trans (Dw := False) hK ht13
 replace hB := Nat.le_trans hB ht13.ex.size
 replace hA := ht13.new
 refine V_allocH (Dw := False) (B := w.heap.size) hH Tryz.zeroValue23 hB hA rfl ?_
 intro b14 w15 A16 hH17 ht18
 replace h4 := El.tr (Dw := False) h4 ht18
 replace h11 := El.tr (Dw := False) h11 ht18
 replace hK := Tr.trans (Dw := False) hK ht18
 replace hB := Nat.le_trans hB ht18.ex.size
 replace hA := ht18.new
 replace hH : Hp w.heap.size A16 w15 (obC b14 [.string ByteArray.empty, .string ByteArray.empty] 23 :: []) := hH17
 refine V_as rfl rfl ?_
 refine V_to (fun _ _ => rfl) ?_
 refine C_seq ?_
 refine C_seq ?_
 refine C_region ?_
 obtain ⟨h19, _⟩ := El_staff_Ratio h4
 refine V_y (Y_loadA h19 Tryz.isAgg23 Tryz.sizeOf23 rfl) rfl rfl rfl ?_
 obtain ⟨h20, _⟩ := El_staff_Ratio h11
 refine V_y (Y_loadA h20 Tryz.isAgg23 Tryz.sizeOf23 rfl) rfl rfl rfl ?_
 obtain ⟨x21, hx21, hm⟩ := Option.bind_eq_some_iff.1 hm
 refine V_call Tryz.call13 rfl rfl rfl rfl (portref2_twoRatios_c w15 hA a_ b hx21) ?_
 rintro _ w22 ⟨rfl, hk23⟩
 have ht24 := Kp.tr (Dw := False) hk23 hA hB
 replace hH := Hp.kp (Dw := False) hH hk23
 replace h4 := El.tr (Dw := False) h4 ht24
 replace h11 := El.tr (Dw := False) h11 ht24
 replace hK := Tr.trans (Dw := False) hK ht24
 replace hB := Nat.le_trans hB ht24.ex.size
 replace hA := ht24.new
 refine V_as rfl rfl ?_
 refine V_to (fun _ _ => rfl) ?_
 refine C_seq ?_
 refine C_region ?_
 refine V_mv rfl rfl ?_
 refine V_y (Y_neq rfl rfl) rfl rfl rfl ?_
 refine V_to (fun _ _ => rfl) ?_
 refine C_cond rfl (fun hc25 => ?_) (fun hc25 => ?_)
 ·rw [if_pos hc25] at hm
  refine C_seq ?_
  refine C_region ?_
  refine V_y (Y_build Tryz.underlying23 Tryz.zeroValue23 (Tryz_places23 _ Tryz.underlying23) rfl (by with_unfolding_all rfl)) rfl rfl rfl ?_
  refine V_mv rfl rfl ?_
  refine V_storeC (Dw := False) (off := 0) (ds := [.string ByteArray.empty, .string ByteArray.empty]) hH (i := 0) rfl Tryz.sizeOf23 rfl (Nat.le_of_ble_eq_true rfl) (by simp [Value.cells, Value.oneCell']) rfl hB hA rfl rfl ?_
  intro w26 hH27 ht28
  replace hK := Tr.trans (Dw := False) hK ht28
  replace hH : Hp w.heap.size A16 w26 (obC b14 [.string ByteArray.empty, .string ByteArray.empty] 23 :: []) := hH27
  refine V_as rfl rfl ?_
  refine V_to (fun _ _ => rfl) ?_
  obtain rfl := Option.some.inj hm
  refine C_ret ?_
  try simp only [↓inBlock_ret, ↓then_ret]
  exact retQ rfl (Res.l2 Tryz.results7 (RL.cell rfl (loadVar_agg (Hp.part (off := 0) (n := 2) (ds := [.string ByteArray.empty, .string ByteArray.empty]) hH (i := 0) rfl rfl) Tryz.isAgg23 Tryz.sizeOf23)) (RL.tmp rfl)) ⟨rfl, hK.kp⟩
 ·rw [if_neg (nt hc25)] at hm
  refine C_skip_to (fun _ _ => rfl) ?_
  refine C_seq ?_
  refine C_region_chz (Dw := False) A16 5 [(1, 0), (1, 2), (2, 1), (2, 3), (2, 4)] [(4, 6)] Tryz_mixed (by kernel_rfl) (fun w29 hk30 => ?_)
  have ht31 := Kp.tr (Dw := False) hk30 hA hB
  replace hH := Hp.kp (Dw := False) hH hk30
  replace h4 := El.tr (Dw := False) h4 ht31
  replace h11 := El.tr (Dw := False) h11 ht31
  replace hK := Tr.trans (Dw := False) hK ht31
  replace hB := Nat.le_trans hB ht31.ex.size
  replace hA := ht31.new
  refine CHZ_q2 (Dw := False) rfl ?_
  obtain ⟨h32, _⟩ := El_staff_Ratio h4
  refine VQ_y (fun w' hw' => Y_loadA (At.same h32 (hw'.2 _ h4.2.1 h4.1)) Tryz.isAgg23 Tryz.sizeOf23 rfl) rfl rfl rfl ?_
  refine VQ_CHZ (Dw := False) ?_
  refine CHZ_q2 (Dw := False) rfl ?_
  obtain ⟨h33, _⟩ := El_staff_Ratio h11
  refine VQ_y (fun w' hw' => Y_loadA (At.same h33 (hw'.2 _ h11.2.1 h11.1)) Tryz.isAgg23 Tryz.sizeOf23 rfl) rfl rfl rfl ?_
  refine VQ_CHZ (Dw := False) ?_
  refine CHZ_l1 (Dw := False) (k := 0) [(2, 5), (2, 1), (2, 3), (2, 4), (4, 6)] rfl ?_ rfl ?_
  ·refine CH_l1 (Dw := False) (k := 0) rfl ?_
   refine V_allocHk (Dw := False) (B := w.heap.size) hH Tryz.zeroValue43 hB hA rfl ?_
   intro b34 w35 A36 hk39 hH37 ht38
   replace h4 := El.tr (Dw := False) h4 ht38
   replace h11 := El.tr (Dw := False) h11 ht38
   replace hK := Tr.trans (Dw := False) hK ht38
   replace hB := Nat.le_trans hB ht38.ex.size
   replace hA := ht38.new
   replace hH : Hp w.heap.size A36 w35 (obC b34 [.slice none 0 0, .slice none 0 0] 43 :: obC b14 [.string ByteArray.empty, .string ByteArray.empty] 23 :: []) := hH37
   refine V_CH (Dw := False) (hk39) ?_
   refine CH_l1 (Dw := False) (k := 0) rfl ?_
   obtain ⟨x40, hx40, hm⟩ := Option.bind_eq_some_iff.1 hm
   refine V_call Tryz.call14 rfl rfl rfl rfl (portref2_ratOf_c (Dw := False) w35 hA a_ hx40) ?_
   rintro _ w45 ⟨v41, v43, rfl, h42, h44, hk46⟩
   have ht47 := Kp.tr (Dw := False) hk46 hA hB
   replace hH := Hp.kp (Dw := False) hH hk46
   replace h4 := El.tr (Dw := False) h4 ht47
   replace h11 := El.tr (Dw := False) h11 ht47
   replace hK := Tr.trans (Dw := False) hK ht47
   replace hB := Nat.le_trans hB ht47.ex.size
   replace hA := ht47.new
   refine V_CH (Dw := False) (hk46) ?_
   refine CH_l1 (Dw := False) (k := 0) rfl ?_
   obtain ⟨x48, hx48, hm⟩ := Option.bind_eq_some_iff.1 hm
   refine V_call Tryz.call14 rfl rfl rfl rfl (portref2_ratOf_c (Dw := False) w45 hA b hx48) ?_
   rintro _ w53 ⟨v49, v51, rfl, h50, h52, hk54⟩
   have ht55 := Kp.tr (Dw := False) hk54 hA hB
   replace hH := Hp.kp (Dw := False) hH hk54
   replace h4 := El.tr (Dw := False) h4 ht55
   replace h11 := El.tr (Dw := False) h11 ht55
   replace h42 := Sl.tr (Dw := False) h42 ht55
   replace h44 := Sl.tr (Dw := False) h44 ht55
   replace hK := Tr.trans (Dw := False) hK ht55
   replace hB := Nat.le_trans hB ht55.ex.size
   replace hA := ht55.new
   refine V_CH (Dw := False) (hk54) ?_
   refine CH_l1 (Dw := False) (k := 0) rfl ?_
   obtain ⟨x56, hx56, hm⟩ := Option.bind_eq_some_iff.1 hm
   refine V_call Tryz.call21 rfl rfl rfl rfl (portref2_ratio_plus_c (Dw := False) w53 hA x40 v41 h42 v43 h44 x48 v49 h50 v51 h52 hx56) ?_
   rintro _ w61 ⟨v57, v59, rfl, h58, h60, hk62⟩
   have ht63 := Kp.tr (Dw := False) hk62 hA hB
   replace hH := Hp.kp (Dw := False) hH hk62
   replace h4 := El.tr (Dw := False) h4 ht63
   replace h11 := El.tr (Dw := False) h11 ht63
   replace hK := Tr.trans (Dw := False) hK ht63
   replace hB := Nat.le_trans hB ht63.ex.size
   replace hA := ht63.new
   refine V_CH (Dw := False) (hk62) ?_
   refine CH_l1 (Dw := False) (k := 2) rfl ?_
   have h70 : (v57).oneCell' = true := by obtain ⟨_, _, e, _⟩ := Sl.form h58; rw [e]; rfl
   have h73 : (v59).oneCell' = true := by obtain ⟨_, _, e, _⟩ := Sl.form h60; rw [e]; rfl
   refine V_storeC (Dw := False) (off := 0) (ds := [v57, v59]) hH (i := 0) rfl Tryz.sizeOf43 rfl (Nat.le_of_ble_eq_true rfl) (by exact (List.forall_mem_cons.2 ⟨h70, (List.forall_mem_cons.2 ⟨h73, (fun _ h => nomatch h)⟩)⟩)) rfl hB hA rfl rfl ?_
   intro w65 hH66 ht67
   replace h4 := El.tr (Dw := False) h4 ht67
   replace h11 := El.tr (Dw := False) h11 ht67
   replace h58 := Sl.tr (Dw := False) h58 ht67
   replace h60 := Sl.tr (Dw := False) h60 ht67
   replace hK := Tr.trans (Dw := False) hK ht67
   replace hB := Nat.le_trans hB ht67.ex.size
   replace hA := ht67.new
   replace hH : Hp w.heap.size A36 w65 (obC b34 [v57, v59] 43 :: obC b14 [.string ByteArray.empty, .string ByteArray.empty] 23 :: []) := hH66
   refine V_CHw (Dw := False) ?_
   refine CH_tail (Dw := False) ?_
   show V _ _ _ _ [] _ _
   refine V_to (fun _ _ => rfl) ?_
   refine C_seq ?_
   refine C_seq ?_
   refine C_region ?_
   refine V_mv rfl rfl ?_
   refine V_to (fun _ _ => rfl) ?_
   obtain ⟨s75, ho74, hm⟩ := Option.bind_eq_some_iff.1 hm
   refine C_cutG (ι := (Value × Value × (Nat → Prop))) (fun ⟨v77, v79, A84⟩ => [(6, .pointer (some ⟨b14, 0, none⟩)), (9, .pointer (some ⟨b34, 0, none⟩))]) (fun ⟨v77, v79, A84⟩ => fun w' => Sl A84 w' v77 s75.num ∧ Sl A84 w' v79 s75.den ∧ Hp w.heap.size A84 w' (obC b34 [v77, v79] 43 :: obC b14 [.string ByteArray.empty, .string ByteArray.empty] 23 :: []) ∧ Tr False w.heap.size A36 w65 A84 w') ?_ ?_
   ·have hr76 : Tr False w.heap.size A36 w65 A36 w65 := Tr.refl (Dw := False) hA
    refine C_cond rfl (fun hc86 => ?_) (fun hc86 => ?_)
    ·rw [if_pos hc86] at ho74
     refine C_region_ch (Dw := False) A36 6 [(1, 0), (1, 2), (2, 1), (2, 3), (2, 4), (4, 5)] Tryz_mixed (by kernel_rfl) (fun w87 hk88 => ?_)
     have ht89 := Kp.tr (Dw := False) hk88 hA hB
     replace hH := Hp.kp (Dw := False) hH hk88
     replace h4 := El.tr (Dw := False) h4 ht89
     replace h11 := El.tr (Dw := False) h11 ht89
     replace hr76 := Tr.trans (Dw := False) hr76 ht89
     replace hB := Nat.le_trans hB ht89.ex.size
     replace hA := ht89.new
     refine CH_q2 (Dw := False) rfl ?_
     obtain ⟨h90, _⟩ := El_staff_Ratio h4
     refine VQ_y (fun w' hw' => Y_loadA (At.same h90 (hw'.2 _ h4.2.1 h4.1)) Tryz.isAgg23 Tryz.sizeOf23 rfl) rfl rfl rfl ?_
     refine VQ_CH (Dw := False) ?_
     refine CH_q2 (Dw := False) rfl ?_
     obtain ⟨h91, _⟩ := El_staff_Ratio h11
     refine VQ_y (fun w' hw' => Y_loadA (At.same h91 (hw'.2 _ h11.2.1 h11.1)) Tryz.isAgg23 Tryz.sizeOf23 rfl) rfl rfl rfl ?_
     refine VQ_CH (Dw := False) ?_
     refine CH_l1 (Dw := False) (k := 0) rfl ?_
     obtain ⟨x92, hx92, ho74⟩ := Option.bind_eq_some_iff.1 ho74
     refine V_call Tryz.call14 rfl rfl rfl rfl (portref2_ratOf_c (Dw := False) w87 hA a_ hx92) ?_
     rintro _ w97 ⟨v93, v95, rfl, h94, h96, hk98⟩
     have ht99 := Kp.tr (Dw := False) hk98 hA hB
     replace hH := Hp.kp (Dw := False) hH hk98
     replace hr76 := Tr.trans (Dw := False) hr76 ht99
     replace hB := Nat.le_trans hB ht99.ex.size
     replace hA := ht99.new
     refine V_CH (Dw := False) (hk98) ?_
     refine CH_l1 (Dw := False) (k := 0) rfl ?_
     obtain ⟨x100, hx100, ho74⟩ := Option.bind_eq_some_iff.1 ho74
     refine V_call Tryz.call14 rfl rfl rfl rfl (portref2_ratOf_c (Dw := False) w97 hA b hx100) ?_
     rintro _ w105 ⟨v101, v103, rfl, h102, h104, hk106⟩
     have ht107 := Kp.tr (Dw := False) hk106 hA hB
     replace hH := Hp.kp (Dw := False) hH hk106
     replace h94 := Sl.tr (Dw := False) h94 ht107
     replace h96 := Sl.tr (Dw := False) h96 ht107
     replace hr76 := Tr.trans (Dw := False) hr76 ht107
     replace hB := Nat.le_trans hB ht107.ex.size
     replace hA := ht107.new
     refine V_CH (Dw := False) (hk106) ?_
     refine CH_l1 (Dw := False) (k := 0) rfl ?_
     obtain ⟨x108, hx108, ho74⟩ := Option.bind_eq_some_iff.1 ho74
     refine V_call Tryz.call22 rfl rfl rfl rfl (portref2_ratio_times_c (Dw := False) w105 hA x92 v93 h94 v95 h96 x100 v101 h102 v103 h104 hx108) ?_
     rintro _ w113 ⟨v109, v111, rfl, h110, h112, hk114⟩
     have ht115 := Kp.tr (Dw := False) hk114 hA hB
     replace hH := Hp.kp (Dw := False) hH hk114
     replace hr76 := Tr.trans (Dw := False) hr76 ht115
     replace hB := Nat.le_trans hB ht115.ex.size
     replace hA := ht115.new
     refine V_CH (Dw := False) (hk114) ?_
     refine CH_l1 (Dw := False) (k := 2) rfl ?_
     have h121 : (v109).oneCell' = true := by obtain ⟨_, _, e, _⟩ := Sl.form h110; rw [e]; rfl
     have h124 : (v111).oneCell' = true := by obtain ⟨_, _, e, _⟩ := Sl.form h112; rw [e]; rfl
     refine V_storeC (Dw := False) (off := 0) (ds := [v109, v111]) hH (i := 0) rfl Tryz.sizeOf43 rfl (Nat.le_of_ble_eq_true rfl) (by exact (List.forall_mem_cons.2 ⟨h121, (List.forall_mem_cons.2 ⟨h124, (fun _ h => nomatch h)⟩)⟩)) rfl hB hA rfl rfl ?_
     intro w116 hH117 ht118
     replace h110 := Sl.tr (Dw := False) h110 ht118
     replace h112 := Sl.tr (Dw := False) h112 ht118
     replace hr76 := Tr.trans (Dw := False) hr76 ht118
     replace hH : Hp w.heap.size A36 w116 (obC b34 [v109, v111] 43 :: obC b14 [.string ByteArray.empty, .string ByteArray.empty] 23 :: []) := hH117
     refine V_CHw (Dw := False) ?_
     refine CH_tail (Dw := False) ?_
     show V _ _ _ _ [] _ _
     obtain rfl := Option.some.inj ho74
     refine V_end (fun a ha125 => ?_)
     exact ⟨(v109, v111, A36), ha125.sub ⟨rfl, rfl, trivial⟩, ⟨h110, h112, hH, hr76⟩⟩
    ·rw [if_neg (nt hc86)] at ho74
     obtain rfl := Option.some.inj ho74
     refine C_skip (fun a ha126 => ?_)
     exact ⟨(v57, v59, A36), ha126.sub ⟨rfl, rfl, trivial⟩, ⟨h58, h60, hH, hr76⟩⟩
   rintro ⟨v77, v79, A84⟩ w81 ⟨h78, h80, hH85, hk82⟩ a ha83
   replace hK := Tr.trans (Dw := False) hK hk82
   replace hB := Nat.le_trans hB hk82.ex.size
   replace hA := hk82.new
   replace hH : Hp w.heap.size A84 w81 (obC b34 [v77, v79] 43 :: obC b14 [.string ByteArray.empty, .string ByteArray.empty] 23 :: []) := hH85
   refine C_at (n := ⟨43, [], none⟩) (fun _ _ => rfl) ?_ ha83
   refine C_seq ?_
   refine C_region ?_
   refine V_y (Y_loadA (Hp.part (off := 0) (n := 2) (ds := [v77, v79]) hH (i := 0) rfl rfl) Tryz.isAgg43 Tryz.sizeOf43 rfl) rfl rfl rfl ?_
   obtain ⟨x127, hx127, hm⟩ := Option.bind_eq_some_iff.1 hm
   refine V_call Tryz.call23 rfl rfl rfl rfl (portref2_ratioOf_c (Dw := False) w81 hA s75 v77 h78 v79 h80 hx127) ?_
   rintro _ w128 ⟨rfl, hk129⟩
   have ht130 := Kp.tr (Dw := False) hk129 hA hB
   replace hH := Hp.kp (Dw := False) hH hk129
   replace hK := Tr.trans (Dw := False) hK ht130
   replace hB := Nat.le_trans hB ht130.ex.size
   replace hA := ht130.new
   refine V_alloc Tryz.zeroValue23 rfl ?_
   intro b131 w132 h133
   refine V_storeNew h133 Tryz.sizeOf23 rfl rfl rfl rfl (by exact (List.forall_mem_cons.2 ⟨rfl, (List.forall_mem_cons.2 ⟨rfl, (fun _ h => nomatch h)⟩)⟩)) ?_
   intro w134 h135
   have hk137 := h135.kp (Dw := False)
   have h136 : El (α := staff_Ratio) A84 w134 b131 0 x127 := h135.el hA ⟨[.string x127.num], _, rfl, rfl, rfl⟩
   have ht138 := Kp.tr (Dw := False) hk137 hA hB
   replace hH := Hp.kp (Dw := False) hH hk137
   replace hK := Tr.trans (Dw := False) hK ht138
   replace hB := Nat.le_trans hB ht138.ex.size
   replace hA := ht138.new
   refine V_to (fun _ _ => rfl) ?_
   refine C_seq ?_
   refine C_seq ?_
   refine C_region ?_
   have h139 := El_staff_Ratio_0 h136
   refine V_y (Y_fieldAddr Tryz.underlying23 rfl Tryz.sizeOf9 (by decide) rfl) rfl rfl rfl ?_
   refine V_y (Y_load (El.str h139) Tryz.isAgg9 rfl) rfl rfl rfl ?_
   refine V_y (Y_lenStr rfl Tryz.underlying9 rfl) rfl rfl rfl ?_
   refine V_y (Y_gtr rfl rfl) rfl rfl rfl ?_
   refine V_mv rfl rfl ?_
   refine V_cut 5 (fun _ : Unit => [(6, .pointer (some ⟨b14, 0, none⟩)), (10, .pointer (some ⟨b131, 0, none⟩)), (40, .bool ((decide ((20000 : Int) < (x127.num.size : Int))) || (decide ((20000 : Int) < (x127.den.size : Int)))))]) (fun _ w' => w134 = w') ?_ ?_
   ·simp only [List.take, List.drop]
    rcases Bool.eq_false_or_eq_true (decide ((20000 : Int) < (x127.num.size : Int))) with hc140 | hc140
    ·refine V_gn rfl rfl rfl hc140 rfl rfl rfl ?_
     refine V_gn rfl rfl rfl hc140 rfl rfl rfl ?_
     refine V_gn rfl rfl rfl hc140 rfl rfl rfl ?_
     refine V_gn rfl rfl rfl hc140 rfl rfl rfl ?_
     refine V_y (Y_pick_te rfl hc140 rfl) rfl rfl rfl ?_
     exact V_end fun a ha => ⟨(), ha.sub ⟨rfl, rfl, (by rw [hc140]; rfl), trivial⟩, rfl⟩
    ·refine V_ge rfl rfl rfl hc140 ?_
     have h142 := El_staff_Ratio_1 h136
     refine V_y (Y_fieldAddr Tryz.underlying23 rfl Tryz.sizeOf9 (by decide) rfl) rfl rfl rfl ?_
     refine V_ge rfl rfl rfl hc140 ?_
     refine V_y (Y_load (El.str h142) Tryz.isAgg9 rfl) rfl rfl rfl ?_
     refine V_ge rfl rfl rfl hc140 ?_
     refine V_y (Y_lenStr rfl Tryz.underlying9 rfl) rfl rfl rfl ?_
     refine V_ge rfl rfl rfl hc140 ?_
     refine V_y (Y_gtr rfl rfl) rfl rfl rfl ?_
     refine V_y (Y_pick_fe rfl hc140 rfl) rfl rfl rfl ?_
     exact V_end fun a ha => ⟨(), ha.sub ⟨rfl, rfl, (by rw [hc140]; rfl), trivial⟩, rfl⟩
   simp only [List.take, List.drop]
   rintro _ _ rfl
   refine V_to (fun _ _ => rfl) ?_
   refine C_cond rfl (fun hc143 => ?_) (fun hc143 => ?_)
   ·rw [if_pos hc143] at hm
    refine C_seq ?_
    refine C_region ?_
    refine V_y (Y_build Tryz.underlying23 Tryz.zeroValue23 (Tryz_places23 _ Tryz.underlying23) rfl (by with_unfolding_all rfl)) rfl rfl rfl ?_
    refine V_storeC (Dw := False) (off := 0) (ds := [.string ByteArray.empty, .string ByteArray.empty]) hH (i := 1) rfl Tryz.sizeOf23 rfl (Nat.le_of_ble_eq_true rfl) (by simp [Value.cells, Value.oneCell']) rfl hB hA rfl rfl ?_
    intro w144 hH145 ht146
    replace hK := Tr.trans (Dw := False) hK ht146
    replace hH : Hp w.heap.size A84 w144 (obC b34 [v77, v79] 43 :: obC b14 [.string ByteArray.empty, .string ByteArray.empty] 23 :: []) := hH145
    refine V_as rfl rfl ?_
    refine V_to (fun _ _ => rfl) ?_
    obtain rfl := Option.some.inj hm
    refine C_ret ?_
    try simp only [↓inBlock_ret, ↓then_ret]
    exact retQ rfl (Res.l2 Tryz.results7 (RL.cell rfl (loadVar_agg (Hp.part (off := 0) (n := 2) (ds := [.string ByteArray.empty, .string ByteArray.empty]) hH (i := 1) rfl rfl) Tryz.isAgg23 Tryz.sizeOf23)) (RL.tmp rfl)) ⟨rfl, hK.kp⟩
   ·rw [if_neg (nt hc143)] at hm
    refine C_skip_to (fun _ _ => rfl) ?_
    refine C_seq ?_
    refine C_region ?_
    obtain ⟨h147, _⟩ := El_staff_Ratio h136
    refine V_y (Y_loadA h147 Tryz.isAgg23 Tryz.sizeOf23 rfl) rfl rfl rfl ?_
    refine V_storeC (Dw := False) (off := 0) (ds := [.string x127.num, .string x127.den]) hH (i := 1) rfl Tryz.sizeOf23 rfl (Nat.le_of_ble_eq_true rfl) (by simp [Value.cells, Value.oneCell']) rfl hB hA rfl rfl ?_
    intro w148 hH149 ht150
    replace hK := Tr.trans (Dw := False) hK ht150
    replace hH : Hp w.heap.size A84 w148 (obC b34 [v77, v79] 43 :: obC b14 [.string x127.num, .string x127.den] 23 :: []) := hH149
    refine V_as rfl rfl ?_
    refine V_to (fun _ _ => rfl) ?_
    obtain rfl := Option.some.inj hm
    refine C_ret ?_
    try simp only [↓inBlock_ret, ↓then_ret]
    exact retQ rfl (Res.l2 Tryz.results7 (RL.cell rfl (loadVar_agg (Hp.part (off := 0) (n := 2) (ds := [.string x127.num, .string x127.den]) hH (i := 1) rfl rfl) Tryz.isAgg23 Tryz.sizeOf23)) (RL.tmp rfl)) ⟨rfl, hK.kp⟩
  obtain ⟨x151, hx151, hm⟩ := Option.bind_eq_some_iff.1 hm
  refine V_call Tryz.call14 rfl rfl rfl rfl (portref2_ratOf_c (Dw := False) w29 hA a_ hx151) ?_
  rintro _ w156 ⟨v152, v154, rfl, h153, h155, hk157⟩
  have ht158 := Kp.tr (Dw := False) hk157 hA hB
  replace hH := Hp.kp (Dw := False) hH hk157
  replace h4 := El.tr (Dw := False) h4 ht158
  replace h11 := El.tr (Dw := False) h11 ht158
  replace hK := Tr.trans (Dw := False) hK ht158
  replace hB := Nat.le_trans hB ht158.ex.size
  replace hA := ht158.new
  refine V_CHZ (Dw := False) (hk157) ?_
  refine CHZ_l1 (Dw := False) (k := 0) [(2, 5), (2, 3), (2, 4), (4, 6)] rfl ?_ rfl ?_
  ·refine CH_l1 (Dw := False) (k := 0) rfl ?_
   refine V_allocHk (Dw := False) (B := w.heap.size) hH Tryz.zeroValue43 hB hA rfl ?_
   intro b159 w160 A161 hk164 hH162 ht163
   replace h4 := El.tr (Dw := False) h4 ht163
   replace h11 := El.tr (Dw := False) h11 ht163
   replace h153 := Sl.tr (Dw := False) h153 ht163
   replace h155 := Sl.tr (Dw := False) h155 ht163
   replace hK := Tr.trans (Dw := False) hK ht163
   replace hB := Nat.le_trans hB ht163.ex.size
   replace hA := ht163.new
   replace hH : Hp w.heap.size A161 w160 (obC b159 [.slice none 0 0, .slice none 0 0] 43 :: obC b14 [.string ByteArray.empty, .string ByteArray.empty] 23 :: []) := hH162
   refine V_CH (Dw := False) (hk164) ?_
   refine CH_l1 (Dw := False) (k := 0) rfl ?_
   obtain ⟨x165, hx165, hm⟩ := Option.bind_eq_some_iff.1 hm
   refine V_call Tryz.call14 rfl rfl rfl rfl (portref2_ratOf_c (Dw := False) w160 hA b hx165) ?_
   rintro _ w170 ⟨v166, v168, rfl, h167, h169, hk171⟩
   have ht172 := Kp.tr (Dw := False) hk171 hA hB
   replace hH := Hp.kp (Dw := False) hH hk171
   replace h4 := El.tr (Dw := False) h4 ht172
   replace h11 := El.tr (Dw := False) h11 ht172
   replace h153 := Sl.tr (Dw := False) h153 ht172
   replace h155 := Sl.tr (Dw := False) h155 ht172
   replace hK := Tr.trans (Dw := False) hK ht172
   replace hB := Nat.le_trans hB ht172.ex.size
   replace hA := ht172.new
   refine V_CH (Dw := False) (hk171) ?_
   refine CH_l1 (Dw := False) (k := 0) rfl ?_
   obtain ⟨x173, hx173, hm⟩ := Option.bind_eq_some_iff.1 hm
   refine V_call Tryz.call21 rfl rfl rfl rfl (portref2_ratio_plus_c (Dw := False) w170 hA x151 v152 h153 v154 h155 x165 v166 h167 v168 h169 hx173) ?_
   rintro _ w178 ⟨v174, v176, rfl, h175, h177, hk179⟩
   have ht180 := Kp.tr (Dw := False) hk179 hA hB
   replace hH := Hp.kp (Dw := False) hH hk179
   replace h4 := El.tr (Dw := False) h4 ht180
   replace h11 := El.tr (Dw := False) h11 ht180
   replace hK := Tr.trans (Dw := False) hK ht180
   replace hB := Nat.le_trans hB ht180.ex.size
   replace hA := ht180.new
   refine V_CH (Dw := False) (hk179) ?_
   refine CH_l1 (Dw := False) (k := 2) rfl ?_
   have h186 : (v174).oneCell' = true := by obtain ⟨_, _, e, _⟩ := Sl.form h175; rw [e]; rfl
   have h189 : (v176).oneCell' = true := by obtain ⟨_, _, e, _⟩ := Sl.form h177; rw [e]; rfl
   refine V_storeC (Dw := False) (off := 0) (ds := [v174, v176]) hH (i := 0) rfl Tryz.sizeOf43 rfl (Nat.le_of_ble_eq_true rfl) (by exact (List.forall_mem_cons.2 ⟨h186, (List.forall_mem_cons.2 ⟨h189, (fun _ h => nomatch h)⟩)⟩)) rfl hB hA rfl rfl ?_
   intro w181 hH182 ht183
   replace h4 := El.tr (Dw := False) h4 ht183
   replace h11 := El.tr (Dw := False) h11 ht183
   replace h175 := Sl.tr (Dw := False) h175 ht183
   replace h177 := Sl.tr (Dw := False) h177 ht183
   replace hK := Tr.trans (Dw := False) hK ht183
   replace hB := Nat.le_trans hB ht183.ex.size
   replace hA := ht183.new
   replace hH : Hp w.heap.size A161 w181 (obC b159 [v174, v176] 43 :: obC b14 [.string ByteArray.empty, .string ByteArray.empty] 23 :: []) := hH182
   refine V_CHw (Dw := False) ?_
   refine CH_tail (Dw := False) ?_
   show V _ _ _ _ [] _ _
   refine V_to (fun _ _ => rfl) ?_
   refine C_seq ?_
   refine C_seq ?_
   refine C_region ?_
   refine V_mv rfl rfl ?_
   refine V_to (fun _ _ => rfl) ?_
   obtain ⟨s191, ho190, hm⟩ := Option.bind_eq_some_iff.1 hm
   refine C_cutG (ι := (Value × Value × (Nat → Prop))) (fun ⟨v193, v195, A200⟩ => [(6, .pointer (some ⟨b14, 0, none⟩)), (9, .pointer (some ⟨b159, 0, none⟩))]) (fun ⟨v193, v195, A200⟩ => fun w' => Sl A200 w' v193 s191.num ∧ Sl A200 w' v195 s191.den ∧ Hp w.heap.size A200 w' (obC b159 [v193, v195] 43 :: obC b14 [.string ByteArray.empty, .string ByteArray.empty] 23 :: []) ∧ Tr False w.heap.size A161 w181 A200 w') ?_ ?_
   ·have hr192 : Tr False w.heap.size A161 w181 A161 w181 := Tr.refl (Dw := False) hA
    refine C_cond rfl (fun hc202 => ?_) (fun hc202 => ?_)
    ·rw [if_pos hc202] at ho190
     refine C_region_ch (Dw := False) A161 6 [(1, 0), (1, 2), (2, 1), (2, 3), (2, 4), (4, 5)] Tryz_mixed (by kernel_rfl) (fun w203 hk204 => ?_)
     have ht205 := Kp.tr (Dw := False) hk204 hA hB
     replace hH := Hp.kp (Dw := False) hH hk204
     replace h4 := El.tr (Dw := False) h4 ht205
     replace h11 := El.tr (Dw := False) h11 ht205
     replace hr192 := Tr.trans (Dw := False) hr192 ht205
     replace hB := Nat.le_trans hB ht205.ex.size
     replace hA := ht205.new
     refine CH_q2 (Dw := False) rfl ?_
     obtain ⟨h206, _⟩ := El_staff_Ratio h4
     refine VQ_y (fun w' hw' => Y_loadA (At.same h206 (hw'.2 _ h4.2.1 h4.1)) Tryz.isAgg23 Tryz.sizeOf23 rfl) rfl rfl rfl ?_
     refine VQ_CH (Dw := False) ?_
     refine CH_q2 (Dw := False) rfl ?_
     obtain ⟨h207, _⟩ := El_staff_Ratio h11
     refine VQ_y (fun w' hw' => Y_loadA (At.same h207 (hw'.2 _ h11.2.1 h11.1)) Tryz.isAgg23 Tryz.sizeOf23 rfl) rfl rfl rfl ?_
     refine VQ_CH (Dw := False) ?_
     refine CH_l1 (Dw := False) (k := 0) rfl ?_
     obtain ⟨x208, hx208, ho190⟩ := Option.bind_eq_some_iff.1 ho190
     refine V_call Tryz.call14 rfl rfl rfl rfl (portref2_ratOf_c (Dw := False) w203 hA a_ hx208) ?_
     rintro _ w213 ⟨v209, v211, rfl, h210, h212, hk214⟩
     have ht215 := Kp.tr (Dw := False) hk214 hA hB
     replace hH := Hp.kp (Dw := False) hH hk214
     replace hr192 := Tr.trans (Dw := False) hr192 ht215
     replace hB := Nat.le_trans hB ht215.ex.size
     replace hA := ht215.new
     refine V_CH (Dw := False) (hk214) ?_
     refine CH_l1 (Dw := False) (k := 0) rfl ?_
     obtain ⟨x216, hx216, ho190⟩ := Option.bind_eq_some_iff.1 ho190
     refine V_call Tryz.call14 rfl rfl rfl rfl (portref2_ratOf_c (Dw := False) w213 hA b hx216) ?_
     rintro _ w221 ⟨v217, v219, rfl, h218, h220, hk222⟩
     have ht223 := Kp.tr (Dw := False) hk222 hA hB
     replace hH := Hp.kp (Dw := False) hH hk222
     replace h210 := Sl.tr (Dw := False) h210 ht223
     replace h212 := Sl.tr (Dw := False) h212 ht223
     replace hr192 := Tr.trans (Dw := False) hr192 ht223
     replace hB := Nat.le_trans hB ht223.ex.size
     replace hA := ht223.new
     refine V_CH (Dw := False) (hk222) ?_
     refine CH_l1 (Dw := False) (k := 0) rfl ?_
     obtain ⟨x224, hx224, ho190⟩ := Option.bind_eq_some_iff.1 ho190
     refine V_call Tryz.call22 rfl rfl rfl rfl (portref2_ratio_times_c (Dw := False) w221 hA x208 v209 h210 v211 h212 x216 v217 h218 v219 h220 hx224) ?_
     rintro _ w229 ⟨v225, v227, rfl, h226, h228, hk230⟩
     have ht231 := Kp.tr (Dw := False) hk230 hA hB
     replace hH := Hp.kp (Dw := False) hH hk230
     replace hr192 := Tr.trans (Dw := False) hr192 ht231
     replace hB := Nat.le_trans hB ht231.ex.size
     replace hA := ht231.new
     refine V_CH (Dw := False) (hk230) ?_
     refine CH_l1 (Dw := False) (k := 2) rfl ?_
     have h237 : (v225).oneCell' = true := by obtain ⟨_, _, e, _⟩ := Sl.form h226; rw [e]; rfl
     have h240 : (v227).oneCell' = true := by obtain ⟨_, _, e, _⟩ := Sl.form h228; rw [e]; rfl
     refine V_storeC (Dw := False) (off := 0) (ds := [v225, v227]) hH (i := 0) rfl Tryz.sizeOf43 rfl (Nat.le_of_ble_eq_true rfl) (by exact (List.forall_mem_cons.2 ⟨h237, (List.forall_mem_cons.2 ⟨h240, (fun _ h => nomatch h)⟩)⟩)) rfl hB hA rfl rfl ?_
     intro w232 hH233 ht234
     replace h226 := Sl.tr (Dw := False) h226 ht234
     replace h228 := Sl.tr (Dw := False) h228 ht234
     replace hr192 := Tr.trans (Dw := False) hr192 ht234
     replace hH : Hp w.heap.size A161 w232 (obC b159 [v225, v227] 43 :: obC b14 [.string ByteArray.empty, .string ByteArray.empty] 23 :: []) := hH233
     refine V_CHw (Dw := False) ?_
     refine CH_tail (Dw := False) ?_
     show V _ _ _ _ [] _ _
     obtain rfl := Option.some.inj ho190
     refine V_end (fun a ha241 => ?_)
     exact ⟨(v225, v227, A161), ha241.sub ⟨rfl, rfl, trivial⟩, ⟨h226, h228, hH, hr192⟩⟩
    ·rw [if_neg (nt hc202)] at ho190
     obtain rfl := Option.some.inj ho190
     refine C_skip (fun a ha242 => ?_)
     exact ⟨(v174, v176, A161), ha242.sub ⟨rfl, rfl, trivial⟩, ⟨h175, h177, hH, hr192⟩⟩
   rintro ⟨v193, v195, A200⟩ w197 ⟨h194, h196, hH201, hk198⟩ a ha199
   replace hK := Tr.trans (Dw := False) hK hk198
   replace hB := Nat.le_trans hB hk198.ex.size
   replace hA := hk198.new
   replace hH : Hp w.heap.size A200 w197 (obC b159 [v193, v195] 43 :: obC b14 [.string ByteArray.empty, .string ByteArray.empty] 23 :: []) := hH201
   refine C_at (n := ⟨43, [], none⟩) (fun _ _ => rfl) ?_ ha199
   refine C_seq ?_
   refine C_region ?_
   refine V_y (Y_loadA (Hp.part (off := 0) (n := 2) (ds := [v193, v195]) hH (i := 0) rfl rfl) Tryz.isAgg43 Tryz.sizeOf43 rfl) rfl rfl rfl ?_
   obtain ⟨x243, hx243, hm⟩ := Option.bind_eq_some_iff.1 hm
   refine V_call Tryz.call23 rfl rfl rfl rfl (portref2_ratioOf_c (Dw := False) w197 hA s191 v193 h194 v195 h196 hx243) ?_
   rintro _ w244 ⟨rfl, hk245⟩
   have ht246 := Kp.tr (Dw := False) hk245 hA hB
   replace hH := Hp.kp (Dw := False) hH hk245
   replace hK := Tr.trans (Dw := False) hK ht246
   replace hB := Nat.le_trans hB ht246.ex.size
   replace hA := ht246.new
   refine V_alloc Tryz.zeroValue23 rfl ?_
   intro b247 w248 h249
   refine V_storeNew h249 Tryz.sizeOf23 rfl rfl rfl rfl (by exact (List.forall_mem_cons.2 ⟨rfl, (List.forall_mem_cons.2 ⟨rfl, (fun _ h => nomatch h)⟩)⟩)) ?_
   intro w250 h251
   have hk253 := h251.kp (Dw := False)
   have h252 : El (α := staff_Ratio) A200 w250 b247 0 x243 := h251.el hA ⟨[.string x243.num], _, rfl, rfl, rfl⟩
   have ht254 := Kp.tr (Dw := False) hk253 hA hB
   replace hH := Hp.kp (Dw := False) hH hk253
   replace hK := Tr.trans (Dw := False) hK ht254
   replace hB := Nat.le_trans hB ht254.ex.size
   replace hA := ht254.new
   refine V_to (fun _ _ => rfl) ?_
   refine C_seq ?_
   refine C_seq ?_
   refine C_region ?_
   have h255 := El_staff_Ratio_0 h252
   refine V_y (Y_fieldAddr Tryz.underlying23 rfl Tryz.sizeOf9 (by decide) rfl) rfl rfl rfl ?_
   refine V_y (Y_load (El.str h255) Tryz.isAgg9 rfl) rfl rfl rfl ?_
   refine V_y (Y_lenStr rfl Tryz.underlying9 rfl) rfl rfl rfl ?_
   refine V_y (Y_gtr rfl rfl) rfl rfl rfl ?_
   refine V_mv rfl rfl ?_
   refine V_cut 5 (fun _ : Unit => [(6, .pointer (some ⟨b14, 0, none⟩)), (10, .pointer (some ⟨b247, 0, none⟩)), (40, .bool ((decide ((20000 : Int) < (x243.num.size : Int))) || (decide ((20000 : Int) < (x243.den.size : Int)))))]) (fun _ w' => w250 = w') ?_ ?_
   ·simp only [List.take, List.drop]
    rcases Bool.eq_false_or_eq_true (decide ((20000 : Int) < (x243.num.size : Int))) with hc256 | hc256
    ·refine V_gn rfl rfl rfl hc256 rfl rfl rfl ?_
     refine V_gn rfl rfl rfl hc256 rfl rfl rfl ?_
     refine V_gn rfl rfl rfl hc256 rfl rfl rfl ?_
     refine V_gn rfl rfl rfl hc256 rfl rfl rfl ?_
     refine V_y (Y_pick_te rfl hc256 rfl) rfl rfl rfl ?_
     exact V_end fun a ha => ⟨(), ha.sub ⟨rfl, rfl, (by rw [hc256]; rfl), trivial⟩, rfl⟩
    ·refine V_ge rfl rfl rfl hc256 ?_
     have h258 := El_staff_Ratio_1 h252
     refine V_y (Y_fieldAddr Tryz.underlying23 rfl Tryz.sizeOf9 (by decide) rfl) rfl rfl rfl ?_
     refine V_ge rfl rfl rfl hc256 ?_
     refine V_y (Y_load (El.str h258) Tryz.isAgg9 rfl) rfl rfl rfl ?_
     refine V_ge rfl rfl rfl hc256 ?_
     refine V_y (Y_lenStr rfl Tryz.underlying9 rfl) rfl rfl rfl ?_
     refine V_ge rfl rfl rfl hc256 ?_
     refine V_y (Y_gtr rfl rfl) rfl rfl rfl ?_
     refine V_y (Y_pick_fe rfl hc256 rfl) rfl rfl rfl ?_
     exact V_end fun a ha => ⟨(), ha.sub ⟨rfl, rfl, (by rw [hc256]; rfl), trivial⟩, rfl⟩
   simp only [List.take, List.drop]
   rintro _ _ rfl
   refine V_to (fun _ _ => rfl) ?_
   refine C_cond rfl (fun hc259 => ?_) (fun hc259 => ?_)
   ·rw [if_pos hc259] at hm
    refine C_seq ?_
    refine C_region ?_
    refine V_y (Y_build Tryz.underlying23 Tryz.zeroValue23 (Tryz_places23 _ Tryz.underlying23) rfl (by with_unfolding_all rfl)) rfl rfl rfl ?_
    refine V_storeC (Dw := False) (off := 0) (ds := [.string ByteArray.empty, .string ByteArray.empty]) hH (i := 1) rfl Tryz.sizeOf23 rfl (Nat.le_of_ble_eq_true rfl) (by simp [Value.cells, Value.oneCell']) rfl hB hA rfl rfl ?_
    intro w260 hH261 ht262
    replace hK := Tr.trans (Dw := False) hK ht262
    replace hH : Hp w.heap.size A200 w260 (obC b159 [v193, v195] 43 :: obC b14 [.string ByteArray.empty, .string ByteArray.empty] 23 :: []) := hH261
    refine V_as rfl rfl ?_
    refine V_to (fun _ _ => rfl) ?_
    obtain rfl := Option.some.inj hm
    refine C_ret ?_
    try simp only [↓inBlock_ret, ↓then_ret]
    exact retQ rfl (Res.l2 Tryz.results7 (RL.cell rfl (loadVar_agg (Hp.part (off := 0) (n := 2) (ds := [.string ByteArray.empty, .string ByteArray.empty]) hH (i := 1) rfl rfl) Tryz.isAgg23 Tryz.sizeOf23)) (RL.tmp rfl)) ⟨rfl, hK.kp⟩
   ·rw [if_neg (nt hc259)] at hm
    refine C_skip_to (fun _ _ => rfl) ?_
    refine C_seq ?_
    refine C_region ?_
    obtain ⟨h263, _⟩ := El_staff_Ratio h252
    refine V_y (Y_loadA h263 Tryz.isAgg23 Tryz.sizeOf23 rfl) rfl rfl rfl ?_
    refine V_storeC (Dw := False) (off := 0) (ds := [.string x243.num, .string x243.den]) hH (i := 1) rfl Tryz.sizeOf23 rfl (Nat.le_of_ble_eq_true rfl) (by simp [Value.cells, Value.oneCell']) rfl hB hA rfl rfl ?_
    intro w264 hH265 ht266
    replace hK := Tr.trans (Dw := False) hK ht266
    replace hH : Hp w.heap.size A200 w264 (obC b159 [v193, v195] 43 :: obC b14 [.string x243.num, .string x243.den] 23 :: []) := hH265
    refine V_as rfl rfl ?_
    refine V_to (fun _ _ => rfl) ?_
    obtain rfl := Option.some.inj hm
    refine C_ret ?_
    try simp only [↓inBlock_ret, ↓then_ret]
    exact retQ rfl (Res.l2 Tryz.results7 (RL.cell rfl (loadVar_agg (Hp.part (off := 0) (n := 2) (ds := [.string x243.num, .string x243.den]) hH (i := 1) rfl rfl) Tryz.isAgg23 Tryz.sizeOf23)) (RL.tmp rfl)) ⟨rfl, hK.kp⟩
  obtain ⟨x267, hx267, hm⟩ := Option.bind_eq_some_iff.1 hm
  refine V_call Tryz.call14 rfl rfl rfl rfl (portref2_ratOf_c (Dw := False) w156 hA b hx267) ?_
  rintro _ w272 ⟨v268, v270, rfl, h269, h271, hk273⟩
  have ht274 := Kp.tr (Dw := False) hk273 hA hB
  replace hH := Hp.kp (Dw := False) hH hk273
  replace h4 := El.tr (Dw := False) h4 ht274
  replace h11 := El.tr (Dw := False) h11 ht274
  replace h153 := Sl.tr (Dw := False) h153 ht274
  replace h155 := Sl.tr (Dw := False) h155 ht274
  replace hK := Tr.trans (Dw := False) hK ht274
  replace hB := Nat.le_trans hB ht274.ex.size
  replace hA := ht274.new
  refine V_CHZ (Dw := False) (hk273) ?_
  refine CHZ_l1 (Dw := False) (k := 0) [(2, 5), (2, 4), (4, 6)] rfl ?_ rfl ?_
  ·refine CH_l1 (Dw := False) (k := 0) rfl ?_
   refine V_allocHk (Dw := False) (B := w.heap.size) hH Tryz.zeroValue43 hB hA rfl ?_
   intro b275 w276 A277 hk280 hH278 ht279
   replace h4 := El.tr (Dw := False) h4 ht279
   replace h11 := El.tr (Dw := False) h11 ht279
   replace h153 := Sl.tr (Dw := False) h153 ht279
   replace h155 := Sl.tr (Dw := False) h155 ht279
   replace h269 := Sl.tr (Dw := False) h269 ht279
   replace h271 := Sl.tr (Dw := False) h271 ht279
   replace hK := Tr.trans (Dw := False) hK ht279
   replace hB := Nat.le_trans hB ht279.ex.size
   replace hA := ht279.new
   replace hH : Hp w.heap.size A277 w276 (obC b275 [.slice none 0 0, .slice none 0 0] 43 :: obC b14 [.string ByteArray.empty, .string ByteArray.empty] 23 :: []) := hH278
   refine V_CH (Dw := False) (hk280) ?_
   refine CH_l1 (Dw := False) (k := 0) rfl ?_
   obtain ⟨x281, hx281, hm⟩ := Option.bind_eq_some_iff.1 hm
   refine V_call Tryz.call21 rfl rfl rfl rfl (portref2_ratio_plus_c (Dw := False) w276 hA x151 v152 h153 v154 h155 x267 v268 h269 v270 h271 hx281) ?_
   rintro _ w286 ⟨v282, v284, rfl, h283, h285, hk287⟩
   have ht288 := Kp.tr (Dw := False) hk287 hA hB
   replace hH := Hp.kp (Dw := False) hH hk287
   replace h4 := El.tr (Dw := False) h4 ht288
   replace h11 := El.tr (Dw := False) h11 ht288
   replace hK := Tr.trans (Dw := False) hK ht288
   replace hB := Nat.le_trans hB ht288.ex.size
   replace hA := ht288.new
   refine V_CH (Dw := False) (hk287) ?_
   refine CH_l1 (Dw := False) (k := 2) rfl ?_
   have h294 : (v282).oneCell' = true := by obtain ⟨_, _, e, _⟩ := Sl.form h283; rw [e]; rfl
   have h297 : (v284).oneCell' = true := by obtain ⟨_, _, e, _⟩ := Sl.form h285; rw [e]; rfl
   refine V_storeC (Dw := False) (off := 0) (ds := [v282, v284]) hH (i := 0) rfl Tryz.sizeOf43 rfl (Nat.le_of_ble_eq_true rfl) (by exact (List.forall_mem_cons.2 ⟨h294, (List.forall_mem_cons.2 ⟨h297, (fun _ h => nomatch h)⟩)⟩)) rfl hB hA rfl rfl ?_
   intro w289 hH290 ht291
   replace h4 := El.tr (Dw := False) h4 ht291
   replace h11 := El.tr (Dw := False) h11 ht291
   replace h283 := Sl.tr (Dw := False) h283 ht291
   replace h285 := Sl.tr (Dw := False) h285 ht291
   replace hK := Tr.trans (Dw := False) hK ht291
   replace hB := Nat.le_trans hB ht291.ex.size
   replace hA := ht291.new
   replace hH : Hp w.heap.size A277 w289 (obC b275 [v282, v284] 43 :: obC b14 [.string ByteArray.empty, .string ByteArray.empty] 23 :: []) := hH290
   refine V_CHw (Dw := False) ?_
   refine CH_tail (Dw := False) ?_
   show V _ _ _ _ [] _ _
   refine V_to (fun _ _ => rfl) ?_
   refine C_seq ?_
   refine C_seq ?_
   refine C_region ?_
   refine V_mv rfl rfl ?_
   refine V_to (fun _ _ => rfl) ?_
   obtain ⟨s299, ho298, hm⟩ := Option.bind_eq_some_iff.1 hm
   refine C_cutG (ι := (Value × Value × (Nat → Prop))) (fun ⟨v301, v303, A308⟩ => [(6, .pointer (some ⟨b14, 0, none⟩)), (9, .pointer (some ⟨b275, 0, none⟩))]) (fun ⟨v301, v303, A308⟩ => fun w' => Sl A308 w' v301 s299.num ∧ Sl A308 w' v303 s299.den ∧ Hp w.heap.size A308 w' (obC b275 [v301, v303] 43 :: obC b14 [.string ByteArray.empty, .string ByteArray.empty] 23 :: []) ∧ Tr False w.heap.size A277 w289 A308 w') ?_ ?_
   ·have hr300 : Tr False w.heap.size A277 w289 A277 w289 := Tr.refl (Dw := False) hA
    refine C_cond rfl (fun hc310 => ?_) (fun hc310 => ?_)
    ·rw [if_pos hc310] at ho298
     refine C_region_ch (Dw := False) A277 6 [(1, 0), (1, 2), (2, 1), (2, 3), (2, 4), (4, 5)] Tryz_mixed (by kernel_rfl) (fun w311 hk312 => ?_)
     have ht313 := Kp.tr (Dw := False) hk312 hA hB
     replace hH := Hp.kp (Dw := False) hH hk312
     replace h4 := El.tr (Dw := False) h4 ht313
     replace h11 := El.tr (Dw := False) h11 ht313
     replace hr300 := Tr.trans (Dw := False) hr300 ht313
     replace hB := Nat.le_trans hB ht313.ex.size
     replace hA := ht313.new
     refine CH_q2 (Dw := False) rfl ?_
     obtain ⟨h314, _⟩ := El_staff_Ratio h4
     refine VQ_y (fun w' hw' => Y_loadA (At.same h314 (hw'.2 _ h4.2.1 h4.1)) Tryz.isAgg23 Tryz.sizeOf23 rfl) rfl rfl rfl ?_
     refine VQ_CH (Dw := False) ?_
     refine CH_q2 (Dw := False) rfl ?_
     obtain ⟨h315, _⟩ := El_staff_Ratio h11
     refine VQ_y (fun w' hw' => Y_loadA (At.same h315 (hw'.2 _ h11.2.1 h11.1)) Tryz.isAgg23 Tryz.sizeOf23 rfl) rfl rfl rfl ?_
     refine VQ_CH (Dw := False) ?_
     refine CH_l1 (Dw := False) (k := 0) rfl ?_
     obtain ⟨x316, hx316, ho298⟩ := Option.bind_eq_some_iff.1 ho298
     refine V_call Tryz.call14 rfl rfl rfl rfl (portref2_ratOf_c (Dw := False) w311 hA a_ hx316) ?_
     rintro _ w321 ⟨v317, v319, rfl, h318, h320, hk322⟩
     have ht323 := Kp.tr (Dw := False) hk322 hA hB
     replace hH := Hp.kp (Dw := False) hH hk322
     replace hr300 := Tr.trans (Dw := False) hr300 ht323
     replace hB := Nat.le_trans hB ht323.ex.size
     replace hA := ht323.new
     refine V_CH (Dw := False) (hk322) ?_
     refine CH_l1 (Dw := False) (k := 0) rfl ?_
     obtain ⟨x324, hx324, ho298⟩ := Option.bind_eq_some_iff.1 ho298
     refine V_call Tryz.call14 rfl rfl rfl rfl (portref2_ratOf_c (Dw := False) w321 hA b hx324) ?_
     rintro _ w329 ⟨v325, v327, rfl, h326, h328, hk330⟩
     have ht331 := Kp.tr (Dw := False) hk330 hA hB
     replace hH := Hp.kp (Dw := False) hH hk330
     replace h318 := Sl.tr (Dw := False) h318 ht331
     replace h320 := Sl.tr (Dw := False) h320 ht331
     replace hr300 := Tr.trans (Dw := False) hr300 ht331
     replace hB := Nat.le_trans hB ht331.ex.size
     replace hA := ht331.new
     refine V_CH (Dw := False) (hk330) ?_
     refine CH_l1 (Dw := False) (k := 0) rfl ?_
     obtain ⟨x332, hx332, ho298⟩ := Option.bind_eq_some_iff.1 ho298
     refine V_call Tryz.call22 rfl rfl rfl rfl (portref2_ratio_times_c (Dw := False) w329 hA x316 v317 h318 v319 h320 x324 v325 h326 v327 h328 hx332) ?_
     rintro _ w337 ⟨v333, v335, rfl, h334, h336, hk338⟩
     have ht339 := Kp.tr (Dw := False) hk338 hA hB
     replace hH := Hp.kp (Dw := False) hH hk338
     replace hr300 := Tr.trans (Dw := False) hr300 ht339
     replace hB := Nat.le_trans hB ht339.ex.size
     replace hA := ht339.new
     refine V_CH (Dw := False) (hk338) ?_
     refine CH_l1 (Dw := False) (k := 2) rfl ?_
     have h345 : (v333).oneCell' = true := by obtain ⟨_, _, e, _⟩ := Sl.form h334; rw [e]; rfl
     have h348 : (v335).oneCell' = true := by obtain ⟨_, _, e, _⟩ := Sl.form h336; rw [e]; rfl
     refine V_storeC (Dw := False) (off := 0) (ds := [v333, v335]) hH (i := 0) rfl Tryz.sizeOf43 rfl (Nat.le_of_ble_eq_true rfl) (by exact (List.forall_mem_cons.2 ⟨h345, (List.forall_mem_cons.2 ⟨h348, (fun _ h => nomatch h)⟩)⟩)) rfl hB hA rfl rfl ?_
     intro w340 hH341 ht342
     replace h334 := Sl.tr (Dw := False) h334 ht342
     replace h336 := Sl.tr (Dw := False) h336 ht342
     replace hr300 := Tr.trans (Dw := False) hr300 ht342
     replace hH : Hp w.heap.size A277 w340 (obC b275 [v333, v335] 43 :: obC b14 [.string ByteArray.empty, .string ByteArray.empty] 23 :: []) := hH341
     refine V_CHw (Dw := False) ?_
     refine CH_tail (Dw := False) ?_
     show V _ _ _ _ [] _ _
     obtain rfl := Option.some.inj ho298
     refine V_end (fun a ha349 => ?_)
     exact ⟨(v333, v335, A277), ha349.sub ⟨rfl, rfl, trivial⟩, ⟨h334, h336, hH, hr300⟩⟩
    ·rw [if_neg (nt hc310)] at ho298
     obtain rfl := Option.some.inj ho298
     refine C_skip (fun a ha350 => ?_)
     exact ⟨(v282, v284, A277), ha350.sub ⟨rfl, rfl, trivial⟩, ⟨h283, h285, hH, hr300⟩⟩
   rintro ⟨v301, v303, A308⟩ w305 ⟨h302, h304, hH309, hk306⟩ a ha307
   replace hK := Tr.trans (Dw := False) hK hk306
   replace hB := Nat.le_trans hB hk306.ex.size
   replace hA := hk306.new
   replace hH : Hp w.heap.size A308 w305 (obC b275 [v301, v303] 43 :: obC b14 [.string ByteArray.empty, .string ByteArray.empty] 23 :: []) := hH309
   refine C_at (n := ⟨43, [], none⟩) (fun _ _ => rfl) ?_ ha307
   refine C_seq ?_
   refine C_region ?_
   refine V_y (Y_loadA (Hp.part (off := 0) (n := 2) (ds := [v301, v303]) hH (i := 0) rfl rfl) Tryz.isAgg43 Tryz.sizeOf43 rfl) rfl rfl rfl ?_
   obtain ⟨x351, hx351, hm⟩ := Option.bind_eq_some_iff.1 hm
   refine V_call Tryz.call23 rfl rfl rfl rfl (portref2_ratioOf_c (Dw := False) w305 hA s299 v301 h302 v303 h304 hx351) ?_
   rintro _ w352 ⟨rfl, hk353⟩
   have ht354 := Kp.tr (Dw := False) hk353 hA hB
   replace hH := Hp.kp (Dw := False) hH hk353
   replace hK := Tr.trans (Dw := False) hK ht354
   replace hB := Nat.le_trans hB ht354.ex.size
   replace hA := ht354.new
   refine V_alloc Tryz.zeroValue23 rfl ?_
   intro b355 w356 h357
   refine V_storeNew h357 Tryz.sizeOf23 rfl rfl rfl rfl (by exact (List.forall_mem_cons.2 ⟨rfl, (List.forall_mem_cons.2 ⟨rfl, (fun _ h => nomatch h)⟩)⟩)) ?_
   intro w358 h359
   have hk361 := h359.kp (Dw := False)
   have h360 : El (α := staff_Ratio) A308 w358 b355 0 x351 := h359.el hA ⟨[.string x351.num], _, rfl, rfl, rfl⟩
   have ht362 := Kp.tr (Dw := False) hk361 hA hB
   replace hH := Hp.kp (Dw := False) hH hk361
   replace hK := Tr.trans (Dw := False) hK ht362
   replace hB := Nat.le_trans hB ht362.ex.size
   replace hA := ht362.new
   refine V_to (fun _ _ => rfl) ?_
   refine C_seq ?_
   refine C_seq ?_
   refine C_region ?_
   have h363 := El_staff_Ratio_0 h360
   refine V_y (Y_fieldAddr Tryz.underlying23 rfl Tryz.sizeOf9 (by decide) rfl) rfl rfl rfl ?_
   refine V_y (Y_load (El.str h363) Tryz.isAgg9 rfl) rfl rfl rfl ?_
   refine V_y (Y_lenStr rfl Tryz.underlying9 rfl) rfl rfl rfl ?_
   refine V_y (Y_gtr rfl rfl) rfl rfl rfl ?_
   refine V_mv rfl rfl ?_
   refine V_cut 5 (fun _ : Unit => [(6, .pointer (some ⟨b14, 0, none⟩)), (10, .pointer (some ⟨b355, 0, none⟩)), (40, .bool ((decide ((20000 : Int) < (x351.num.size : Int))) || (decide ((20000 : Int) < (x351.den.size : Int)))))]) (fun _ w' => w358 = w') ?_ ?_
   ·simp only [List.take, List.drop]
    rcases Bool.eq_false_or_eq_true (decide ((20000 : Int) < (x351.num.size : Int))) with hc364 | hc364
    ·refine V_gn rfl rfl rfl hc364 rfl rfl rfl ?_
     refine V_gn rfl rfl rfl hc364 rfl rfl rfl ?_
     refine V_gn rfl rfl rfl hc364 rfl rfl rfl ?_
     refine V_gn rfl rfl rfl hc364 rfl rfl rfl ?_
     refine V_y (Y_pick_te rfl hc364 rfl) rfl rfl rfl ?_
     exact V_end fun a ha => ⟨(), ha.sub ⟨rfl, rfl, (by rw [hc364]; rfl), trivial⟩, rfl⟩
    ·refine V_ge rfl rfl rfl hc364 ?_
     have h366 := El_staff_Ratio_1 h360
     refine V_y (Y_fieldAddr Tryz.underlying23 rfl Tryz.sizeOf9 (by decide) rfl) rfl rfl rfl ?_
     refine V_ge rfl rfl rfl hc364 ?_
     refine V_y (Y_load (El.str h366) Tryz.isAgg9 rfl) rfl rfl rfl ?_
     refine V_ge rfl rfl rfl hc364 ?_
     refine V_y (Y_lenStr rfl Tryz.underlying9 rfl) rfl rfl rfl ?_
     refine V_ge rfl rfl rfl hc364 ?_
     refine V_y (Y_gtr rfl rfl) rfl rfl rfl ?_
     refine V_y (Y_pick_fe rfl hc364 rfl) rfl rfl rfl ?_
     exact V_end fun a ha => ⟨(), ha.sub ⟨rfl, rfl, (by rw [hc364]; rfl), trivial⟩, rfl⟩
   simp only [List.take, List.drop]
   rintro _ _ rfl
   refine V_to (fun _ _ => rfl) ?_
   refine C_cond rfl (fun hc367 => ?_) (fun hc367 => ?_)
   ·rw [if_pos hc367] at hm
    refine C_seq ?_
    refine C_region ?_
    refine V_y (Y_build Tryz.underlying23 Tryz.zeroValue23 (Tryz_places23 _ Tryz.underlying23) rfl (by with_unfolding_all rfl)) rfl rfl rfl ?_
    refine V_storeC (Dw := False) (off := 0) (ds := [.string ByteArray.empty, .string ByteArray.empty]) hH (i := 1) rfl Tryz.sizeOf23 rfl (Nat.le_of_ble_eq_true rfl) (by simp [Value.cells, Value.oneCell']) rfl hB hA rfl rfl ?_
    intro w368 hH369 ht370
    replace hK := Tr.trans (Dw := False) hK ht370
    replace hH : Hp w.heap.size A308 w368 (obC b275 [v301, v303] 43 :: obC b14 [.string ByteArray.empty, .string ByteArray.empty] 23 :: []) := hH369
    refine V_as rfl rfl ?_
    refine V_to (fun _ _ => rfl) ?_
    obtain rfl := Option.some.inj hm
    refine C_ret ?_
    try simp only [↓inBlock_ret, ↓then_ret]
    exact retQ rfl (Res.l2 Tryz.results7 (RL.cell rfl (loadVar_agg (Hp.part (off := 0) (n := 2) (ds := [.string ByteArray.empty, .string ByteArray.empty]) hH (i := 1) rfl rfl) Tryz.isAgg23 Tryz.sizeOf23)) (RL.tmp rfl)) ⟨rfl, hK.kp⟩
   ·rw [if_neg (nt hc367)] at hm
    refine C_skip_to (fun _ _ => rfl) ?_
    refine C_seq ?_
    refine C_region ?_
    obtain ⟨h371, _⟩ := El_staff_Ratio h360
    refine V_y (Y_loadA h371 Tryz.isAgg23 Tryz.sizeOf23 rfl) rfl rfl rfl ?_
    refine V_storeC (Dw := False) (off := 0) (ds := [.string x351.num, .string x351.den]) hH (i := 1) rfl Tryz.sizeOf23 rfl (Nat.le_of_ble_eq_true rfl) (by simp [Value.cells, Value.oneCell']) rfl hB hA rfl rfl ?_
    intro w372 hH373 ht374
    replace hK := Tr.trans (Dw := False) hK ht374
    replace hH : Hp w.heap.size A308 w372 (obC b275 [v301, v303] 43 :: obC b14 [.string x351.num, .string x351.den] 23 :: []) := hH373
    refine V_as rfl rfl ?_
    refine V_to (fun _ _ => rfl) ?_
    obtain rfl := Option.some.inj hm
    refine C_ret ?_
    try simp only [↓inBlock_ret, ↓then_ret]
    exact retQ rfl (Res.l2 Tryz.results7 (RL.cell rfl (loadVar_agg (Hp.part (off := 0) (n := 2) (ds := [.string x351.num, .string x351.den]) hH (i := 1) rfl rfl) Tryz.isAgg23 Tryz.sizeOf23)) (RL.tmp rfl)) ⟨rfl, hK.kp⟩
  obtain ⟨x375, hx375, hm⟩ := Option.bind_eq_some_iff.1 hm
  refine V_call Tryz.call21 rfl rfl rfl rfl (portref2_ratio_plus_c (Dw := False) w272 hA x151 v152 h153 v154 h155 x267 v268 h269 v270 h271 hx375) ?_
  rintro _ w380 ⟨v376, v378, rfl, h377, h379, hk381⟩
  have ht382 := Kp.tr (Dw := False) hk381 hA hB
  replace hH := Hp.kp (Dw := False) hH hk381
  replace h4 := El.tr (Dw := False) h4 ht382
  replace h11 := El.tr (Dw := False) h11 ht382
  replace hK := Tr.trans (Dw := False) hK ht382
  replace hB := Nat.le_trans hB ht382.ex.size
  replace hA := ht382.new
  refine V_CHZ (Dw := False) (hk381) ?_
  refine CHZ_nil (Dw := False) ?_
  refine CH_l1 (Dw := False) (k := 0) rfl ?_
  refine V_allocHk (Dw := False) (B := w.heap.size) hH Tryz.zeroValue43 hB hA rfl ?_
  intro b383 w384 A385 hk388 hH386 ht387
  replace h4 := El.tr (Dw := False) h4 ht387
  replace h11 := El.tr (Dw := False) h11 ht387
  replace h377 := Sl.tr (Dw := False) h377 ht387
  replace h379 := Sl.tr (Dw := False) h379 ht387
  replace hK := Tr.trans (Dw := False) hK ht387
  replace hB := Nat.le_trans hB ht387.ex.size
  replace hA := ht387.new
  replace hH : Hp w.heap.size A385 w384 (obC b383 [.slice none 0 0, .slice none 0 0] 43 :: obC b14 [.string ByteArray.empty, .string ByteArray.empty] 23 :: []) := hH386
  refine V_CH (Dw := False) (hk388) ?_
  refine CH_l1 (Dw := False) (k := 2) rfl ?_
  have h394 : (v376).oneCell' = true := by obtain ⟨_, _, e, _⟩ := Sl.form h377; rw [e]; rfl
  have h397 : (v378).oneCell' = true := by obtain ⟨_, _, e, _⟩ := Sl.form h379; rw [e]; rfl
  refine V_storeC (Dw := False) (off := 0) (ds := [v376, v378]) hH (i := 0) rfl Tryz.sizeOf43 rfl (Nat.le_of_ble_eq_true rfl) (by exact (List.forall_mem_cons.2 ⟨h394, (List.forall_mem_cons.2 ⟨h397, (fun _ h => nomatch h)⟩)⟩)) rfl hB hA rfl rfl ?_
  intro w389 hH390 ht391
  replace h4 := El.tr (Dw := False) h4 ht391
  replace h11 := El.tr (Dw := False) h11 ht391
  replace h377 := Sl.tr (Dw := False) h377 ht391
  replace h379 := Sl.tr (Dw := False) h379 ht391
  replace hK := Tr.trans (Dw := False) hK ht391
  replace hB := Nat.le_trans hB ht391.ex.size
  replace hA := ht391.new
  replace hH : Hp w.heap.size A385 w389 (obC b383 [v376, v378] 43 :: obC b14 [.string ByteArray.empty, .string ByteArray.empty] 23 :: []) := hH390
  refine V_CHw (Dw := False) ?_
  refine CH_tail (Dw := False) ?_
  show V _ _ _ _ [] _ _
  refine V_to (fun _ _ => rfl) ?_
  refine C_seq ?_
  refine C_seq ?_
  refine C_region ?_
  refine V_mv rfl rfl ?_
  refine V_to (fun _ _ => rfl) ?_
  obtain ⟨s399, ho398, hm⟩ := Option.bind_eq_some_iff.1 hm
  refine C_cutG (ι := (Value × Value × (Nat → Prop))) (fun ⟨v401, v403, A408⟩ => [(6, .pointer (some ⟨b14, 0, none⟩)), (9, .pointer (some ⟨b383, 0, none⟩))]) (fun ⟨v401, v403, A408⟩ => fun w' => Sl A408 w' v401 s399.num ∧ Sl A408 w' v403 s399.den ∧ Hp w.heap.size A408 w' (obC b383 [v401, v403] 43 :: obC b14 [.string ByteArray.empty, .string ByteArray.empty] 23 :: []) ∧ Tr False w.heap.size A385 w389 A408 w') ?_ ?_
  ·have hr400 : Tr False w.heap.size A385 w389 A385 w389 := Tr.refl (Dw := False) hA
   refine C_cond rfl (fun hc410 => ?_) (fun hc410 => ?_)
   ·rw [if_pos hc410] at ho398
    refine C_region_ch (Dw := False) A385 6 [(1, 0), (1, 2), (2, 1), (2, 3), (2, 4), (4, 5)] Tryz_mixed (by kernel_rfl) (fun w411 hk412 => ?_)
    have ht413 := Kp.tr (Dw := False) hk412 hA hB
    replace hH := Hp.kp (Dw := False) hH hk412
    replace h4 := El.tr (Dw := False) h4 ht413
    replace h11 := El.tr (Dw := False) h11 ht413
    replace hr400 := Tr.trans (Dw := False) hr400 ht413
    replace hB := Nat.le_trans hB ht413.ex.size
    replace hA := ht413.new
    refine CH_q2 (Dw := False) rfl ?_
    obtain ⟨h414, _⟩ := El_staff_Ratio h4
    refine VQ_y (fun w' hw' => Y_loadA (At.same h414 (hw'.2 _ h4.2.1 h4.1)) Tryz.isAgg23 Tryz.sizeOf23 rfl) rfl rfl rfl ?_
    refine VQ_CH (Dw := False) ?_
    refine CH_q2 (Dw := False) rfl ?_
    obtain ⟨h415, _⟩ := El_staff_Ratio h11
    refine VQ_y (fun w' hw' => Y_loadA (At.same h415 (hw'.2 _ h11.2.1 h11.1)) Tryz.isAgg23 Tryz.sizeOf23 rfl) rfl rfl rfl ?_
    refine VQ_CH (Dw := False) ?_
    refine CH_l1 (Dw := False) (k := 0) rfl ?_
    obtain ⟨x416, hx416, ho398⟩ := Option.bind_eq_some_iff.1 ho398
    refine V_call Tryz.call14 rfl rfl rfl rfl (portref2_ratOf_c (Dw := False) w411 hA a_ hx416) ?_
    rintro _ w421 ⟨v417, v419, rfl, h418, h420, hk422⟩
    have ht423 := Kp.tr (Dw := False) hk422 hA hB
    replace hH := Hp.kp (Dw := False) hH hk422
    replace hr400 := Tr.trans (Dw := False) hr400 ht423
    replace hB := Nat.le_trans hB ht423.ex.size
    replace hA := ht423.new
    refine V_CH (Dw := False) (hk422) ?_
    refine CH_l1 (Dw := False) (k := 0) rfl ?_
    obtain ⟨x424, hx424, ho398⟩ := Option.bind_eq_some_iff.1 ho398
    refine V_call Tryz.call14 rfl rfl rfl rfl (portref2_ratOf_c (Dw := False) w421 hA b hx424) ?_
    rintro _ w429 ⟨v425, v427, rfl, h426, h428, hk430⟩
    have ht431 := Kp.tr (Dw := False) hk430 hA hB
    replace hH := Hp.kp (Dw := False) hH hk430
    replace h418 := Sl.tr (Dw := False) h418 ht431
    replace h420 := Sl.tr (Dw := False) h420 ht431
    replace hr400 := Tr.trans (Dw := False) hr400 ht431
    replace hB := Nat.le_trans hB ht431.ex.size
    replace hA := ht431.new
    refine V_CH (Dw := False) (hk430) ?_
    refine CH_l1 (Dw := False) (k := 0) rfl ?_
    obtain ⟨x432, hx432, ho398⟩ := Option.bind_eq_some_iff.1 ho398
    refine V_call Tryz.call22 rfl rfl rfl rfl (portref2_ratio_times_c (Dw := False) w429 hA x416 v417 h418 v419 h420 x424 v425 h426 v427 h428 hx432) ?_
    rintro _ w437 ⟨v433, v435, rfl, h434, h436, hk438⟩
    have ht439 := Kp.tr (Dw := False) hk438 hA hB
    replace hH := Hp.kp (Dw := False) hH hk438
    replace hr400 := Tr.trans (Dw := False) hr400 ht439
    replace hB := Nat.le_trans hB ht439.ex.size
    replace hA := ht439.new
    refine V_CH (Dw := False) (hk438) ?_
    refine CH_l1 (Dw := False) (k := 2) rfl ?_
    have h445 : (v433).oneCell' = true := by obtain ⟨_, _, e, _⟩ := Sl.form h434; rw [e]; rfl
    have h448 : (v435).oneCell' = true := by obtain ⟨_, _, e, _⟩ := Sl.form h436; rw [e]; rfl
    refine V_storeC (Dw := False) (off := 0) (ds := [v433, v435]) hH (i := 0) rfl Tryz.sizeOf43 rfl (Nat.le_of_ble_eq_true rfl) (by exact (List.forall_mem_cons.2 ⟨h445, (List.forall_mem_cons.2 ⟨h448, (fun _ h => nomatch h)⟩)⟩)) rfl hB hA rfl rfl ?_
    intro w440 hH441 ht442
    replace h434 := Sl.tr (Dw := False) h434 ht442
    replace h436 := Sl.tr (Dw := False) h436 ht442
    replace hr400 := Tr.trans (Dw := False) hr400 ht442
    replace hH : Hp w.heap.size A385 w440 (obC b383 [v433, v435] 43 :: obC b14 [.string ByteArray.empty, .string ByteArray.empty] 23 :: []) := hH441
    refine V_CHw (Dw := False) ?_
    refine CH_tail (Dw := False) ?_
    show V _ _ _ _ [] _ _
    obtain rfl := Option.some.inj ho398
    refine V_end (fun a ha449 => ?_)
    exact ⟨(v433, v435, A385), ha449.sub ⟨rfl, rfl, trivial⟩, ⟨h434, h436, hH, hr400⟩⟩
   ·rw [if_neg (nt hc410)] at ho398
    obtain rfl := Option.some.inj ho398
    refine C_skip (fun a ha450 => ?_)
    exact ⟨(v376, v378, A385), ha450.sub ⟨rfl, rfl, trivial⟩, ⟨h377, h379, hH, hr400⟩⟩
  rintro ⟨v401, v403, A408⟩ w405 ⟨h402, h404, hH409, hk406⟩ a ha407
  replace hK := Tr.trans (Dw := False) hK hk406
  replace hB := Nat.le_trans hB hk406.ex.size
  replace hA := hk406.new
  replace hH : Hp w.heap.size A408 w405 (obC b383 [v401, v403] 43 :: obC b14 [.string ByteArray.empty, .string ByteArray.empty] 23 :: []) := hH409
  refine C_at (n := ⟨43, [], none⟩) (fun _ _ => rfl) ?_ ha407
  refine C_seq ?_
  refine C_region ?_
  refine V_y (Y_loadA (Hp.part (off := 0) (n := 2) (ds := [v401, v403]) hH (i := 0) rfl rfl) Tryz.isAgg43 Tryz.sizeOf43 rfl) rfl rfl rfl ?_
  obtain ⟨x451, hx451, hm⟩ := Option.bind_eq_some_iff.1 hm
  refine V_call Tryz.call23 rfl rfl rfl rfl (portref2_ratioOf_c (Dw := False) w405 hA s399 v401 h402 v403 h404 hx451) ?_
  rintro _ w452 ⟨rfl, hk453⟩
  have ht454 := Kp.tr (Dw := False) hk453 hA hB
  replace hH := Hp.kp (Dw := False) hH hk453
  replace hK := Tr.trans (Dw := False) hK ht454
  replace hB := Nat.le_trans hB ht454.ex.size
  replace hA := ht454.new
  refine V_alloc Tryz.zeroValue23 rfl ?_
  intro b455 w456 h457
  refine V_storeNew h457 Tryz.sizeOf23 rfl rfl rfl rfl (by exact (List.forall_mem_cons.2 ⟨rfl, (List.forall_mem_cons.2 ⟨rfl, (fun _ h => nomatch h)⟩)⟩)) ?_
  intro w458 h459
  have hk461 := h459.kp (Dw := False)
  have h460 : El (α := staff_Ratio) A408 w458 b455 0 x451 := h459.el hA ⟨[.string x451.num], _, rfl, rfl, rfl⟩
  have ht462 := Kp.tr (Dw := False) hk461 hA hB
  replace hH := Hp.kp (Dw := False) hH hk461
  replace hK := Tr.trans (Dw := False) hK ht462
  replace hB := Nat.le_trans hB ht462.ex.size
  replace hA := ht462.new
  refine V_to (fun _ _ => rfl) ?_
  refine C_seq ?_
  refine C_seq ?_
  refine C_region ?_
  have h463 := El_staff_Ratio_0 h460
  refine V_y (Y_fieldAddr Tryz.underlying23 rfl Tryz.sizeOf9 (by decide) rfl) rfl rfl rfl ?_
  refine V_y (Y_load (El.str h463) Tryz.isAgg9 rfl) rfl rfl rfl ?_
  refine V_y (Y_lenStr rfl Tryz.underlying9 rfl) rfl rfl rfl ?_
  refine V_y (Y_gtr rfl rfl) rfl rfl rfl ?_
  refine V_mv rfl rfl ?_
  refine V_cut 5 (fun _ : Unit => [(6, .pointer (some ⟨b14, 0, none⟩)), (10, .pointer (some ⟨b455, 0, none⟩)), (40, .bool ((decide ((20000 : Int) < (x451.num.size : Int))) || (decide ((20000 : Int) < (x451.den.size : Int)))))]) (fun _ w' => w458 = w') ?_ ?_
  ·simp only [List.take, List.drop]
   rcases Bool.eq_false_or_eq_true (decide ((20000 : Int) < (x451.num.size : Int))) with hc464 | hc464
   ·refine V_gn rfl rfl rfl hc464 rfl rfl rfl ?_
    refine V_gn rfl rfl rfl hc464 rfl rfl rfl ?_
    refine V_gn rfl rfl rfl hc464 rfl rfl rfl ?_
    refine V_gn rfl rfl rfl hc464 rfl rfl rfl ?_
    refine V_y (Y_pick_te rfl hc464 rfl) rfl rfl rfl ?_
    exact V_end fun a ha => ⟨(), ha.sub ⟨rfl, rfl, (by rw [hc464]; rfl), trivial⟩, rfl⟩
   ·refine V_ge rfl rfl rfl hc464 ?_
    have h466 := El_staff_Ratio_1 h460
    refine V_y (Y_fieldAddr Tryz.underlying23 rfl Tryz.sizeOf9 (by decide) rfl) rfl rfl rfl ?_
    refine V_ge rfl rfl rfl hc464 ?_
    refine V_y (Y_load (El.str h466) Tryz.isAgg9 rfl) rfl rfl rfl ?_
    refine V_ge rfl rfl rfl hc464 ?_
    refine V_y (Y_lenStr rfl Tryz.underlying9 rfl) rfl rfl rfl ?_
    refine V_ge rfl rfl rfl hc464 ?_
    refine V_y (Y_gtr rfl rfl) rfl rfl rfl ?_
    refine V_y (Y_pick_fe rfl hc464 rfl) rfl rfl rfl ?_
    exact V_end fun a ha => ⟨(), ha.sub ⟨rfl, rfl, (by rw [hc464]; rfl), trivial⟩, rfl⟩
  simp only [List.take, List.drop]
  rintro _ _ rfl
  refine V_to (fun _ _ => rfl) ?_
  refine C_cond rfl (fun hc467 => ?_) (fun hc467 => ?_)
  ·rw [if_pos hc467] at hm
   refine C_seq ?_
   refine C_region ?_
   refine V_y (Y_build Tryz.underlying23 Tryz.zeroValue23 (Tryz_places23 _ Tryz.underlying23) rfl (by with_unfolding_all rfl)) rfl rfl rfl ?_
   refine V_storeC (Dw := False) (off := 0) (ds := [.string ByteArray.empty, .string ByteArray.empty]) hH (i := 1) rfl Tryz.sizeOf23 rfl (Nat.le_of_ble_eq_true rfl) (by simp [Value.cells, Value.oneCell']) rfl hB hA rfl rfl ?_
   intro w468 hH469 ht470
   replace hK := Tr.trans (Dw := False) hK ht470
   replace hH : Hp w.heap.size A408 w468 (obC b383 [v401, v403] 43 :: obC b14 [.string ByteArray.empty, .string ByteArray.empty] 23 :: []) := hH469
   refine V_as rfl rfl ?_
   refine V_to (fun _ _ => rfl) ?_
   obtain rfl := Option.some.inj hm
   refine C_ret ?_
   try simp only [↓inBlock_ret, ↓then_ret]
   exact retQ rfl (Res.l2 Tryz.results7 (RL.cell rfl (loadVar_agg (Hp.part (off := 0) (n := 2) (ds := [.string ByteArray.empty, .string ByteArray.empty]) hH (i := 1) rfl rfl) Tryz.isAgg23 Tryz.sizeOf23)) (RL.tmp rfl)) ⟨rfl, hK.kp⟩
  ·rw [if_neg (nt hc467)] at hm
   refine C_skip_to (fun _ _ => rfl) ?_
   refine C_seq ?_
   refine C_region ?_
   obtain ⟨h471, _⟩ := El_staff_Ratio h460
   refine V_y (Y_loadA h471 Tryz.isAgg23 Tryz.sizeOf23 rfl) rfl rfl rfl ?_
   refine V_storeC (Dw := False) (off := 0) (ds := [.string x451.num, .string x451.den]) hH (i := 1) rfl Tryz.sizeOf23 rfl (Nat.le_of_ble_eq_true rfl) (by simp [Value.cells, Value.oneCell']) rfl hB hA rfl rfl ?_
   intro w472 hH473 ht474
   replace hK := Tr.trans (Dw := False) hK ht474
   replace hH : Hp w.heap.size A408 w472 (obC b383 [v401, v403] 43 :: obC b14 [.string x451.num, .string x451.den] 23 :: []) := hH473
   refine V_as rfl rfl ?_
   refine V_to (fun _ _ => rfl) ?_
   obtain rfl := Option.some.inj hm
   refine C_ret ?_
   try simp only [↓inBlock_ret, ↓then_ret]
   exact retQ rfl (Res.l2 Tryz.results7 (RL.cell rfl (loadVar_agg (Hp.part (off := 0) (n := 2) (ds := [.string x451.num, .string x451.den]) hH (i := 1) rfl rfl) Tryz.isAgg23 Tryz.sizeOf23)) (RL.tmp rfl)) ⟨rfl, hK.kp⟩

set_option maxRecDepth 4000 in
set_option maxHeartbeats 4000000 in
theorem staff_lowest_c (w : World) {A : Nat → Prop} (hA : ∀ b, w.heap.size ≤ b → A b) (num : (List Int)) (v_num : Value) (h_num : Sl A w v_num num) (den : (List Int)) (v_den : Value) (h_den : Sl A w v_den den) {r : staff_ratio} (hm : staff_lowest num den = some r) : Ret Tryz.prog 24 #[v_num, v_den] w fun v w' => ∃ s0 s1, v = .agg #[s0, s1] ∧ Sl A w' s0 r.num ∧ Sl A w' s1 r.den ∧ Kp Dw w w' := by
 unfold staff_lowest at hm
 refine enter Tryz.func24 rfl Tryz.ntmps24 rfl ?_
 have hA0 := hA
 have hB := Nat.le_refl w.heap.size
 have hK : Tr Dw w.heap.size A w A w := Tr.refl (Dw := Dw) hA
 have hH : Hp w.heap.size A w [] := Hp.nil
 refine C_seq ?_
 refine C_region ?_
 refine V_allocH (Dw := Dw) (B := w.heap.size) hH Tryz.zeroValue35 hB hA rfl ?_
 intro b5 w6 A7 hH8 ht9
 replace h_num := Sl.tr h_num ht9
 replace h_den := Sl.tr h_den ht9
 replace hK := Tr.trans hK ht9
 replace hB := Nat.le_trans hB ht9.ex.size
 replace hA := ht9.new
 replace hH : Hp w.heap.size A7 w6 (obC b5 [.slice none 0 0, .slice none 0 0] 35 :: []) := hH8
 refine V_to (fun _ _ => rfl) ?_
 refine C_seq ?_
 refine C_region ?_
 refine V_mv rfl rfl ?_
 refine V_mv rfl rfl ?_
 obtain ⟨x10, hx10, hm⟩ := Option.bind_eq_some_iff.1 hm
 refine V_call Tryz.call16 rfl rfl rfl rfl (staff_divisor_c (Dw := Dw) w6 hA num v_num h_num den v_den h_den hx10) ?_
 rintro v11 w13 ⟨_, rfl, h12, hk14⟩
 have ht15 := Kp.tr hk14 hA hB
 replace hH := Hp.kp hH hk14
 replace h_num := Sl.tr h_num ht15
 replace h_den := Sl.tr h_den ht15
 replace hK := Tr.trans hK ht15
 replace hB := Nat.le_trans hB ht15.ex.size
 replace hA := ht15.new
 refine V_as rfl rfl ?_
 refine V_to (fun _ _ => rfl) ?_
 refine C_seq ?_
 refine C_region ?_
 refine V_mv rfl rfl ?_
 refine V_mv rfl rfl ?_
 obtain ⟨x16, hx16, hm⟩ := Option.bind_eq_some_iff.1 hm
 refine V_call Tryz.call17 rfl rfl rfl rfl (staff_nat_by_c (Dw := Dw) w13 hA num v_num h_num x10 v11 h12 hx16) ?_
 rintro _ w21 ⟨v17, v19, rfl, h18, h20, hk22⟩
 have ht23 := Kp.tr hk22 hA hB
 replace hH := Hp.kp hH hk22
 replace h_den := Sl.tr h_den ht23
 replace h12 := Sl.tr h12 ht23
 replace hK := Tr.trans hK ht23
 replace hB := Nat.le_trans hB ht23.ex.size
 replace hA := ht23.new
 refine V_mv rfl rfl ?_
 refine V_y (Y_extract rfl rfl) rfl rfl rfl ?_
 refine V_y (Y_extract rfl rfl) rfl rfl rfl ?_
 refine V_as rfl rfl ?_
 refine V_to (fun _ _ => rfl) ?_
 refine C_seq ?_
 refine C_region ?_
 refine V_mv rfl rfl ?_
 refine V_mv rfl rfl ?_
 obtain ⟨x24, hx24, hm⟩ := Option.bind_eq_some_iff.1 hm
 refine V_call Tryz.call17 rfl rfl rfl rfl (staff_nat_by_c (Dw := Dw) w21 hA den v_den h_den x10 v11 h12 hx24) ?_
 rintro _ w29 ⟨v25, v27, rfl, h26, h28, hk30⟩
 have ht31 := Kp.tr hk30 hA hB
 replace hH := Hp.kp hH hk30
 replace h18 := Sl.tr h18 ht31
 replace hK := Tr.trans hK ht31
 replace hB := Nat.le_trans hB ht31.ex.size
 replace hA := ht31.new
 refine V_mv rfl rfl ?_
 refine V_y (Y_extract rfl rfl) rfl rfl rfl ?_
 refine V_y (Y_extract rfl rfl) rfl rfl rfl ?_
 refine V_as rfl rfl ?_
 refine V_to (fun _ _ => rfl) ?_
 refine C_seq ?_
 refine C_region ?_
 refine V_mv rfl rfl ?_
 refine V_mv rfl rfl ?_
 refine V_y (Y_build (cells := #[v17, v25]) Tryz.underlying35 Tryz.zeroValue35 (Tryz_places35 _ Tryz.underlying35) rfl (by obtain ⟨a32, c33, e34, _⟩ := Sl.form h18; subst e34; obtain ⟨a35, c36, e37, _⟩ := Sl.form h26; subst e37; with_unfolding_all rfl)) rfl rfl rfl ?_
 have h43 : (v17).oneCell' = true := by obtain ⟨_, _, e, _⟩ := Sl.form h18; rw [e]; rfl
 have h46 : (v25).oneCell' = true := by obtain ⟨_, _, e, _⟩ := Sl.form h26; rw [e]; rfl
 refine V_storeC (Dw := Dw) (off := 0) (ds := [v17, v25]) hH (i := 0) rfl Tryz.sizeOf35 rfl (Nat.le_of_ble_eq_true rfl) (by exact (List.forall_mem_cons.2 ⟨h43, (List.forall_mem_cons.2 ⟨h46, (fun _ h => nomatch h)⟩)⟩)) rfl hB hA rfl rfl ?_
 intro w38 hH39 ht40
 replace h18 := Sl.tr h18 ht40
 replace h26 := Sl.tr h26 ht40
 replace hK := Tr.trans hK ht40
 replace hH : Hp w.heap.size A7 w38 (obC b5 [v17, v25] 35 :: []) := hH39
 refine V_to (fun _ _ => rfl) ?_
 obtain rfl := Option.some.inj hm
 refine C_ret ?_
 try simp only [↓inBlock_ret, ↓then_ret]
 exact retQ rfl (Res.l1 Tryz.results24 (RL.cell rfl (loadVar_agg (Hp.part (off := 0) (n := 2) (ds := [v17, v25]) hH (i := 0) rfl rfl) Tryz.isAgg35 Tryz.sizeOf35))) ⟨v17, v25, rfl, (Sl.out (Dw := Dw) h18 hA0 hK), (Sl.out (Dw := Dw) h26 hA0 hK), hK.kp⟩

end Go.Proofs.YtnnbhehaplphiaaGreatDoor.W
