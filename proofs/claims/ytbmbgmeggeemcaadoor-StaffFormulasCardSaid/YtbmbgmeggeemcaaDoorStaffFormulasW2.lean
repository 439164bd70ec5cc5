/-
  Written by program (gen.py) from the IR of the dump: each function computes its model.
-/
import Derived.Test.YtbmbgmeggeemcaaDoorStaffFormulasW1
namespace Go.Proofs.YtbmbgmeggeemcaaDoor.W
open Go Go.RowKit Go.Pu Go.Gw Go.Proofs Go.Proofs.YtbmbgmeggeemcaaDoor.M
set_option linter.unusedVariables false
set_option linter.unusedSimpArgs false
variable {Dw : Prop}

set_option maxRecDepth 4000 in
set_option maxHeartbeats 4000000 in
theorem portref2_whole_text_c (w : World) {A : Nat → Prop} (hA : ∀ b, w.heap.size ≤ b → A b) (a_ : (List UInt32)) (v_a_ : Value) (h_a_ : Sl A w v_a_ a_) {r : ByteArray} (hm : portref2_whole_text a_ = some r) : Ret Tryd.prog 28 #[v_a_] w fun v w' => v = .string r ∧ Kp Dw w w' := by
 unfold portref2_whole_text at hm
 refine enter Tryd.func28 rfl Tryd.ntmps28 rfl ?_
 have hA0 := hA
 have hB := Nat.le_refl w.heap.size
 have hK : Tr Dw w.heap.size A w A w := Tr.refl (Dw := Dw) hA
 have hH : Hp w.heap.size A w [] := Hp.nil
 refine C_seq ?_
 refine C_region ?_
 refine V_as rfl rfl ?_
 refine V_to (fun _ _ => rfl) ?_
 refine C_seq ?_
 refine C_seq ?_
 refine C_region ?_
 refine V_mv rfl rfl ?_
 refine V_y (Y_lenSl h_a_ rfl Tryd.underlying39 rfl) rfl rfl rfl ?_
 refine V_y (Y_eql rfl rfl) rfl rfl rfl ?_
 refine V_to (fun _ _ => rfl) ?_
 refine C_cond rfl (fun hc3 => ?_) (fun hc3 => ?_)
 ·rw [if_pos hc3] at hm
  refine C_seq ?_
  refine C_region ?_
  refine V_as rfl rfl ?_
  refine V_to (fun _ _ => rfl) ?_
  obtain rfl := Option.some.inj hm
  refine C_ret ?_
  try simp only [↓inBlock_ret, ↓then_ret]
  exact retQ rfl (Res.one Tryd.results28 rfl) ⟨rfl, hK.kp⟩
 ·rw [if_neg (nt hc3)] at hm
  refine C_skip_to (fun _ _ => rfl) ?_
  refine C_seq ?_
  refine C_region ?_
  refine V_as rfl rfl ?_
  refine V_to (fun _ _ => rfl) ?_
  refine C_seq ?_
  refine C_region ?_
  refine V_mv rfl rfl ?_
  replace hH : Hp w.heap.size A w (obS (α := UInt32) 75 (.slice none 0 0) ([] : (List UInt32)) :: []) := Hp.addNil (α := UInt32) (e := 75) hH
  obtain ⟨x4, hx4, hm⟩ := Option.bind_eq_some_iff.1 hm
  refine V_appendH (Dw := Dw) (e := 75) (v := .slice none 0 0) (l := ([] : (List UInt32))) (ti := Tryd.t75) (bytes := 4) (lim := 35184372088832) hH (i := 0) rfl h_a_ hx4 Tryd.underlying39 Tryd_info75 rfl rfl rfl rfl (by decide) (by decide) (by decide) hB hA rfl rfl rfl ?_
  intro v5 w6 A7 hH8 ht9
  replace hK := Tr.trans hK ht9
  replace hB := Nat.le_trans hB ht9.ex.size
  replace hA := ht9.new
  replace hH : Hp w.heap.size A7 w6 (obS (α := UInt32) 75 v5 x4 :: []) := hH8
  refine V_as rfl rfl ?_
  refine V_to (fun _ _ => rfl) ?_
  refine C_seq ?_
  replace hH : Hp w.heap.size A7 w6 (obS (α := UInt8) 5 (.slice none 0 0) ([] : (List UInt8)) :: obS (α := UInt32) 75 v5 x4 :: []) := Hp.addNil (α := UInt8) (e := 5) hH
  obtain ⟨o10, ho10, hm⟩ := Option.bind_eq_some_iff.1 hm
  refine C_cutG (ι := (((List UInt8) × (List UInt32)) × Value × Value × (Nat → Prop))) (fun ⟨s11, v17, v19, A21⟩ => [(3, v17)]) (fun ⟨s11, v17, v19, A21⟩ => fun w' => o10 = .fin s11 ∧ Hp w.heap.size A21 w' (obS (α := UInt8) 5 v17 s11.1 :: obS (α := UInt32) 75 v19 s11.2 :: []) ∧ Tr Dw w.heap.size A7 w6 A21 w') ?_ ?_
  ·refine C_block ?_
   refine C_while ho10 (fun s23 a w' => ∃ i : (Value × Value × (Nat → Prop)), Has ⟨91, [], none⟩ a ([(3, i.1), (4, i.2.1)]) ∧ Hp w.heap.size i.2.2 w' (obS (α := UInt8) 5 i.1 s23.1 :: obS (α := UInt32) 75 i.2.1 s23.2 :: []) ∧ Tr Dw w.heap.size A7 w6 i.2.2 w') (fun a ha => ⟨(.slice none 0 0, v5, A7), ha.sub ⟨rfl, rfl, trivial⟩, ⟨hH, Tr.refl (Dw := Dw) hA⟩⟩) ?_
   rintro K s23 a w24 ⟨⟨v25, v27, A29⟩, ha151, hH30, hr12⟩ K37
   refine C_of ?_ ha151
   replace hB := Nat.le_trans hB hr12.ex.size
   replace hA := hr12.new
   replace hH : Hp w.heap.size A29 w24 (obS (α := UInt8) 5 v25 s23.1 :: obS (α := UInt32) 75 v27 s23.2 :: []) := hH30
   obtain ⟨x31, h32, h33⟩ := K37
   refine C_seq ?_
   refine C_seq ?_
   refine C_region ?_
   refine V_mv rfl rfl ?_
   refine V_y (Y_lenSl (Hp.any (α := UInt32) (e := 75) (v := v27) (l := s23.2) hH (i := 1) rfl) rfl Tryd.underlying39 rfl) rfl rfl rfl ?_
   refine V_y (Y_gtr rfl rfl) rfl rfl rfl ?_
   refine V_to (fun _ _ => rfl) ?_
   refine C_cond rfl (fun hc38 => ?_) (fun hc38 => ?_)
   ·rw [if_pos hc38] at h32
    refine C_skip_to (fun _ _ => rfl) ?_
    obtain ⟨s40, ho39, h32⟩ := Option.bind_eq_some_iff.1 h32
    refine C_cutG (ι := (Value × Value × (Nat → Prop))) (fun ⟨v42, v44, A49⟩ => [(3, v42), (4, v44)]) (fun ⟨v42, v44, A49⟩ => fun w' => Hp w.heap.size A49 w' (obS (α := UInt8) 5 v42 s40.1 :: obS (α := UInt32) 75 v44 s40.2 :: []) ∧ Tr Dw w.heap.size A29 w24 A49 w') ?_ ?_
    ·have hr41 : Tr Dw w.heap.size A29 w24 A29 w24 := Tr.refl (Dw := Dw) hA
     refine C_block ?_
     refine C_seq ?_
     refine C_region ?_
     refine V_as rfl rfl ?_
     refine V_to (fun _ _ => rfl) ?_
     refine C_seq ?_
     refine C_seq ?_
     refine C_region ?_
     refine V_mv rfl rfl ?_
     refine V_y (Y_lenSl (Hp.any (α := UInt32) (e := 75) (v := v27) (l := s23.2) hH (i := 1) rfl) rfl Tryd.underlying39 rfl) rfl rfl rfl ?_
     refine V_y (Y_subI rfl rfl) rfl rfl rfl ?_
     refine V_as rfl rfl ?_
     refine V_to (fun _ _ => rfl) ?_
     obtain ⟨o51, ho51, ho39⟩ := Option.bind_eq_some_iff.1 ho39
     refine C_cutG (ι := (((List UInt32) × Int × Int) × Value × (Nat → Prop))) (fun ⟨s52, v58, A60⟩ => [(3, v25), (4, v58), (5, .int .u64 s52.2.1)]) (fun ⟨s52, v58, A60⟩ => fun w' => o51 = .fin s52 ∧ Hp w.heap.size A60 w' (obS (α := UInt8) 5 v25 s23.1 :: obS (α := UInt32) 75 v58 s52.1 :: []) ∧ Tr Dw w.heap.size A29 w24 A60 w') ?_ ?_
     ·refine C_block ?_
      refine C_while ho51 (fun s62 a w' => ∃ i : (Value × (Nat → Prop)), Has ⟨91, [], none⟩ a ([(3, v25), (4, i.1), (5, .int .u64 s62.2.1), (6, .int .i64 s62.2.2)]) ∧ Hp w.heap.size i.2 w' (obS (α := UInt8) 5 v25 s23.1 :: obS (α := UInt32) 75 i.1 s62.1 :: []) ∧ Tr Dw w.heap.size A29 w24 i.2 w') (fun a ha => ⟨(v27, A29), ha.sub ⟨rfl, rfl, rfl, rfl, trivial⟩, ⟨hH, Tr.refl (Dw := Dw) hA⟩⟩) ?_
      rintro K s62 a w63 ⟨⟨v64, A66⟩, ha94, hH67, hr53⟩ K74
      refine C_of ?_ ha94
      replace hB := Nat.le_trans hB hr53.ex.size
      replace hA := hr53.new
      replace hH : Hp w.heap.size A66 w63 (obS (α := UInt8) 5 v25 s23.1 :: obS (α := UInt32) 75 v64 s62.1 :: []) := hH67
      obtain ⟨x68, h69, h70⟩ := K74
      refine C_seq ?_
      refine C_seq ?_
      refine C_region ?_
      refine V_mv rfl rfl ?_
      refine V_y (Y_geq rfl rfl) rfl rfl rfl ?_
      refine V_to (fun _ _ => rfl) ?_
      refine C_cond rfl (fun hc75 => ?_) (fun hc75 => ?_)
      ·rw [if_pos hc75] at h69
       refine C_skip_to (fun _ _ => rfl) ?_
       refine C_seq ?_
       refine C_block ?_
       refine C_seq ?_
       refine C_region ?_
       refine V_mv rfl rfl ?_
       obtain ⟨x76, hx76, h69⟩ := Option.bind_eq_some_iff.1 h69
       refine V_y (Y_shl hx76 rfl rfl) rfl rfl rfl ?_
       refine V_mv rfl rfl ?_
       refine V_mv rfl rfl ?_
       obtain ⟨x77, hx77, h69⟩ := Option.bind_eq_some_iff.1 h69
       refine V_indexAddrH (α := UInt32) (e := 75) (v := v64) (l := s62.1) hH (i := 1) rfl hx77 Tryd.underlying39 Tryd.sizeOf75 rfl rfl rfl ?_
       intro b78 o79 h80 hl81
       refine V_y (Y_load (El.u32 h80) Tryd.isAgg75 rfl) rfl rfl rfl ?_
       refine V_y (Y_convI Tryd.underlying75 Tryd.underlying73 rfl) rfl rfl rfl ?_
       refine V_y (Y_or rfl rfl) rfl rfl rfl ?_
       refine V_as rfl rfl ?_
       refine V_to (fun _ _ => rfl) ?_
       refine C_seq ?_
       refine C_region ?_
       refine V_mv rfl rfl ?_
       refine V_mv rfl rfl ?_
       refine V_mv rfl rfl ?_
       obtain ⟨x82, hx82, h69⟩ := Option.bind_eq_some_iff.1 h69
       refine V_y (Y_quoK hx82 rfl rfl) rfl rfl rfl ?_
       refine V_y (Y_convU32 Tryd.underlying73 Tryd.underlying75 rfl) rfl rfl rfl ?_
       refine V_indexAddrH (α := UInt32) (e := 75) (v := v64) (l := s62.1) hH (i := 1) rfl hx77 Tryd.underlying39 Tryd.sizeOf75 rfl rfl rfl ?_
       intro b83 o84 h85 hl86
       obtain ⟨x87, hx87, h69⟩ := Option.bind_eq_some_iff.1 h69
       refine V_storeH (Dw := Dw) (α := UInt32) (e := 75) (v := v64) (l := s62.1) hH (i := 1) rfl hl86 hx87 rfl Tryd.sizeOf75 rfl hB hA rfl rfl ?_
       intro w88 hH89 ht90
       replace hr53 := Tr.trans hr53 ht90
       replace hH : Hp w.heap.size A66 w88 (obS (α := UInt8) 5 v25 s23.1 :: obS (α := UInt32) 75 v64 x87 :: []) := hH89
       refine V_to (fun _ _ => rfl) ?_
       refine C_region ?_
       refine V_mv rfl rfl ?_
       obtain ⟨x91, hx91, h69⟩ := Option.bind_eq_some_iff.1 h69
       refine V_y (Y_remK hx91 rfl rfl) rfl rfl rfl ?_
       refine V_as rfl rfl ?_
       refine V_to (fun _ _ => rfl) ?_
       refine C_region ?_
       refine V_mv rfl rfl ?_
       refine V_y (Y_subI rfl rfl) rfl rfl rfl ?_
       refine V_as rfl rfl ?_
       obtain rfl := Option.some.inj h69
       refine V_end (fun a ha92 => ?_)
       exact ⟨(x87, x91, w64 (s62.2.2 - 1)), h70, ⟨(v64, A66), ha92.sub ⟨rfl, rfl, rfl, rfl, trivial⟩, ⟨hH, hr53⟩⟩⟩
      ·rw [if_neg (nt hc75)] at h69
       obtain rfl := Option.some.inj h69
       refine C_exit (fun a ha93 => ?_)
       exact ⟨((s62.1, s62.2.1, s62.2.2), v64, A66), ha93.sub ⟨rfl, rfl, rfl, trivial⟩, ⟨h70.symm, hH, hr53⟩⟩
     rintro ⟨s52, v58, A60⟩ w55 ⟨rfl, hH61, hk56⟩ a ha57
     rw [Lp.andThen_fin] at ho39
     replace hr41 := Tr.trans hr41 hk56
     replace hB := Nat.le_trans hB hk56.ex.size
     replace hA := hk56.new
     replace hH : Hp w.heap.size A60 w55 (obS (α := UInt8) 5 v25 s23.1 :: obS (α := UInt32) 75 v58 s52.1 :: []) := hH61
     refine C_at (n := ⟨91, [], none⟩) (fun _ _ => rfl) ?_ ha57
     refine C_seq ?_
     refine C_region ?_
     refine V_mv rfl rfl ?_
     replace hH : Hp w.heap.size A60 w55 (obS (α := UInt32) 75 v58 s52.1 :: obS (α := UInt8) 5 v25 s23.1 :: []) := Hp.front hH (i := 1) rfl
     obtain ⟨x95, hx95, ho39⟩ := Option.bind_eq_some_iff.1 ho39
     refine V_call Tryd.call44 rfl rfl rfl rfl (portref2_whole_trim_c (Dw := Dw) w55 hB hA s52.1 v58 hH hx95) ?_
     rintro v96 w98 ⟨_, A99, rfl, hH100, ht101⟩
     replace hr41 := Tr.trans hr41 ht101
     replace hB := Nat.le_trans hB ht101.ex.size
     replace hA := ht101.new
     replace hH : Hp w.heap.size A99 w98 (obS (α := UInt32) 75 v96 x95 :: obS (α := UInt8) 5 v25 s23.1 :: []) := hH100
     refine V_as rfl rfl ?_
     refine V_to (fun _ _ => rfl) ?_
     refine C_seq ?_
     refine C_region ?_
     refine V_as rfl rfl ?_
     refine V_to (fun _ _ => rfl) ?_
     obtain ⟨o102, ho102, ho39⟩ := Option.bind_eq_some_iff.1 ho39
     refine C_cutG (ι := (((List UInt8) × Int × Int) × Value × (Nat → Prop))) (fun ⟨s103, v109, A111⟩ => [(3, v109), (4, v96)]) (fun ⟨s103, v109, A111⟩ => fun w' => o102 = .fin s103 ∧ Hp w.heap.size A111 w' (obS (α := UInt32) 75 v96 x95 :: obS (α := UInt8) 5 v109 s103.1 :: []) ∧ Tr Dw w.heap.size A99 w98 A111 w') ?_ ?_
     ·refine C_block ?_
      refine C_while ho102 (fun s113 a w' => ∃ i : (Value × (Nat → Prop)), Has ⟨91, [], none⟩ a ([(3, i.1), (4, v96), (5, .int .u64 s113.2.1), (7, .int .i64 s113.2.2)]) ∧ Hp w.heap.size i.2 w' (obS (α := UInt32) 75 v96 x95 :: obS (α := UInt8) 5 i.1 s113.1 :: []) ∧ Tr Dw w.heap.size A99 w98 i.2 w') (fun a ha => ⟨(v25, A99), ha.sub ⟨rfl, rfl, rfl, rfl, trivial⟩, ⟨hH, Tr.refl (Dw := Dw) hA⟩⟩) ?_
      rintro K s113 a w114 ⟨⟨v115, A117⟩, ha147, hH118, hr104⟩ K125
      refine C_of ?_ ha147
      replace hB := Nat.le_trans hB hr104.ex.size
      replace hA := hr104.new
      replace hH : Hp w.heap.size A117 w114 (obS (α := UInt32) 75 v96 x95 :: obS (α := UInt8) 5 v115 s113.1 :: []) := hH118
      obtain ⟨x119, h120, h121⟩ := K125
      refine C_seq ?_
      refine C_seq ?_
      refine C_region ?_
      refine V_mv rfl rfl ?_
      refine V_y (Y_lss rfl rfl) rfl rfl rfl ?_
      refine V_mv rfl rfl ?_
      refine V_cut 8 (fun _ : Unit => [(3, v115), (4, v96), (5, .int .u64 s113.2.1), (7, .int .i64 s113.2.2), (53, .bool ((decide (s113.2.2 < 9)) && ((decide ((0 : Int) < (x95.length : Int))) || (decide ((0 : Int) < s113.2.1)))))]) (fun _ w' => w114 = w') ?_ ?_
      ·simp only [List.take, List.drop]
       rcases Bool.eq_false_or_eq_true (decide (s113.2.2 < 9)) with hc126 | hc126
       ·refine V_ge rfl rfl rfl hc126 ?_
        refine V_mv rfl rfl ?_
        refine V_ge rfl rfl rfl hc126 ?_
        refine V_y (Y_lenSl (Hp.any (α := UInt32) (e := 75) (v := v96) (l := x95) hH (i := 0) rfl) rfl Tryd.underlying39 rfl) rfl rfl rfl ?_
        refine V_ge rfl rfl rfl hc126 ?_
        refine V_y (Y_gtr rfl rfl) rfl rfl rfl ?_
        refine V_ge rfl rfl rfl hc126 ?_
        refine V_mv rfl rfl ?_
        refine V_cut 3 (fun _ : Unit => [(3, v115), (4, v96), (5, .int .u64 s113.2.1), (7, .int .i64 s113.2.2), (45, .bool (decide (s113.2.2 < 9))), (52, .bool ((decide ((0 : Int) < (x95.length : Int))) || (decide ((0 : Int) < s113.2.1))))]) (fun _ w' => w114 = w') ?_ ?_
        ·simp only [List.take, List.drop]
         rcases Bool.eq_false_or_eq_true (decide ((0 : Int) < (x95.length : Int))) with hc128 | hc128
         ·refine V_gn rfl rfl rfl hc128 rfl rfl rfl ?_
          refine V_gn rfl rfl rfl hc128 rfl rfl rfl ?_
          refine V_ge rfl rfl rfl hc126 ?_
          refine V_y (Y_pick_te rfl hc128 rfl) rfl rfl rfl ?_
          exact V_end fun a ha => ⟨(), ha.sub ⟨rfl, rfl, rfl, rfl, rfl, (by rw [hc128]; rfl), trivial⟩, rfl⟩
         ·refine V_ge rfl rfl rfl hc128 ?_
          refine V_mv rfl rfl ?_
          refine V_ge rfl rfl rfl hc128 ?_
          refine V_y (Y_gtr rfl rfl) rfl rfl rfl ?_
          refine V_ge rfl rfl rfl hc126 ?_
          refine V_y (Y_pick_fe rfl hc128 rfl) rfl rfl rfl ?_
          exact V_end fun a ha => ⟨(), ha.sub ⟨rfl, rfl, rfl, rfl, rfl, (by rw [hc128]; rfl), trivial⟩, rfl⟩
        simp only [List.take, List.drop]
        rintro _ _ rfl
        refine V_y (Y_pick_te rfl hc126 rfl) rfl rfl rfl ?_
        exact V_end fun a ha => ⟨(), ha.sub ⟨rfl, rfl, rfl, rfl, (by rw [hc126]; rfl), trivial⟩, rfl⟩
       ·refine V_gn rfl rfl rfl hc126 rfl rfl rfl ?_
        refine V_gn rfl rfl rfl hc126 rfl rfl rfl ?_
        refine V_gn rfl rfl rfl hc126 rfl rfl rfl ?_
        refine V_gn rfl rfl rfl hc126 rfl rfl rfl ?_
        refine V_gu rfl rfl rfl rfl rfl ?_
        refine V_gu rfl rfl rfl rfl rfl ?_
        refine V_gn rfl rfl rfl hc126 rfl rfl rfl ?_
        refine V_y (Y_pick_fe rfl hc126 rfl) rfl rfl rfl ?_
        exact V_end fun a ha => ⟨(), ha.sub ⟨rfl, rfl, rfl, rfl, (by rw [hc126]; rfl), trivial⟩, rfl⟩
      simp only [List.take, List.drop]
      rintro _ _ rfl
      refine V_to (fun _ _ => rfl) ?_
      refine C_cond rfl (fun hc130 => ?_) (fun hc130 => ?_)
      ·rw [if_pos hc130] at h120
       refine C_skip_to (fun _ _ => rfl) ?_
       refine C_seq ?_
       refine C_block ?_
       refine C_seq ?_
       refine C_region ?_
       refine V_mv rfl rfl ?_
       refine V_mv rfl rfl ?_
       obtain ⟨x131, hx131, h120⟩ := Option.bind_eq_some_iff.1 h120
       refine V_y (Y_remK hx131 rfl rfl) rfl rfl rfl ?_
       refine V_y (Y_add rfl rfl) rfl rfl rfl ?_
       refine V_y (Y_convU8 Tryd.underlying73 Tryd.underlying5 rfl) rfl rfl rfl ?_
       refine V_buildSlice (Dw := Dw) (cells := #[.int .u8 ((toU8 (IntKind.wrap .u64 (48 + x131))).toNat : Int)]) (l := ([(toU8 (IntKind.wrap .u64 (48 + x131)))] : List UInt8)) (len := 1) Tryd.underlying72 Tryd.sizeOf5 Tryd.zeroValue5 rfl (by generalize (((toU8 (IntKind.wrap .u64 (48 + x131))).toNat : Int) : Int) = z136; kernel_rfl) (show (1 * 1 : Nat) ≠ 0 by decide) (show (1 * 1 : Nat) ≤ 2 ^ 24 by decide) hA ⟨[.int .u8 ((toU8 (IntKind.wrap .u64 (48 + x131))).toNat : Int)], _, rfl, rfl, rfl⟩ rfl rfl ?_
       intro v132 w133 hk135 h134
       have ht137 := Kp.tr hk135 hA hB
       replace hH := Hp.kp hH hk135
       replace hr104 := Tr.trans hr104 ht137
       replace hB := Nat.le_trans hB ht137.ex.size
       replace hA := ht137.new
       obtain ⟨x138, hx138, h120⟩ := Option.bind_eq_some_iff.1 h120
       refine V_appendH (Dw := Dw) (e := 5) (v := v115) (l := s113.1) (ti := Tryd.t5) (bytes := 1) (lim := 140737488355328) hH (i := 1) rfl h134 hx138 Tryd.underlying72 Tryd_info5 rfl rfl rfl rfl (by decide) (by decide) (by decide) hB hA rfl rfl rfl ?_
       intro v139 w140 A141 hH142 ht143
       replace hr104 := Tr.trans hr104 ht143
       replace hH : Hp w.heap.size A141 w140 (obS (α := UInt32) 75 v96 x95 :: obS (α := UInt8) 5 v139 x138 :: []) := hH142
       refine V_as rfl rfl ?_
       refine V_to (fun _ _ => rfl) ?_
       refine C_region ?_
       refine V_mv rfl rfl ?_
       obtain ⟨x144, hx144, h120⟩ := Option.bind_eq_some_iff.1 h120
       refine V_y (Y_quoK hx144 rfl rfl) rfl rfl rfl ?_
       refine V_as rfl rfl ?_
       refine V_to (fun _ _ => rfl) ?_
       refine C_region ?_
       refine V_mv rfl rfl ?_
       refine V_y (Y_addI rfl rfl) rfl rfl rfl ?_
       refine V_as rfl rfl ?_
       obtain rfl := Option.some.inj h120
       refine V_end (fun a ha145 => ?_)
       exact ⟨(x138, x144, w64 (s113.2.2 + 1)), h121, ⟨(v139, A141), ha145.sub ⟨rfl, rfl, rfl, rfl, trivial⟩, ⟨hH, hr104⟩⟩⟩
      ·rw [if_neg (nt hc130)] at h120
       obtain rfl := Option.some.inj h120
       refine C_exit (fun a ha146 => ?_)
       exact ⟨((s113.1, s113.2.1, s113.2.2), v115, A117), ha146.sub ⟨rfl, rfl, trivial⟩, ⟨h121.symm, hH, hr104⟩⟩
     rintro ⟨s103, v109, A111⟩ w106 ⟨rfl, hH112, hk107⟩ a ha108
     rw [Lp.andThen_fin] at ho39
     replace hr41 := Tr.trans hr41 hk107
     replace hA := hk107.new
     replace hH : Hp w.heap.size A111 w106 (obS (α := UInt32) 75 v96 x95 :: obS (α := UInt8) 5 v109 s103.1 :: []) := hH112
     obtain rfl := Option.some.inj ho39
     replace hH : Hp w.heap.size A111 w106 (obS (α := UInt8) 5 v109 s103.1 :: obS (α := UInt32) 75 v96 x95 :: []) := Hp.front hH (i := 1) rfl
     exact ⟨(v109, v96, A111), ha108.sub ⟨rfl, rfl, trivial⟩, ⟨hH, hr41⟩⟩
    rintro ⟨v42, v44, A49⟩ w46 ⟨hH50, hk47⟩ a ha48
    replace hr12 := Tr.trans hr12 hk47
    replace hA := hk47.new
    replace hH : Hp w.heap.size A49 w46 (obS (α := UInt8) 5 v42 s40.1 :: obS (α := UInt32) 75 v44 s40.2 :: []) := hH50
    obtain rfl := Option.some.inj h32
    exact ⟨(s40.1, s40.2), h33, ⟨(v42, v44, A49), ha48.sub ⟨rfl, rfl, trivial⟩, ⟨hH, hr12⟩⟩⟩
   ·rw [if_neg (nt hc38)] at h32
    obtain rfl := Option.some.inj h32
    refine C_exit (fun a ha150 => ?_)
    exact ⟨((s23.1, s23.2), v25, v27, A29), ha150.sub ⟨rfl, trivial⟩, ⟨h33.symm, hH, hr12⟩⟩
  rintro ⟨s11, v17, v19, A21⟩ w14 ⟨rfl, hH22, hk15⟩ a ha16
  rw [Lp.andThen_fin] at hm
  replace hK := Tr.trans hK hk15
  replace hB := Nat.le_trans hB hk15.ex.size
  replace hA := hk15.new
  replace hH : Hp w.heap.size A21 w14 (obS (α := UInt8) 5 v17 s11.1 :: obS (α := UInt32) 75 v19 s11.2 :: []) := hH22
  refine C_at (n := ⟨91, [], none⟩) (fun _ _ => rfl) ?_ ha16
  refine C_seq ?_
  refine C_seq ?_
  refine C_region ?_
  refine V_mv rfl rfl ?_
  refine V_y (Y_lenSl (Hp.any (α := UInt8) (e := 5) (v := v17) (l := s11.1) hH (i := 0) rfl) rfl Tryd.underlying72 rfl) rfl rfl rfl ?_
  refine V_y (Y_subI rfl rfl) rfl rfl rfl ?_
  refine V_as rfl rfl ?_
  refine V_as rfl rfl ?_
  refine V_to (fun _ _ => rfl) ?_
  obtain ⟨o152, ho152, hm⟩ := Option.bind_eq_some_iff.1 hm
  refine C_cutG (ι := (((List UInt8) × Int × Int) × Value × (Nat → Prop))) (fun ⟨s153, v159, A161⟩ => [(3, v159)]) (fun ⟨s153, v159, A161⟩ => fun w' => o152 = .fin s153 ∧ Hp w.heap.size A161 w' (obS (α := UInt8) 5 v159 s153.1 :: obS (α := UInt32) 75 v19 s11.2 :: []) ∧ Tr Dw w.heap.size A21 w14 A161 w') ?_ ?_
  ·refine C_block ?_
   refine C_while ho152 (fun s163 a w' => ∃ i : (Value × (Nat → Prop)), Has ⟨91, [], none⟩ a ([(3, i.1), (8, .int .i64 s163.2.1), (9, .int .i64 s163.2.2)]) ∧ Hp w.heap.size i.2 w' (obS (α := UInt8) 5 i.1 s163.1 :: obS (α := UInt32) 75 v19 s11.2 :: []) ∧ Tr Dw w.heap.size A21 w14 i.2 w') (fun a ha => ⟨(v17, A21), ha.sub ⟨rfl, rfl, rfl, trivial⟩, ⟨hH, Tr.refl (Dw := Dw) hA⟩⟩) ?_
   rintro K s163 a w164 ⟨⟨v165, A167⟩, ha209, hH168, hr154⟩ K175
   refine C_of ?_ ha209
   replace hB := Nat.le_trans hB hr154.ex.size
   replace hA := hr154.new
   replace hH : Hp w.heap.size A167 w164 (obS (α := UInt8) 5 v165 s163.1 :: obS (α := UInt32) 75 v19 s11.2 :: []) := hH168
   obtain ⟨x169, h170, h171⟩ := K175
   refine C_seq ?_
   refine C_seq ?_
   refine C_region ?_
   refine V_mv rfl rfl ?_
   refine V_mv rfl rfl ?_
   refine V_y (Y_lss rfl rfl) rfl rfl rfl ?_
   refine V_to (fun _ _ => rfl) ?_
   refine C_cond rfl (fun hc176 => ?_) (fun hc176 => ?_)
   ·rw [if_pos hc176] at h170
    refine C_skip_to (fun _ _ => rfl) ?_
    refine C_seq ?_
    refine C_block ?_
    refine C_region_ch (Dw := Dw) A167 16 [(1, 0), (1, 1), (1, 2), (1, 3), (1, 4), (1, 5), (0, 6), (0, 7), (1, 8), (1, 9), (0, 10), (0, 11), (0, 12), (4, 13), (0, 14), (4, 15)] Tryd_mixed (by kernel_rfl) (fun w177 hk178 => ?_)
    have ht179 := Kp.tr hk178 hA hB
    replace hH := Hp.kp hH hk178
    replace hr154 := Tr.trans hr154 ht179
    replace hB := Nat.le_trans hB ht179.ex.size
    replace hA := ht179.new
    refine CH_q2 (Dw := Dw) rfl ?_
    refine VQ_y (fun w' hw' => Y_move rfl) rfl rfl rfl ?_
    refine VQ_CH (Dw := Dw) ?_
    refine CH_q2 (Dw := Dw) rfl ?_
    refine VQ_y (fun w' hw' => Y_move rfl) rfl rfl rfl ?_
    refine VQ_CH (Dw := Dw) ?_
    refine CH_q2 (Dw := Dw) rfl ?_
    refine VQ_y (fun w' hw' => Y_move rfl) rfl rfl rfl ?_
    refine VQ_CH (Dw := Dw) ?_
    refine CH_q2 (Dw := Dw) rfl ?_
    refine VQ_y (fun w' hw' => Y_move rfl) rfl rfl rfl ?_
    refine VQ_CH (Dw := Dw) ?_
    refine CH_q2 (Dw := Dw) rfl ?_
    refine VQ_y (fun w' hw' => Y_move rfl) rfl rfl rfl ?_
    refine VQ_CH (Dw := Dw) ?_
    refine CH_q2 (Dw := Dw) rfl ?_
    refine VQ_y (fun w' hw' => Y_move rfl) rfl rfl rfl ?_
    refine VQ_CH (Dw := Dw) ?_
    refine CH_q1 (Dw := Dw) rfl ?_
    obtain ⟨x180, hx180, h170⟩ := Option.bind_eq_some_iff.1 h170
    refine VQ_indexAddrH (α := UInt8) (e := 5) (v := v165) (l := s163.1) hH (i := 0) rfl hx180 Tryd.underlying72 Tryd.sizeOf5 rfl rfl rfl ?_
    intro b181 o182 h183 hl184
    refine VQ_CH (Dw := Dw) ?_
    refine CH_q1 (Dw := Dw) rfl ?_
    refine VQ_y (fun w' hw' => Y_load (El.u8 (El.kp (Dw := Dw) h183 hw')) Tryd.isAgg5 rfl) rfl rfl rfl ?_
    refine VQ_CH (Dw := Dw) ?_
    refine CH_q2 (Dw := Dw) rfl ?_
    refine VQ_y (fun w' hw' => Y_move rfl) rfl rfl rfl ?_
    refine VQ_CH (Dw := Dw) ?_
    refine CH_q2 (Dw := Dw) rfl ?_
    refine VQ_y (fun w' hw' => Y_move rfl) rfl rfl rfl ?_
    refine VQ_CH (Dw := Dw) ?_
    refine CH_q1 (Dw := Dw) rfl ?_
    obtain ⟨x185, hx185, h170⟩ := Option.bind_eq_some_iff.1 h170
    refine VQ_indexAddrH (α := UInt8) (e := 5) (v := v165) (l := s163.1) hH (i := 0) rfl hx185 Tryd.underlying72 Tryd.sizeOf5 rfl rfl rfl ?_
    intro b186 o187 h188 hl189
    refine VQ_CH (Dw := Dw) ?_
    refine CH_q1 (Dw := Dw) rfl ?_
    refine VQ_y (fun w' hw' => Y_load (El.u8 (El.kp (Dw := Dw) h188 hw')) Tryd.isAgg5 rfl) rfl rfl rfl ?_
    refine VQ_CH (Dw := Dw) ?_
    refine CH_q1 (Dw := Dw) rfl ?_
    refine VQ_indexAddrH (α := UInt8) (e := 5) (v := v165) (l := s163.1) hH (i := 0) rfl hx185 Tryd.underlying72 Tryd.sizeOf5 rfl rfl rfl ?_
    intro b190 o191 h192 hl193
    refine VQ_CH (Dw := Dw) ?_
    refine CH_l1 (Dw := Dw) (k := 2) rfl ?_
    obtain ⟨x194, hx194, h170⟩ := Option.bind_eq_some_iff.1 h170
    refine V_storeH (Dw := Dw) (α := UInt8) (e := 5) (v := v165) (l := s163.1) hH (i := 0) rfl hl193 hx194 rfl Tryd.sizeOf5 rfl hB hA rfl rfl ?_
    intro w195 hH196 ht197
    replace hr154 := Tr.trans hr154 ht197
    replace hB := Nat.le_trans hB ht197.ex.size
    replace hA := ht197.new
    replace hH : Hp w.heap.size A167 w195 (obS (α := UInt8) 5 v165 x194 :: obS (α := UInt32) 75 v19 s11.2 :: []) := hH196
    refine V_CHw (Dw := Dw) ?_
    refine CH_q1 (Dw := Dw) rfl ?_
    obtain ⟨x198, hx198, h170⟩ := Option.bind_eq_some_iff.1 h170
    refine VQ_indexAddrH (α := UInt8) (e := 5) (v := v165) (l := x194) hH (i := 0) rfl hx198 Tryd.underlying72 Tryd.sizeOf5 rfl rfl rfl ?_
    intro b199 o200 h201 hl202
    refine VQ_CH (Dw := Dw) ?_
    refine CH_l1 (Dw := Dw) (k := 2) rfl ?_
    obtain ⟨x203, hx203, h170⟩ := Option.bind_eq_some_iff.1 h170
    refine V_storeH (Dw := Dw) (α := UInt8) (e := 5) (v := v165) (l := x194) hH (i := 0) rfl hl202 hx203 rfl Tryd.sizeOf5 rfl hB hA rfl rfl ?_
    intro w204 hH205 ht206
    replace hr154 := Tr.trans hr154 ht206
    replace hH : Hp w.heap.size A167 w204 (obS (α := UInt8) 5 v165 x203 :: obS (α := UInt32) 75 v19 s11.2 :: []) := hH205
    refine V_CHw (Dw := Dw) ?_
    refine CH_tail (Dw := Dw) ?_
    show V _ _ _ _ [] _ _
    refine V_to (fun _ _ => rfl) ?_
    refine C_region ?_
    refine V_mv rfl rfl ?_
    refine V_y (Y_addI rfl rfl) rfl rfl rfl ?_
    refine V_mv rfl rfl ?_
    refine V_y (Y_subI rfl rfl) rfl rfl rfl ?_
    refine V_as rfl rfl ?_
    refine V_as rfl rfl ?_
    obtain rfl := Option.some.inj h170
    refine V_end (fun a ha207 => ?_)
    exact ⟨(x203, w64 (s163.2.1 + 1), w64 (s163.2.2 - 1)), h171, ⟨(v165, A167), ha207.sub ⟨rfl, rfl, rfl, trivial⟩, ⟨hH, hr154⟩⟩⟩
   ·rw [if_neg (nt hc176)] at h170
    obtain rfl := Option.some.inj h170
    refine C_exit (fun a ha208 => ?_)
    exact ⟨((s163.1, s163.2.1, s163.2.2), v165, A167), ha208.sub ⟨rfl, trivial⟩, ⟨h171.symm, hH, hr154⟩⟩
  rintro ⟨s153, v159, A161⟩ w156 ⟨rfl, hH162, hk157⟩ a ha158
  rw [Lp.andThen_fin] at hm
  replace hK := Tr.trans hK hk157
  replace hA := hk157.new
  replace hH : Hp w.heap.size A161 w156 (obS (α := UInt8) 5 v159 s153.1 :: obS (α := UInt32) 75 v19 s11.2 :: []) := hH162
  refine C_at (n := ⟨91, [], none⟩) (fun _ _ => rfl) ?_ ha158
  refine C_seq ?_
  refine C_region ?_
  refine V_mv rfl rfl ?_
  obtain ⟨A210, ht211, h212, hH213⟩ := Hp.freeze (Dw := Dw) (α := UInt8) (v := v159) (l := s153.1) hH (i := 0) rfl hA
  replace hK := Tr.trans hK ht211
  replace hH : Hp w.heap.size A210 w156 (obS (α := UInt32) 75 v19 s11.2 :: []) := hH213
  refine V_y (Y_convBS (l := s153.1) h212 Tryd.underlying72 Tryd.underlying5 Tryd.underlying9 rfl) rfl rfl rfl ?_
  refine V_as rfl rfl ?_
  refine V_to (fun _ _ => rfl) ?_
  obtain rfl := Option.some.inj hm
  refine C_ret ?_
  try simp only [↓inBlock_ret, ↓then_ret]
  exact retQ rfl (Res.one Tryd.results28 rfl) ⟨rfl, hK.kp⟩

set_option maxRecDepth 4000 in
set_option maxHeartbeats 4000000 in
theorem portref2_ratioOf_c (w : World) {A : Nat → Prop} (hA : ∀ b, w.heap.size ≤ b → A b) (x : portref2_ratio) (v_x0 : Value) (h_x0 : Sl A w v_x0 x.num) (v_x1 : Value) (h_x1 : Sl A w v_x1 x.den) {r : staff_Ratio} (hm : portref2_ratioOf x = some r) : Ret Tryd.prog 13 #[.agg #[v_x0, v_x1]] w fun v w' => v = .agg #[.string r.num, .string r.den] ∧ Kp Dw w w' := by
 unfold portref2_ratioOf at hm
 refine enter Tryd.func13 rfl Tryd.ntmps13 rfl ?_
 have hA0 := hA
 have hB := Nat.le_refl w.heap.size
 have hK : Tr Dw w.heap.size A w A w := Tr.refl (Dw := Dw) hA
 have hH : Hp w.heap.size A w [] := Hp.nil
 refine C_seq ?_
 refine C_region ?_
 refine V_box rfl rfl ?_
 intro b5 w6 h7
 have hk9 := h7.kp (Dw := Dw)
 have h8 : El (α := portref2_ratio) A w6 b5 0 x := h7.el hA ⟨[v_x0], _, rfl, ⟨_, rfl, h_x0⟩, ⟨_, rfl, h_x1⟩⟩
 have ht10 := Kp.tr hk9 hA hB
 replace hH := Hp.kp hH hk9
 replace hK := Tr.trans hK ht10
 replace hB := Nat.le_trans hB ht10.ex.size
 replace hA := ht10.new
 refine V_allocH (Dw := Dw) (B := w.heap.size) hH Tryd.zeroValue25 hB hA rfl ?_
 intro b11 w12 A13 hH14 ht15
 replace h8 := El.tr h8 ht15
 replace hK := Tr.trans hK ht15
 replace hB := Nat.le_trans hB ht15.ex.size
 replace hA := ht15.new
 replace hH : Hp w.heap.size A13 w12 (obC b11 [.string ByteArray.empty, .string ByteArray.empty] 25 :: []) := hH14
 refine V_to (fun _ _ => rfl) ?_
 refine C_seq ?_
 refine C_region_qt (Dw := Dw) 7 Tryd_mixed (by kernel_rfl) ?_
 simp only [List.take, List.drop]
 have h16 := El_portref2_ratio_0 h8
 refine VQ_y (fun w' hw' => Y_fieldAddr Tryd.underlying41 rfl Tryd.sizeOf39 (by decide) rfl) rfl rfl rfl ?_
 obtain ⟨v17, h18, h19⟩ := El.list h16
 refine VQ_y (fun w' hw' => Y_load ((World.cell?_of_block (hw'.block _ (World.block_lt_of_cell? _ _ h18))).trans h18) Tryd.isAgg39 rfl) rfl rfl rfl ?_
 obtain ⟨x20, hx20, hm⟩ := Option.bind_eq_some_iff.1 hm
 refine VQ_call (.string x20) Tryd.call28 rfl rfl rfl rfl (fun w' hw' => (portref2_whole_text_c (Dw := Dw) w' (fun b hb => hA b (Nat.le_trans hw'.size hb)) x.num v17 (Sl.kp (Dw := Dw) h19 hw') hx20).mono (fun _ _ h => ⟨h.1, Kp.trans (Dw := Dw) hw' h.2⟩)) ?_
 have h21 := El_portref2_ratio_1 h8
 refine VQ_y (fun w' hw' => Y_fieldAddr Tryd.underlying41 rfl Tryd.sizeOf39 (by decide) rfl) rfl rfl rfl ?_
 obtain ⟨v22, h23, h24⟩ := El.list h21
 refine VQ_y (fun w' hw' => Y_load ((World.cell?_of_block (hw'.block _ (World.block_lt_of_cell? _ _ h23))).trans h23) Tryd.isAgg39 rfl) rfl rfl rfl ?_
 obtain ⟨x25, hx25, hm⟩ := Option.bind_eq_some_iff.1 hm
 refine VQ_call (.string x25) Tryd.call28 rfl rfl rfl rfl (fun w' hw' => (portref2_whole_text_c (Dw := Dw) w' (fun b hb => hA b (Nat.le_trans hw'.size hb)) x.den v22 (Sl.kp (Dw := Dw) h24 hw') hx25).mono (fun _ _ h => ⟨h.1, Kp.trans (Dw := Dw) hw' h.2⟩)) ?_
 refine VQ_y (fun w' hw' => Y_build Tryd.underlying25 Tryd.zeroValue25 (Tryd_places25 _ Tryd.underlying25) rfl (by with_unfolding_all rfl)) rfl rfl rfl ?_
 refine VQ_tail (fun w26 hk27 => ?_)
 try simp only [List.take, List.drop]
 have ht28 := Kp.tr hk27 hA hB
 replace hH := Hp.kp hH hk27
 replace hK := Tr.trans hK ht28
 replace hB := Nat.le_trans hB ht28.ex.size
 replace hA := ht28.new
 refine V_storeC (Dw := Dw) (off := 0) (ds := [.string x20, .string x25]) hH (i := 0) rfl Tryd.sizeOf25 rfl (Nat.le_of_ble_eq_true rfl) (by simp [Value.cells, Value.oneCell']) rfl hB hA rfl rfl ?_
 intro w29 hH30 ht31
 replace hK := Tr.trans hK ht31
 replace hH : Hp w.heap.size A13 w29 (obC b11 [.string x20, .string x25] 25 :: []) := hH30
 refine V_to (fun _ _ => rfl) ?_
 obtain rfl := Option.some.inj hm
 refine C_ret ?_
 try simp only [↓inBlock_ret, ↓then_ret]
 exact retQ rfl (Res.l1 Tryd.results13 (RL.cell rfl (loadVar_agg (Hp.part (off := 0) (n := 2) (ds := [.string x20, .string x25]) hH (i := 0) rfl rfl) Tryd.isAgg25 Tryd.sizeOf25))) ⟨rfl, hK.kp⟩

set_option maxRecDepth 4000 in
set_option maxHeartbeats 4000000 in
theorem portref2_whole_times_c (w : World) {A : Nat → Prop} (hA : ∀ b, w.heap.size ≤ b → A b) (a_ : (List UInt32)) (v_a_ : Value) (h_a_ : Sl A w v_a_ a_) (b : (List UInt32)) (v_b : Value) (h_b : Sl A w v_b b) {r : (List UInt32)} (hm : portref2_whole_times a_ b = some r) : Ret Tryd.prog 31 #[v_a_, v_b] w fun v w' => ∃ s0, v = s0 ∧ Ownd 75 w w' s0 r ∧ Kp Dw w w' := by
 unfold portref2_whole_times at hm
 refine enter Tryd.func31 rfl Tryd.ntmps31 rfl ?_
 have hA0 := hA
 have hB := Nat.le_refl w.heap.size
 have hK : Tr Dw w.heap.size A w A w := Tr.refl (Dw := Dw) hA
 have hH : Hp w.heap.size A w [] := Hp.nil
 refine C_seq ?_
 refine C_region ?_
 refine V_as rfl rfl ?_
 refine V_to (fun _ _ => rfl) ?_
 refine C_seq ?_
 refine C_region ?_
 refine V_mv rfl rfl ?_
 refine V_y (Y_lenSl h_a_ rfl Tryd.underlying39 rfl) rfl rfl rfl ?_
 refine V_mv rfl rfl ?_
 refine V_y (Y_lenSl h_b rfl Tryd.underlying39 rfl) rfl rfl rfl ?_
 refine V_y (Y_addI rfl rfl) rfl rfl rfl ?_
 obtain ⟨x5, hx5, hm⟩ := Option.bind_eq_some_iff.1 hm
 refine V_makeH (Dw := Dw) (e := 75) (ti := Tryd.t75) hH hx5 (fun _ _ => rfl) Tryd.underlying39 Tryd_info75 rfl rfl rfl (by decide) (by decide) hB hA rfl rfl rfl ?_
 intro v6 w7 A8 hH9 ht10
 replace h_a_ := Sl.tr h_a_ ht10
 replace h_b := Sl.tr h_b ht10
 replace hK := Tr.trans hK ht10
 replace hB := Nat.le_trans hB ht10.ex.size
 replace hA := ht10.new
 replace hH : Hp w.heap.size A8 w7 (obS (α := UInt32) 75 v6 x5 :: []) := hH9
 refine V_as rfl rfl ?_
 refine V_to (fun _ _ => rfl) ?_
 refine C_seq ?_
 refine C_seq ?_
 refine C_region ?_
 refine V_mv rfl rfl ?_
 refine V_y (Y_lenSl h_a_ rfl Tryd.underlying39 rfl) rfl rfl rfl ?_
 refine V_mv rfl rfl ?_
 refine V_to (fun _ _ => rfl) ?_
 have hn35 := Sl.le h_a_
 obtain ⟨o11, ho11, hm⟩ := Option.bind_eq_some_iff.1 hm
 refine C_cutG (ι := ((List UInt32) × Value × (Nat → Prop))) (fun ⟨s12, v18, A20⟩ => [(5, v18)]) (fun ⟨s12, v18, A20⟩ => fun w' => o11 = .fin s12 ∧ Hp w.heap.size A20 w' (obS (α := UInt32) 75 v18 s12 :: []) ∧ Tr Dw w.heap.size A8 w7 A20 w') ?_ ?_
 ·refine C_block ?_
  refine C_range ho11 (fun k14 s22 a w' => ∃ i : (Value × (Nat → Prop)), Has ⟨67, [], none⟩ a ([(0, v_a_), (1, v_b), (5, i.1), (16, .int .i64 (a_.length : Int)), (17, .int .i64 (k14 : Int))]) ∧ Hp w.heap.size i.2 w' (obS (α := UInt32) 75 i.1 s22 :: []) ∧ Tr Dw w.heap.size A8 w7 i.2 w') (fun a ha => ⟨(v6, A8), ha.sub ⟨rfl, rfl, rfl, rfl, rfl, trivial⟩, ⟨hH, Tr.refl (Dw := Dw) hA⟩⟩) ?_
  rintro K k14 s22 a w23 ⟨⟨v24, A26⟩, ha102, hH27, hr13⟩ hle31 K34 h33
  refine C_of ?_ ha102
  replace h_a_ := Sl.tr h_a_ hr13
  replace h_b := Sl.tr h_b hr13
  replace hB := Nat.le_trans hB hr13.ex.size
  replace hA := hr13.new
  replace hH : Hp w.heap.size A26 w23 (obS (α := UInt32) 75 v24 s22 :: []) := hH27
  refine C_seq (C_region (V_y (Y_lss rfl rfl) rfl rfl rfl (V_to (fun _ _ => rfl) ?_)))
  refine C_seq ?_
  refine C_cond rfl (fun hc36 => ?_) (fun hc36 => ?_)
  ·have hlt32 := lt_of_dec hc36
   obtain ⟨x28, h29, h30⟩ := K34 hlt32
   refine C_skip_to (fun _ _ => rfl) ?_
   refine C_seq ?_
   refine C_block ?_
   refine C_seq ?_
   refine C_region ?_
   refine V_mv rfl rfl ?_
   refine V_as rfl rfl ?_
   refine V_to (fun _ _ => rfl) ?_
   refine C_seq ?_
   refine C_region ?_
   refine V_as rfl rfl ?_
   refine V_to (fun _ _ => rfl) ?_
   refine C_seq ?_
   refine C_seq ?_
   refine C_region ?_
   refine V_mv rfl rfl ?_
   refine V_y (Y_lenSl h_b rfl Tryd.underlying39 rfl) rfl rfl rfl ?_
   refine V_mv rfl rfl ?_
   refine V_to (fun _ _ => rfl) ?_
   have hn61 := Sl.le h_b
   obtain ⟨o37, ho37, h29⟩ := Option.bind_eq_some_iff.1 h29
   refine C_cutG (ι := (((List UInt32) × Int) × Value × (Nat → Prop))) (fun ⟨s38, v44, A46⟩ => [(0, v_a_), (1, v_b), (5, v44), (6, .int .i64 (k14 : Int)), (7, .int .u64 s38.2), (16, .int .i64 (a_.length : Int)), (17, .int .i64 (k14 : Int))]) (fun ⟨s38, v44, A46⟩ => fun w' => o37 = .fin s38 ∧ Hp w.heap.size A46 w' (obS (α := UInt32) 75 v44 s38.1 :: []) ∧ Tr Dw w.heap.size A26 w23 A46 w') ?_ ?_
   ·refine C_block ?_
    refine C_range ho37 (fun k40 s48 a w' => ∃ i : (Value × (Nat → Prop)), Has ⟨67, [], none⟩ a ([(0, v_a_), (1, v_b), (5, i.1), (6, .int .i64 (k14 : Int)), (7, .int .u64 s48.2), (16, .int .i64 (a_.length : Int)), (17, .int .i64 (k14 : Int)), (21, .int .i64 (b.length : Int)), (22, .int .i64 (k40 : Int))]) ∧ Hp w.heap.size i.2 w' (obS (α := UInt32) 75 i.1 s48.1 :: []) ∧ Tr Dw w.heap.size A26 w23 i.2 w') (fun a ha => ⟨(v24, A26), ha.sub ⟨rfl, rfl, rfl, rfl, rfl, rfl, rfl, rfl, rfl, trivial⟩, ⟨hH, Tr.refl (Dw := Dw) hA⟩⟩) ?_
    rintro K k40 s48 a w49 ⟨⟨v50, A52⟩, ha90, hH53, hr39⟩ hle57 K60 h59
    refine C_of ?_ ha90
    replace h_a_ := Sl.tr h_a_ hr39
    replace h_b := Sl.tr h_b hr39
    replace hB := Nat.le_trans hB hr39.ex.size
    replace hA := hr39.new
    replace hH : Hp w.heap.size A52 w49 (obS (α := UInt32) 75 v50 s48.1 :: []) := hH53
    refine C_seq (C_region (V_y (Y_lss rfl rfl) rfl rfl rfl (V_to (fun _ _ => rfl) ?_)))
    refine C_seq ?_
    refine C_cond rfl (fun hc62 => ?_) (fun hc62 => ?_)
    ·have hlt58 := lt_of_dec hc62
     obtain ⟨x54, h55, h56⟩ := K60 hlt58
     refine C_skip_to (fun _ _ => rfl) ?_
     refine C_seq ?_
     refine C_block ?_
     refine C_seq ?_
     refine C_region ?_
     refine V_mv rfl rfl ?_
     refine V_as rfl rfl ?_
     refine V_to (fun _ _ => rfl) ?_
     refine C_seq ?_
     refine C_region_q (Dw := Dw) Tryd_mixed (by kernel_rfl) ?_
     refine VQ_y (fun w' hw' => Y_move rfl) rfl rfl rfl ?_
     refine VQ_y (fun w' hw' => Y_move rfl) rfl rfl rfl ?_
     refine VQ_y (fun w' hw' => Y_move rfl) rfl rfl rfl ?_
     obtain ⟨x63, hx63, h55⟩ := Option.bind_eq_some_iff.1 h55
     refine VQ_indexAddr h_a_ hx63 Tryd.underlying39 Tryd.sizeOf75 rfl rfl rfl ?_
     intro b64 o65 h66
     refine VQ_y (fun w' hw' => Y_load (El.u32 (El.kp (Dw := Dw) h66 hw')) Tryd.isAgg75 rfl) rfl rfl rfl ?_
     refine VQ_y (fun w' hw' => Y_convI Tryd.underlying75 Tryd.underlying73 rfl) rfl rfl rfl ?_
     refine VQ_y (fun w' hw' => Y_move rfl) rfl rfl rfl ?_
     refine VQ_y (fun w' hw' => Y_move rfl) rfl rfl rfl ?_
     obtain ⟨x67, hx67, h55⟩ := Option.bind_eq_some_iff.1 h55
     refine VQ_indexAddr h_b hx67 Tryd.underlying39 Tryd.sizeOf75 rfl rfl rfl ?_
     intro b68 o69 h70
     refine VQ_y (fun w' hw' => Y_load (El.u32 (El.kp (Dw := Dw) h70 hw')) Tryd.isAgg75 rfl) rfl rfl rfl ?_
     refine VQ_y (fun w' hw' => Y_convI Tryd.underlying75 Tryd.underlying73 rfl) rfl rfl rfl ?_
     refine VQ_y (fun w' hw' => Y_mul rfl rfl) rfl rfl rfl ?_
     refine VQ_y (fun w' hw' => Y_move rfl) rfl rfl rfl ?_
     refine VQ_y (fun w' hw' => Y_move rfl) rfl rfl rfl ?_
     refine VQ_y (fun w' hw' => Y_move rfl) rfl rfl rfl ?_
     refine VQ_y (fun w' hw' => Y_addI rfl rfl) rfl rfl rfl ?_
     obtain ⟨x71, hx71, h55⟩ := Option.bind_eq_some_iff.1 h55
     refine VQ_indexAddrH (α := UInt32) (e := 75) (v := v50) (l := s48.1) hH (i := 0) rfl hx71 Tryd.underlying39 Tryd.sizeOf75 rfl rfl rfl ?_
     intro b72 o73 h74 hl75
     refine VQ_y (fun w' hw' => Y_load (El.u32 (El.kp (Dw := Dw) h74 hw')) Tryd.isAgg75 rfl) rfl rfl rfl ?_
     refine VQ_y (fun w' hw' => Y_convI Tryd.underlying75 Tryd.underlying73 rfl) rfl rfl rfl ?_
     refine VQ_y (fun w' hw' => Y_add rfl rfl) rfl rfl rfl ?_
     refine VQ_y (fun w' hw' => Y_add rfl rfl) rfl rfl rfl ?_
     refine VQ_y (fun w' hw' => Y_assign rfl) rfl rfl rfl ?_
     refine VQ_to (fun _ _ => rfl) (fun w76 hk77 => ?_)
     have ht78 := Kp.tr hk77 hA hB
     replace hH := Hp.kp hH hk77
     replace hr39 := Tr.trans hr39 ht78
     replace hB := Nat.le_trans hB ht78.ex.size
     replace hA := ht78.new
     refine C_seq ?_
     refine C_region ?_
     refine V_mv rfl rfl ?_
     refine V_mv rfl rfl ?_
     refine V_mv rfl rfl ?_
     refine V_y (Y_addI rfl rfl) rfl rfl rfl ?_
     refine V_mv rfl rfl ?_
     refine V_y (Y_convU32 Tryd.underlying73 Tryd.underlying75 rfl) rfl rfl rfl ?_
     refine V_indexAddrH (α := UInt32) (e := 75) (v := v50) (l := s48.1) hH (i := 0) rfl hx71 Tryd.underlying39 Tryd.sizeOf75 rfl rfl rfl ?_
     intro b79 o80 h81 hl82
     obtain ⟨x83, hx83, h55⟩ := Option.bind_eq_some_iff.1 h55
     refine V_storeH (Dw := Dw) (α := UInt32) (e := 75) (v := v50) (l := s48.1) hH (i := 0) rfl hl82 hx83 rfl Tryd.sizeOf75 rfl hB hA rfl rfl ?_
     intro w84 hH85 ht86
     replace hr39 := Tr.trans hr39 ht86
     replace hH : Hp w.heap.size A52 w84 (obS (α := UInt32) 75 v50 x83 :: []) := hH85
     refine V_to (fun _ _ => rfl) ?_
     refine C_region ?_
     refine V_mv rfl rfl ?_
     obtain ⟨x87, hx87, h55⟩ := Option.bind_eq_some_iff.1 h55
     refine V_y (Y_shr hx87 rfl rfl) rfl rfl rfl ?_
     refine V_as rfl rfl ?_
     refine V_to (fun _ _ => rfl) ?_
     refine C_region ?_
     refine V_y (Y_addI rfl rfl) rfl rfl rfl ?_
     refine V_mv rfl rfl ?_
     obtain rfl := Option.some.inj h55
     refine V_end (fun a ha88 => ?_)
     exact ⟨(x83, x87), hlt58, h56, ⟨(v50, A52), ha88.sub ⟨rfl, rfl, rfl, rfl, rfl, rfl, rfl, rfl, (congrArg (fun z => some (Value.int .i64 z)) (w64_succ hlt58 hn61)), trivial⟩, ⟨hH, hr39⟩⟩⟩
    ·refine C_exit (fun a ha89 => ?_)
     exact ⟨((s48.1, s48.2), v50, A52), ha89.sub ⟨rfl, rfl, rfl, rfl, rfl, rfl, rfl, trivial⟩, ⟨(h59 (eq_of_dec hle57 hc62)).symm, hH, hr39⟩⟩
   rintro ⟨s38, v44, A46⟩ w41 ⟨rfl, hH47, hk42⟩ a ha43
   rw [Lp.andThen_fin] at h29
   replace h_b := Sl.tr h_b hk42
   replace hr13 := Tr.trans hr13 hk42
   replace hB := Nat.le_trans hB hk42.ex.size
   replace hA := hk42.new
   replace hH : Hp w.heap.size A46 w41 (obS (α := UInt32) 75 v44 s38.1 :: []) := hH47
   refine C_at (n := ⟨67, [], none⟩) (fun _ _ => rfl) ?_ ha43
   refine C_region ?_
   refine V_mv rfl rfl ?_
   refine V_mv rfl rfl ?_
   refine V_mv rfl rfl ?_
   refine V_y (Y_lenSl h_b rfl Tryd.underlying39 rfl) rfl rfl rfl ?_
   refine V_y (Y_addI rfl rfl) rfl rfl rfl ?_
   refine V_mv rfl rfl ?_
   refine V_y (Y_convU32 Tryd.underlying73 Tryd.underlying75 rfl) rfl rfl rfl ?_
   obtain ⟨x91, hx91, h29⟩ := Option.bind_eq_some_iff.1 h29
   refine V_indexAddrH (α := UInt32) (e := 75) (v := v44) (l := s38.1) hH (i := 0) rfl hx91 Tryd.underlying39 Tryd.sizeOf75 rfl rfl rfl ?_
   intro b92 o93 h94 hl95
   obtain ⟨x96, hx96, h29⟩ := Option.bind_eq_some_iff.1 h29
   refine V_storeH (Dw := Dw) (α := UInt32) (e := 75) (v := v44) (l := s38.1) hH (i := 0) rfl hl95 hx96 rfl Tryd.sizeOf75 rfl hB hA rfl rfl ?_
   intro w97 hH98 ht99
   replace hr13 := Tr.trans hr13 ht99
   replace hH : Hp w.heap.size A46 w97 (obS (α := UInt32) 75 v44 x96 :: []) := hH98
   refine V_to (fun _ _ => rfl) ?_
   refine C_region ?_
   refine V_y (Y_addI rfl rfl) rfl rfl rfl ?_
   refine V_mv rfl rfl ?_
   obtain rfl := Option.some.inj h29
   refine V_end (fun a ha100 => ?_)
   exact ⟨x96, hlt32, h30, ⟨(v44, A46), ha100.sub ⟨rfl, rfl, rfl, rfl, (congrArg (fun z => some (Value.int .i64 z)) (w64_succ hlt32 hn35)), trivial⟩, ⟨hH, hr13⟩⟩⟩
  ·refine C_exit (fun a ha101 => ?_)
   exact ⟨(s22, v24, A26), ha101.sub ⟨rfl, trivial⟩, ⟨(h33 (eq_of_dec hle31 hc36)).symm, hH, hr13⟩⟩
 rintro ⟨s12, v18, A20⟩ w15 ⟨rfl, hH21, hk16⟩ a ha17
 rw [Lp.andThen_fin] at hm
 replace hK := Tr.trans hK hk16
 replace hB := Nat.le_trans hB hk16.ex.size
 replace hA := hk16.new
 replace hH : Hp w.heap.size A20 w15 (obS (α := UInt32) 75 v18 s12 :: []) := hH21
 refine C_at (n := ⟨67, [], none⟩) (fun _ _ => rfl) ?_ ha17
 refine C_seq ?_
 refine C_region ?_
 refine V_mv rfl rfl ?_
 obtain ⟨x103, hx103, hm⟩ := Option.bind_eq_some_iff.1 hm
 refine V_call Tryd.call44 rfl rfl rfl rfl (portref2_whole_trim_c (Dw := Dw) w15 hB hA s12 v18 hH hx103) ?_
 rintro v104 w106 ⟨_, A107, rfl, hH108, ht109⟩
 replace hK := Tr.trans hK ht109
 replace hH : Hp w.heap.size A107 w106 (obS (α := UInt32) 75 v104 x103 :: []) := hH108
 refine V_as rfl rfl ?_
 refine V_to (fun _ _ => rfl) ?_
 obtain rfl := Option.some.inj hm
 refine C_ret ?_
 try simp only [↓inBlock_ret, ↓then_ret]
 exact retQ rfl (Res.one Tryd.results31 rfl) ⟨v104, rfl, (Hp.ownd hH (i := 0) rfl), hK.kp⟩

set_option maxRecDepth 4000 in
set_option maxHeartbeats 4000000 in
theorem portref2_whole_plus_c (w : World) {A : Nat → Prop} (hA : ∀ b, w.heap.size ≤ b → A b) (a_ : (List UInt32)) (v_a_ : Value) (h_a_ : Sl A w v_a_ a_) (b : (List UInt32)) (v_b : Value) (h_b : Sl A w v_b b) {r : (List UInt32)} (hm : portref2_whole_plus a_ b = some r) : Ret Tryd.prog 32 #[v_a_, v_b] w fun v w' => ∃ s0, v = s0 ∧ Ownd 75 w w' s0 r ∧ Kp Dw w w' := by
 unfold portref2_whole_plus at hm
 refine enter Tryd.func32 rfl Tryd.ntmps32 rfl ?_
 have hA0 := hA
 have hB := Nat.le_refl w.heap.size
 have hK : Tr Dw w.heap.size A w A w := Tr.refl (Dw := Dw) hA
 have hH : Hp w.heap.size A w [] := Hp.nil
 refine C_seq ?_
 refine C_region ?_
 refine V_as rfl rfl ?_
 refine V_to (fun _ _ => rfl) ?_
 refine C_seq ?_
 refine C_seq ?_
 refine C_region ?_
 refine V_mv rfl rfl ?_
 refine V_y (Y_lenSl h_a_ rfl Tryd.underlying39 rfl) rfl rfl rfl ?_
 refine V_mv rfl rfl ?_
 refine V_y (Y_lenSl h_b rfl Tryd.underlying39 rfl) rfl rfl rfl ?_
 refine V_y (Y_lss rfl rfl) rfl rfl rfl ?_
 refine V_to (fun _ _ => rfl) ?_
 obtain ⟨s6, ho5, hm⟩ := Option.bind_eq_some_iff.1 hm
 refine C_cutG (ι := (Value × Value)) (fun ⟨v8, v10⟩ => [(0, v8), (1, v10)]) (fun ⟨v8, v10⟩ => fun w' => Sl A w' v8 s6.1 ∧ Sl A w' v10 s6.2 ∧ w = w') ?_ ?_
 ·refine C_cond rfl (fun hc15 => ?_) (fun hc15 => ?_)
  ·rw [if_pos hc15] at ho5
   refine C_region ?_
   refine V_mv rfl rfl ?_
   refine V_mv rfl rfl ?_
   refine V_as rfl rfl ?_
   refine V_as rfl rfl ?_
   obtain rfl := Option.some.inj ho5
   refine V_end (fun a ha16 => ?_)
   exact ⟨(v_b, v_a_), ha16.sub ⟨rfl, rfl, trivial⟩, ⟨h_b, h_a_, rfl⟩⟩
  ·rw [if_neg (nt hc15)] at ho5
   obtain rfl := Option.some.inj ho5
   refine C_skip (fun a ha17 => ?_)
   exact ⟨(v_a_, v_b), ha17.sub ⟨rfl, rfl, trivial⟩, ⟨h_a_, h_b, rfl⟩⟩
 rintro ⟨v8, v10⟩ _ ⟨h9, h11, rfl⟩ a ha14
 refine C_at (n := ⟨56, [], none⟩) (fun _ _ => rfl) ?_ ha14
 refine C_seq ?_
 refine C_region ?_
 refine V_mv rfl rfl ?_
 refine V_y (Y_lenSl h9 rfl Tryd.underlying39 rfl) rfl rfl rfl ?_
 refine V_y (Y_addI rfl rfl) rfl rfl rfl ?_
 obtain ⟨x18, hx18, hm⟩ := Option.bind_eq_some_iff.1 hm
 refine V_makeCH (Dw := Dw) (e := 75) (ti := Tryd.t75) hH hx18 (fun _ _ => rfl) Tryd.underlying39 Tryd_info75 rfl rfl rfl (by decide) (by decide) hB hA rfl rfl rfl ?_
 intro v19 w20 A21 hH22 ht23
 replace h9 := Sl.tr h9 ht23
 replace h11 := Sl.tr h11 ht23
 replace hK := Tr.trans hK ht23
 replace hB := Nat.le_trans hB ht23.ex.size
 replace hA := ht23.new
 replace hH : Hp w.heap.size A21 w20 (obS (α := UInt32) 75 v19 x18 :: []) := hH22
 refine V_as rfl rfl ?_
 refine V_to (fun _ _ => rfl) ?_
 refine C_seq ?_
 refine C_region ?_
 refine V_as rfl rfl ?_
 refine V_to (fun _ _ => rfl) ?_
 refine C_seq ?_
 refine C_seq ?_
 refine C_region ?_
 refine V_mv rfl rfl ?_
 refine V_y (Y_lenSl h9 rfl Tryd.underlying39 rfl) rfl rfl rfl ?_
 refine V_mv rfl rfl ?_
 refine V_to (fun _ _ => rfl) ?_
 have hn48 := Sl.le h9
 obtain ⟨o24, ho24, hm⟩ := Option.bind_eq_some_iff.1 hm
 refine C_cutG (ι := (((List UInt32) × Int) × Value × (Nat → Prop))) (fun ⟨s25, v31, A33⟩ => [(5, v31), (6, .int .u64 s25.2)]) (fun ⟨s25, v31, A33⟩ => fun w' => o24 = .fin s25 ∧ Hp w.heap.size A33 w' (obS (α := UInt32) 75 v31 s25.1 :: []) ∧ Tr Dw w.heap.size A21 w20 A33 w') ?_ ?_
 ·refine C_block ?_
  refine C_range ho24 (fun k27 s35 a w' => ∃ i : (Value × (Nat → Prop)), Has ⟨56, [], none⟩ a ([(0, v8), (1, v10), (5, i.1), (6, .int .u64 s35.2), (20, .int .i64 (s6.1.length : Int)), (21, .int .i64 (k27 : Int))]) ∧ Hp w.heap.size i.2 w' (obS (α := UInt32) 75 i.1 s35.1 :: []) ∧ Tr Dw w.heap.size A21 w20 i.2 w') (fun a ha => ⟨(v19, A21), ha.sub ⟨rfl, rfl, rfl, rfl, rfl, rfl, trivial⟩, ⟨hH, Tr.refl (Dw := Dw) hA⟩⟩) ?_
  rintro K k27 s35 a w36 ⟨⟨v37, A39⟩, ha82, hH40, hr26⟩ hle44 K47 h46
  refine C_of ?_ ha82
  replace h9 := Sl.tr h9 hr26
  replace h11 := Sl.tr h11 hr26
  replace hB := Nat.le_trans hB hr26.ex.size
  replace hA := hr26.new
  replace hH : Hp w.heap.size A39 w36 (obS (α := UInt32) 75 v37 s35.1 :: []) := hH40
  refine C_seq (C_region (V_y (Y_lss rfl rfl) rfl rfl rfl (V_to (fun _ _ => rfl) ?_)))
  refine C_seq ?_
  refine C_cond rfl (fun hc49 => ?_) (fun hc49 => ?_)
  ·have hlt45 := lt_of_dec hc49
   obtain ⟨x41, h42, h43⟩ := K47 hlt45
   refine C_skip_to (fun _ _ => rfl) ?_
   refine C_seq ?_
   refine C_block ?_
   refine C_seq ?_
   refine C_region ?_
   refine V_mv rfl rfl ?_
   refine V_as rfl rfl ?_
   refine V_to (fun _ _ => rfl) ?_
   refine C_seq ?_
   refine C_region ?_
   refine V_mv rfl rfl ?_
   refine V_mv rfl rfl ?_
   refine V_mv rfl rfl ?_
   obtain ⟨x50, hx50, h42⟩ := Option.bind_eq_some_iff.1 h42
   refine V_indexAddr h9 hx50 Tryd.underlying39 Tryd.sizeOf75 rfl rfl rfl ?_
   intro b51 o52 h53
   refine V_y (Y_load (El.u32 h53) Tryd.isAgg75 rfl) rfl rfl rfl ?_
   refine V_y (Y_convI Tryd.underlying75 Tryd.underlying73 rfl) rfl rfl rfl ?_
   refine V_y (Y_add rfl rfl) rfl rfl rfl ?_
   refine V_as rfl rfl ?_
   refine V_to (fun _ _ => rfl) ?_
   refine C_seq ?_
   refine C_seq ?_
   refine C_region ?_
   refine V_mv rfl rfl ?_
   refine V_mv rfl rfl ?_
   refine V_y (Y_lenSl h11 rfl Tryd.underlying39 rfl) rfl rfl rfl ?_
   refine V_y (Y_lss rfl rfl) rfl rfl rfl ?_
   refine V_to (fun _ _ => rfl) ?_
   obtain ⟨s55, ho54, h42⟩ := Option.bind_eq_some_iff.1 h42
   refine C_cutG (ι := Unit) (fun (_ : Unit) => [(0, v8), (1, v10), (5, v37), (6, .int .u64 s55), (20, .int .i64 (s6.1.length : Int)), (21, .int .i64 (k27 : Int))]) (fun (_ : Unit) => fun w' => w36 = w') ?_ ?_
   ·refine C_cond rfl (fun hc60 => ?_) (fun hc60 => ?_)
    ·rw [if_pos hc60] at ho54
     refine C_region ?_
     refine V_mv rfl rfl ?_
     refine V_mv rfl rfl ?_
     refine V_mv rfl rfl ?_
     obtain ⟨x61, hx61, ho54⟩ := Option.bind_eq_some_iff.1 ho54
     refine V_indexAddr h11 hx61 Tryd.underlying39 Tryd.sizeOf75 rfl rfl rfl ?_
     intro b62 o63 h64
     refine V_y (Y_load (El.u32 h64) Tryd.isAgg75 rfl) rfl rfl rfl ?_
     refine V_y (Y_convI Tryd.underlying75 Tryd.underlying73 rfl) rfl rfl rfl ?_
     refine V_y (Y_add rfl rfl) rfl rfl rfl ?_
     refine V_as rfl rfl ?_
     obtain rfl := Option.some.inj ho54
     refine V_end (fun a ha65 => ?_)
     exact ⟨(), ha65.sub ⟨rfl, rfl, rfl, rfl, rfl, rfl, trivial⟩, rfl⟩
    ·rw [if_neg (nt hc60)] at ho54
     obtain rfl := Option.some.inj ho54
     refine C_skip (fun a ha66 => ?_)
     exact ⟨(), ha66.sub ⟨rfl, rfl, rfl, rfl, rfl, rfl, trivial⟩, rfl⟩
   rintro _ _ rfl a ha59
   refine C_at (n := ⟨56, [], none⟩) (fun _ _ => rfl) ?_ ha59
   refine C_seq ?_
   refine C_region ?_
   refine V_mv rfl rfl ?_
   refine V_mv rfl rfl ?_
   refine V_y (Y_convU32 Tryd.underlying73 Tryd.underlying75 rfl) rfl rfl rfl ?_
   refine V_buildSlice (Dw := Dw) (cells := #[.int .u32 ((toU32 s55).toNat : Int)]) (l := ([(toU32 s55)] : List UInt32)) (len := 1) Tryd.underlying39 Tryd.sizeOf75 Tryd.zeroValue75 rfl (by generalize (((toU32 s55).toNat : Int) : Int) = z71; kernel_rfl) (show (1 * 1 : Nat) ≠ 0 by decide) (show (1 * 1 : Nat) ≤ 2 ^ 24 by decide) hA ⟨[.int .u32 ((toU32 s55).toNat : Int)], _, rfl, rfl, rfl⟩ rfl rfl ?_
   intro v67 w68 hk70 h69
   have ht72 := Kp.tr hk70 hA hB
   replace hH := Hp.kp hH hk70
   replace hr26 := Tr.trans hr26 ht72
   replace hB := Nat.le_trans hB ht72.ex.size
   replace hA := ht72.new
   obtain ⟨x73, hx73, h42⟩ := Option.bind_eq_some_iff.1 h42
   refine V_appendH (Dw := Dw) (e := 75) (v := v37) (l := s35.1) (ti := Tryd.t75) (bytes := 4) (lim := 35184372088832) hH (i := 0) rfl h69 hx73 Tryd.underlying39 Tryd_info75 rfl rfl rfl rfl (by decide) (by decide) (by decide) hB hA rfl rfl rfl ?_
   intro v74 w75 A76 hH77 ht78
   replace hr26 := Tr.trans hr26 ht78
   replace hH : Hp w.heap.size A76 w75 (obS (α := UInt32) 75 v74 x73 :: []) := hH77
   refine V_as rfl rfl ?_
   refine V_to (fun _ _ => rfl) ?_
   refine C_region ?_
   refine V_mv rfl rfl ?_
   obtain ⟨x79, hx79, h42⟩ := Option.bind_eq_some_iff.1 h42
   refine V_y (Y_shr hx79 rfl rfl) rfl rfl rfl ?_
   refine V_as rfl rfl ?_
   refine V_to (fun _ _ => rfl) ?_
   refine C_region ?_
   refine V_y (Y_addI rfl rfl) rfl rfl rfl ?_
   refine V_mv rfl rfl ?_
   obtain rfl := Option.some.inj h42
   refine V_end (fun a ha80 => ?_)
   exact ⟨(x73, x79), hlt45, h43, ⟨(v74, A76), ha80.sub ⟨rfl, rfl, rfl, rfl, rfl, (congrArg (fun z => some (Value.int .i64 z)) (w64_succ hlt45 hn48)), trivial⟩, ⟨hH, hr26⟩⟩⟩
  ·refine C_exit (fun a ha81 => ?_)
   exact ⟨((s35.1, s35.2), v37, A39), ha81.sub ⟨rfl, rfl, trivial⟩, ⟨(h46 (eq_of_dec hle44 hc49)).symm, hH, hr26⟩⟩
 rintro ⟨s25, v31, A33⟩ w28 ⟨rfl, hH34, hk29⟩ a ha30
 rw [Lp.andThen_fin] at hm
 replace hK := Tr.trans hK hk29
 replace hB := Nat.le_trans hB hk29.ex.size
 replace hA := hk29.new
 replace hH : Hp w.heap.size A33 w28 (obS (α := UInt32) 75 v31 s25.1 :: []) := hH34
 refine C_at (n := ⟨56, [], none⟩) (fun _ _ => rfl) ?_ ha30
 refine C_seq ?_
 refine C_region ?_
 refine V_mv rfl rfl ?_
 refine V_mv rfl rfl ?_
 refine V_y (Y_convU32 Tryd.underlying73 Tryd.underlying75 rfl) rfl rfl rfl ?_
 refine V_buildSlice (Dw := Dw) (cells := #[.int .u32 ((toU32 s25.2).toNat : Int)]) (l := ([(toU32 s25.2)] : List UInt32)) (len := 1) Tryd.underlying39 Tryd.sizeOf75 Tryd.zeroValue75 rfl (by generalize (((toU32 s25.2).toNat : Int) : Int) = z87; kernel_rfl) (show (1 * 1 : Nat) ≠ 0 by decide) (show (1 * 1 : Nat) ≤ 2 ^ 24 by decide) hA ⟨[.int .u32 ((toU32 s25.2).toNat : Int)], _, rfl, rfl, rfl⟩ rfl rfl ?_
 intro v83 w84 hk86 h85
 have ht88 := Kp.tr hk86 hA hB
 replace hH := Hp.kp hH hk86
 replace hK := Tr.trans hK ht88
 replace hB := Nat.le_trans hB ht88.ex.size
 replace hA := ht88.new
 obtain ⟨x89, hx89, hm⟩ := Option.bind_eq_some_iff.1 hm
 refine V_appendH (Dw := Dw) (e := 75) (v := v31) (l := s25.1) (ti := Tryd.t75) (bytes := 4) (lim := 35184372088832) hH (i := 0) rfl h85 hx89 Tryd.underlying39 Tryd_info75 rfl rfl rfl rfl (by decide) (by decide) (by decide) hB hA rfl rfl rfl ?_
 intro v90 w91 A92 hH93 ht94
 replace hK := Tr.trans hK ht94
 replace hB := Nat.le_trans hB ht94.ex.size
 replace hA := ht94.new
 replace hH : Hp w.heap.size A92 w91 (obS (α := UInt32) 75 v90 x89 :: []) := hH93
 obtain ⟨x95, hx95, hm⟩ := Option.bind_eq_some_iff.1 hm
 refine V_call Tryd.call44 rfl rfl rfl rfl (portref2_whole_trim_c (Dw := Dw) w91 hB hA x89 v90 hH hx95) ?_
 rintro v96 w98 ⟨_, A99, rfl, hH100, ht101⟩
 replace hK := Tr.trans hK ht101
 replace hH : Hp w.heap.size A99 w98 (obS (α := UInt32) 75 v96 x95 :: []) := hH100
 refine V_as rfl rfl ?_
 refine V_to (fun _ _ => rfl) ?_
 obtain rfl := Option.some.inj hm
 refine C_ret ?_
 try simp only [↓inBlock_ret, ↓then_ret]
 exact retQ rfl (Res.one Tryd.results32 rfl) ⟨v96, rfl, (Hp.ownd hH (i := 0) rfl), hK.kp⟩

set_option maxRecDepth 4000 in
set_option maxHeartbeats 4000000 in
theorem portref2_blocked_c (w : World) {A : Nat → Prop} (hA : ∀ b, w.heap.size ≤ b → A b) (l : staff_Load) (n : Int) {r : portref2_ratio} (hm : portref2_blocked l n = some r) : Ret Tryd.prog 15 #[.agg #[.int .i64 l.calls, .int .i64 l.length, .int .i64 l.span], .int .i64 n] w fun v w' => ∃ s0 s1, v = .agg #[s0, s1] ∧ Sl A w' s0 r.num ∧ Sl A w' s1 r.den ∧ Kp Dw w w' := by
 unfold portref2_blocked at hm
 refine enter Tryd.func15 rfl Tryd.ntmps15 rfl ?_
 have hA0 := hA
 have hB := Nat.le_refl w.heap.size
 have hK : Tr Dw w.heap.size A w A w := Tr.refl (Dw := Dw) hA
 have hH : Hp w.heap.size A w [] := Hp.nil
 refine C_seq ?_
 refine C_region ?_
 refine V_box rfl rfl ?_
 intro b1 w2 h3
 have hk5 := h3.kp (Dw := Dw)
 have h4 : El (α := staff_Load) A w2 b1 0 l := h3.el hA ⟨[.int .i64 l.calls], _, rfl, rfl, ⟨[.int .i64 l.length], _, rfl, rfl, rfl⟩⟩
 have ht6 := Kp.tr hk5 hA hB
 replace hH := Hp.kp hH hk5
 replace hK := Tr.trans hK ht6
 replace hB := Nat.le_trans hB ht6.ex.size
 replace hA := ht6.new
 refine V_allocH (Dw := Dw) (B := w.heap.size) hH Tryd.zeroValue41 hB hA rfl ?_
 intro b7 w9 A10 hH11 ht12
 replace h4 := El.tr h4 ht12
 replace hK := Tr.trans hK ht12
 replace hB := Nat.le_trans hB ht12.ex.size
 replace hA := ht12.new
 replace hH : Hp w.heap.size A10 w9 (obC b7 [.slice none 0 0, .slice none 0 0] 41 :: []) := hH11
 refine V_to (fun _ _ => rfl) ?_
 refine C_seq ?_
 refine C_region ?_
 obtain ⟨h13, _⟩ := El_staff_Load h4
 refine V_y (Y_loadA h13 Tryd.isAgg23 Tryd.sizeOf23 rfl) rfl rfl rfl ?_
 obtain ⟨x14, hx14, hm⟩ := Option.bind_eq_some_iff.1 hm
 refine V_call Tryd.call14 rfl rfl rfl rfl (portref2_offered_c (Dw := Dw) w9 hA l hx14) ?_
 rintro _ w19 ⟨v15, v17, rfl, h16, h18, hk20⟩
 have ht21 := Kp.tr hk20 hA hB
 replace hH := Hp.kp hH hk20
 replace hK := Tr.trans hK ht21
 replace hB := Nat.le_trans hB ht21.ex.size
 replace hA := ht21.new
 refine V_alloc Tryd.zeroValue41 rfl ?_
 intro b22 w23 h24
 have h29 : (v15).oneCell' = true := by obtain ⟨_, _, e, _⟩ := Sl.form h16; rw [e]; rfl
 have h32 : (v17).oneCell' = true := by obtain ⟨_, _, e, _⟩ := Sl.form h18; rw [e]; rfl
 refine V_storeNew h24 Tryd.sizeOf41 rfl rfl rfl rfl (by exact (List.forall_mem_cons.2 ⟨h29, (List.forall_mem_cons.2 ⟨h32, (fun _ h => nomatch h)⟩)⟩)) ?_
 intro w25 h26
 have hk34 := h26.kp (Dw := Dw)
 have h33 : El (α := portref2_ratio) A10 w25 b22 0 x14 := h26.el hA ⟨[v15], _, rfl, ⟨_, rfl, h16⟩, ⟨_, rfl, h18⟩⟩
 have ht35 := Kp.tr hk34 hA hB
 replace hH := Hp.kp hH hk34
 replace hK := Tr.trans hK ht35
 replace hB := Nat.le_trans hB ht35.ex.size
 replace hA := ht35.new
 refine V_to (fun _ _ => rfl) ?_
 refine C_seq ?_
 refine C_region ?_
 obtain ⟨x36, hx36, hm⟩ := Option.bind_eq_some_iff.1 hm
 refine V_call Tryd.call30 rfl rfl rfl rfl (portref2_wholeOf_c (Dw := Dw) w25 hA 1 hx36) ?_
 rintro v37 w39 ⟨_, rfl, h38, hk40⟩
 obtain ⟨A41, ht42, hH43⟩ := Hp.addOwnd (Dw := Dw) hH hB hA hk40 h38
 replace h33 := El.tr h33 ht42
 replace hK := Tr.trans hK ht42
 replace hB := Nat.le_trans hB ht42.ex.size
 replace hA := ht42.new
 replace hH : Hp w.heap.size A41 w39 (obS (α := UInt32) 75 v37 x36 :: obC b7 [.slice none 0 0, .slice none 0 0] 41 :: []) := hH43
 obtain ⟨x44, hx44, hm⟩ := Option.bind_eq_some_iff.1 hm
 refine V_call Tryd.call30 rfl rfl rfl rfl (portref2_wholeOf_c (Dw := Dw) w39 hA 1 hx44) ?_
 rintro v45 w47 ⟨_, rfl, h46, hk48⟩
 obtain ⟨A49, ht50, hH51⟩ := Hp.addOwnd (Dw := Dw) hH hB hA hk48 h46
 replace h33 := El.tr h33 ht50
 replace hK := Tr.trans hK ht50
 replace hB := Nat.le_trans hB ht50.ex.size
 replace hA := ht50.new
 replace hH : Hp w.heap.size A49 w47 (obS (α := UInt32) 75 v45 x44 :: obS (α := UInt32) 75 v37 x36 :: obC b7 [.slice none 0 0, .slice none 0 0] 41 :: []) := hH51
 refine V_as rfl rfl ?_
 refine V_as rfl rfl ?_
 refine V_to (fun _ _ => rfl) ?_
 refine C_seq ?_
 refine C_seq ?_
 refine C_region ?_
 refine V_as rfl rfl ?_
 refine V_to (fun _ _ => rfl) ?_
 obtain ⟨o52, ho52, hm⟩ := Option.bind_eq_some_iff.1 hm
 refine C_cutG (ι := (((List UInt32) × (List UInt32) × Int) × Value × Value × (Nat → Prop))) (fun ⟨s53, v59, v61, A63⟩ => [(4, .pointer (some ⟨b7, 0, none⟩)), (6, v59), (7, v61)]) (fun ⟨s53, v59, v61, A63⟩ => fun w' => o52 = .fin s53 ∧ Hp w.heap.size A63 w' (obS (α := UInt32) 75 v61 s53.2.1 :: obS (α := UInt32) 75 v59 s53.1 :: obC b7 [.slice none 0 0, .slice none 0 0] 41 :: []) ∧ Tr Dw w.heap.size A49 w47 A63 w') ?_ ?_
 ·refine C_block ?_
  refine C_while ho52 (fun s65 a w' => ∃ i : (Value × Value × (Nat → Prop)), Has ⟨34, [], none⟩ a ([(1, .int .i64 n), (4, .pointer (some ⟨b7, 0, none⟩)), (5, .pointer (some ⟨b22, 0, none⟩)), (6, i.1), (7, i.2.1), (8, .int .i64 s65.2.2)]) ∧ Hp w.heap.size i.2.2 w' (obS (α := UInt32) 75 i.2.1 s65.2.1 :: obS (α := UInt32) 75 i.1 s65.1 :: obC b7 [.slice none 0 0, .slice none 0 0] 41 :: []) ∧ Tr Dw w.heap.size A49 w47 i.2.2 w') (fun a ha => ⟨(v37, v45, A49), ha.sub ⟨rfl, rfl, rfl, rfl, rfl, rfl, trivial⟩, ⟨hH, Tr.refl (Dw := Dw) hA⟩⟩) ?_
  rintro K s65 a w66 ⟨⟨v67, v69, A71⟩, ha131, hH72, hr54⟩ K79
  refine C_of ?_ ha131
  replace h33 := El.tr h33 hr54
  replace hB := Nat.le_trans hB hr54.ex.size
  replace hA := hr54.new
  replace hH : Hp w.heap.size A71 w66 (obS (α := UInt32) 75 v69 s65.2.1 :: obS (α := UInt32) 75 v67 s65.1 :: obC b7 [.slice none 0 0, .slice none 0 0] 41 :: []) := hH72
  obtain ⟨x73, h74, h75⟩ := K79
  refine C_seq ?_
  refine C_seq ?_
  refine C_region ?_
  refine V_mv rfl rfl ?_
  refine V_mv rfl rfl ?_
  refine V_y (Y_leq rfl rfl) rfl rfl rfl ?_
  refine V_to (fun _ _ => rfl) ?_
  refine C_cond rfl (fun hc80 => ?_) (fun hc80 => ?_)
  ·rw [if_pos hc80] at h74
   refine C_skip_to (fun _ _ => rfl) ?_
   refine C_seq ?_
   refine C_block ?_
   refine C_seq ?_
   refine C_region ?_
   refine V_mv rfl rfl ?_
   have h81 := El_portref2_ratio_0 h33
   refine V_y (Y_fieldAddr Tryd.underlying41 rfl Tryd.sizeOf39 (by decide) rfl) rfl rfl rfl ?_
   obtain ⟨v82, h83, h84⟩ := El.list h81
   refine V_y (Y_load h83 Tryd.isAgg39 rfl) rfl rfl rfl ?_
   obtain ⟨x85, hx85, h74⟩ := Option.bind_eq_some_iff.1 h74
   refine V_call Tryd.call31 rfl rfl rfl rfl (portref2_whole_times_c (Dw := Dw) w66 (A := fun _ => True) (fun _ _ => trivial) s65.1 v67 (Hp.any (α := UInt32) (e := 75) (v := v67) (l := s65.1) hH (i := 1) rfl) x14.num v82 (Sl.any h84) hx85) ?_
   rintro v86 w88 ⟨_, rfl, h87, hk89⟩
   obtain ⟨A90, ht91, hH92⟩ := Hp.addOwnd (Dw := Dw) hH hB hA hk89 h87
   replace h33 := El.tr h33 ht91
   replace hr54 := Tr.trans hr54 ht91
   replace hB := Nat.le_trans hB ht91.ex.size
   replace hA := ht91.new
   replace hH : Hp w.heap.size A90 w88 (obS (α := UInt32) 75 v86 x85 :: obS (α := UInt32) 75 v69 s65.2.1 :: obS (α := UInt32) 75 v67 s65.1 :: obC b7 [.slice none 0 0, .slice none 0 0] 41 :: []) := hH92
   refine V_as rfl rfl ?_
   refine V_to (fun _ _ => rfl) ?_
   refine C_region ?_
   refine V_mv rfl rfl ?_
   have h93 := El_portref2_ratio_1 h33
   refine V_y (Y_fieldAddr Tryd.underlying41 rfl Tryd.sizeOf39 (by decide) rfl) rfl rfl rfl ?_
   obtain ⟨v94, h95, h96⟩ := El.list h93
   refine V_y (Y_load h95 Tryd.isAgg39 rfl) rfl rfl rfl ?_
   obtain ⟨x97, hx97, h74⟩ := Option.bind_eq_some_iff.1 h74
   refine V_call Tryd.call31 rfl rfl rfl rfl (portref2_whole_times_c (Dw := Dw) w88 (A := fun _ => True) (fun _ _ => trivial) s65.2.1 v69 (Hp.any (α := UInt32) (e := 75) (v := v69) (l := s65.2.1) hH (i := 1) rfl) x14.den v94 (Sl.any h96) hx97) ?_
   rintro v98 w100 ⟨_, rfl, h99, hk101⟩
   obtain ⟨A102, ht103, hH104⟩ := Hp.addOwnd (Dw := Dw) hH hB hA hk101 h99
   replace hr54 := Tr.trans hr54 ht103
   replace hB := Nat.le_trans hB ht103.ex.size
   replace hA := ht103.new
   replace hH : Hp w.heap.size A102 w100 (obS (α := UInt32) 75 v98 x97 :: obS (α := UInt32) 75 v86 x85 :: obS (α := UInt32) 75 v69 s65.2.1 :: obS (α := UInt32) 75 v67 s65.1 :: obC b7 [.slice none 0 0, .slice none 0 0] 41 :: []) := hH104
   refine V_mv rfl rfl ?_
   obtain ⟨x105, hx105, h74⟩ := Option.bind_eq_some_iff.1 h74
   refine V_call Tryd.call30 rfl rfl rfl rfl (portref2_wholeOf_c (Dw := Dw) w100 hA s65.2.2 hx105) ?_
   rintro v106 w108 ⟨_, rfl, h107, hk109⟩
   obtain ⟨A110, ht111, hH112⟩ := Hp.addOwnd (Dw := Dw) hH hB hA hk109 h107
   replace hr54 := Tr.trans hr54 ht111
   replace hB := Nat.le_trans hB ht111.ex.size
   replace hA := ht111.new
   replace hH : Hp w.heap.size A110 w108 (obS (α := UInt32) 75 v106 x105 :: obS (α := UInt32) 75 v98 x97 :: obS (α := UInt32) 75 v86 x85 :: obS (α := UInt32) 75 v69 s65.2.1 :: obS (α := UInt32) 75 v67 s65.1 :: obC b7 [.slice none 0 0, .slice none 0 0] 41 :: []) := hH112
   obtain ⟨x113, hx113, h74⟩ := Option.bind_eq_some_iff.1 h74
   refine V_call Tryd.call31 rfl rfl rfl rfl (portref2_whole_times_c (Dw := Dw) w108 (A := fun _ => True) (fun _ _ => trivial) x97 v98 (Hp.any (α := UInt32) (e := 75) (v := v98) (l := x97) hH (i := 1) rfl) x105 v106 (Hp.any (α := UInt32) (e := 75) (v := v106) (l := x105) hH (i := 0) rfl) hx113) ?_
   rintro v114 w116 ⟨_, rfl, h115, hk117⟩
   obtain ⟨A118, ht119, hH120⟩ := Hp.addOwnd (Dw := Dw) hH hB hA hk117 h115
   replace hr54 := Tr.trans hr54 ht119
   replace hB := Nat.le_trans hB ht119.ex.size
   replace hA := ht119.new
   replace hH : Hp w.heap.size A118 w116 (obS (α := UInt32) 75 v114 x113 :: obS (α := UInt32) 75 v106 x105 :: obS (α := UInt32) 75 v98 x97 :: obS (α := UInt32) 75 v86 x85 :: obS (α := UInt32) 75 v69 s65.2.1 :: obS (α := UInt32) 75 v67 s65.1 :: obC b7 [.slice none 0 0, .slice none 0 0] 41 :: []) := hH120
   refine V_mv rfl rfl ?_
   obtain ⟨x121, hx121, h74⟩ := Option.bind_eq_some_iff.1 h74
   refine V_call Tryd.call32 rfl rfl rfl rfl (portref2_whole_plus_c (Dw := Dw) w116 (A := fun _ => True) (fun _ _ => trivial) x113 v114 (Hp.any (α := UInt32) (e := 75) (v := v114) (l := x113) hH (i := 0) rfl) x85 v86 (Hp.any (α := UInt32) (e := 75) (v := v86) (l := x85) hH (i := 3) rfl) hx121) ?_
   rintro v122 w124 ⟨_, rfl, h123, hk125⟩
   obtain ⟨A126, ht127, hH128⟩ := Hp.addOwnd (Dw := Dw) hH hB hA hk125 h123
   replace hr54 := Tr.trans hr54 ht127
   replace hH : Hp w.heap.size A126 w124 (obS (α := UInt32) 75 v122 x121 :: obS (α := UInt32) 75 v114 x113 :: obS (α := UInt32) 75 v106 x105 :: obS (α := UInt32) 75 v98 x97 :: obS (α := UInt32) 75 v86 x85 :: obS (α := UInt32) 75 v69 s65.2.1 :: obS (α := UInt32) 75 v67 s65.1 :: obC b7 [.slice none 0 0, .slice none 0 0] 41 :: []) := hH128
   refine V_as rfl rfl ?_
   refine V_to (fun _ _ => rfl) ?_
   refine C_region ?_
   refine V_mv rfl rfl ?_
   refine V_y (Y_addI rfl rfl) rfl rfl rfl ?_
   refine V_as rfl rfl ?_
   obtain rfl := Option.some.inj h74
   refine V_end (fun a ha129 => ?_)
   replace hH : Hp w.heap.size A126 w124 (obC b7 [.slice none 0 0, .slice none 0 0] 41 :: obS (α := UInt32) 75 v122 x121 :: obS (α := UInt32) 75 v114 x113 :: obS (α := UInt32) 75 v106 x105 :: obS (α := UInt32) 75 v98 x97 :: obS (α := UInt32) 75 v86 x85 :: obS (α := UInt32) 75 v69 s65.2.1 :: obS (α := UInt32) 75 v67 s65.1 :: []) := Hp.front hH (i := 7) rfl
   replace hH : Hp w.heap.size A126 w124 (obS (α := UInt32) 75 v86 x85 :: obC b7 [.slice none 0 0, .slice none 0 0] 41 :: obS (α := UInt32) 75 v122 x121 :: obS (α := UInt32) 75 v114 x113 :: obS (α := UInt32) 75 v106 x105 :: obS (α := UInt32) 75 v98 x97 :: obS (α := UInt32) 75 v69 s65.2.1 :: obS (α := UInt32) 75 v67 s65.1 :: []) := Hp.front hH (i := 5) rfl
   replace hH : Hp w.heap.size A126 w124 (obS (α := UInt32) 75 v122 x121 :: obS (α := UInt32) 75 v86 x85 :: obC b7 [.slice none 0 0, .slice none 0 0] 41 :: obS (α := UInt32) 75 v114 x113 :: obS (α := UInt32) 75 v106 x105 :: obS (α := UInt32) 75 v98 x97 :: obS (α := UInt32) 75 v69 s65.2.1 :: obS (α := UInt32) 75 v67 s65.1 :: []) := Hp.front hH (i := 2) rfl
   replace hH : Hp w.heap.size A126 w124 (obS (α := UInt32) 75 v122 x121 :: obS (α := UInt32) 75 v86 x85 :: obC b7 [.slice none 0 0, .slice none 0 0] 41 :: obS (α := UInt32) 75 v106 x105 :: obS (α := UInt32) 75 v98 x97 :: obS (α := UInt32) 75 v69 s65.2.1 :: obS (α := UInt32) 75 v67 s65.1 :: []) := Hp.drop hH (i := 3) rfl
   replace hH : Hp w.heap.size A126 w124 (obS (α := UInt32) 75 v122 x121 :: obS (α := UInt32) 75 v86 x85 :: obC b7 [.slice none 0 0, .slice none 0 0] 41 :: obS (α := UInt32) 75 v98 x97 :: obS (α := UInt32) 75 v69 s65.2.1 :: obS (α := UInt32) 75 v67 s65.1 :: []) := Hp.drop hH (i := 3) rfl
   replace hH : Hp w.heap.size A126 w124 (obS (α := UInt32) 75 v122 x121 :: obS (α := UInt32) 75 v86 x85 :: obC b7 [.slice none 0 0, .slice none 0 0] 41 :: obS (α := UInt32) 75 v69 s65.2.1 :: obS (α := UInt32) 75 v67 s65.1 :: []) := Hp.drop hH (i := 3) rfl
   replace hH : Hp w.heap.size A126 w124 (obS (α := UInt32) 75 v122 x121 :: obS (α := UInt32) 75 v86 x85 :: obC b7 [.slice none 0 0, .slice none 0 0] 41 :: obS (α := UInt32) 75 v67 s65.1 :: []) := Hp.drop hH (i := 3) rfl
   replace hH : Hp w.heap.size A126 w124 (obS (α := UInt32) 75 v122 x121 :: obS (α := UInt32) 75 v86 x85 :: obC b7 [.slice none 0 0, .slice none 0 0] 41 :: []) := Hp.drop hH (i := 3) rfl
   exact ⟨(x85, x121, w64 (s65.2.2 + 1)), h75, ⟨(v86, v122, A126), ha129.sub ⟨rfl, rfl, rfl, rfl, rfl, rfl, trivial⟩, ⟨hH, hr54⟩⟩⟩
  ·rw [if_neg (nt hc80)] at h74
   obtain rfl := Option.some.inj h74
   refine C_exit (fun a ha130 => ?_)
   exact ⟨((s65.1, s65.2.1, s65.2.2), v67, v69, A71), ha130.sub ⟨rfl, rfl, rfl, trivial⟩, ⟨h75.symm, hH, hr54⟩⟩
 rintro ⟨s53, v59, v61, A63⟩ w56 ⟨rfl, hH64, hk57⟩ a ha58
 rw [Lp.andThen_fin] at hm
 replace hK := Tr.trans hK hk57
 replace hB := Nat.le_trans hB hk57.ex.size
 replace hA := hk57.new
 replace hH : Hp w.heap.size A63 w56 (obS (α := UInt32) 75 v61 s53.2.1 :: obS (α := UInt32) 75 v59 s53.1 :: obC b7 [.slice none 0 0, .slice none 0 0] 41 :: []) := hH64
 refine C_at (n := ⟨34, [], none⟩) (fun _ _ => rfl) ?_ ha58
 refine C_seq ?_
 refine C_region ?_
 refine V_mv rfl rfl ?_
 refine V_mv rfl rfl ?_
 obtain ⟨A132, ht133, h134, hH135⟩ := Hp.freeze (Dw := Dw) (α := UInt32) (v := v59) (l := s53.1) hH (i := 1) rfl hA
 replace hK := Tr.trans hK ht133
 replace hB := Nat.le_trans hB ht133.ex.size
 replace hA := ht133.new
 replace hH : Hp w.heap.size A132 w56 (obS (α := UInt32) 75 v61 s53.2.1 :: obC b7 [.slice none 0 0, .slice none 0 0] 41 :: []) := hH135
 obtain ⟨A137, ht138, h139, hH140⟩ := Hp.freeze (Dw := Dw) (α := UInt32) (v := v61) (l := s53.2.1) hH (i := 0) rfl hA
 replace h134 := Sl.tr h134 ht138
 replace hK := Tr.trans hK ht138
 replace hB := Nat.le_trans hB ht138.ex.size
 replace hA := ht138.new
 replace hH : Hp w.heap.size A137 w56 (obC b7 [.slice none 0 0, .slice none 0 0] 41 :: []) := hH140
 obtain ⟨x142, hx142, hm⟩ := Option.bind_eq_some_iff.1 hm
 refine V_call Tryd.call33 rfl rfl rfl rfl (portref2_lowest_c (Dw := Dw) w56 hA s53.1 v59 h134 s53.2.1 v61 h139 hx142) ?_
 rintro _ w147 ⟨v143, v145, rfl, h144, h146, hk148⟩
 have ht149 := Kp.tr hk148 hA hB
 replace hH := Hp.kp hH hk148
 replace hK := Tr.trans hK ht149
 replace hB := Nat.le_trans hB ht149.ex.size
 replace hA := ht149.new
 have h155 : (v143).oneCell' = true := by obtain ⟨_, _, e, _⟩ := Sl.form h144; rw [e]; rfl
 have h158 : (v145).oneCell' = true := by obtain ⟨_, _, e, _⟩ := Sl.form h146; rw [e]; rfl
 refine V_storeC (Dw := Dw) (off := 0) (ds := [v143, v145]) hH (i := 0) rfl Tryd.sizeOf41 rfl (Nat.le_of_ble_eq_true rfl) (by exact (List.forall_mem_cons.2 ⟨h155, (List.forall_mem_cons.2 ⟨h158, (fun _ h => nomatch h)⟩)⟩)) rfl hB hA rfl rfl ?_
 intro w150 hH151 ht152
 replace h144 := Sl.tr h144 ht152
 replace h146 := Sl.tr h146 ht152
 replace hK := Tr.trans hK ht152
 replace hH : Hp w.heap.size A137 w150 (obC b7 [v143, v145] 41 :: []) := hH151
 refine V_to (fun _ _ => rfl) ?_
 obtain rfl := Option.some.inj hm
 refine C_ret ?_
 try simp only [↓inBlock_ret, ↓then_ret]
 exact retQ rfl (Res.l1 Tryd.results15 (RL.cell rfl (loadVar_agg (Hp.part (off := 0) (n := 2) (ds := [v143, v145]) hH (i := 0) rfl rfl) Tryd.isAgg41 Tryd.sizeOf41))) ⟨v143, v145, rfl, (Sl.out (Dw := Dw) h144 hA0 hK), (Sl.out (Dw := Dw) h146 hA0 hK), hK.kp⟩

set_option maxRecDepth 4000 in
set_option maxHeartbeats 4000000 in
theorem portref2_ratio_cmp_c (w : World) {A : Nat → Prop} (hA : ∀ b, w.heap.size ≤ b → A b) (a_ : portref2_ratio) (v_a_0 : Value) (h_a_0 : Sl A w v_a_0 a_.num) (v_a_1 : Value) (h_a_1 : Sl A w v_a_1 a_.den) (b : portref2_ratio) (v_b0 : Value) (h_b0 : Sl A w v_b0 b.num) (v_b1 : Value) (h_b1 : Sl A w v_b1 b.den) {r : Int} (hm : portref2_ratio_cmp a_ b = some r) : Ret Tryd.prog 34 #[.agg #[v_a_0, v_a_1], .agg #[v_b0, v_b1]] w fun v w' => v = .int .i64 r ∧ Kp Dw w w' := by
 unfold portref2_ratio_cmp at hm
 refine enter Tryd.func34 rfl Tryd.ntmps34 rfl ?_
 have hA0 := hA
 have hB := Nat.le_refl w.heap.size
 have hK : Tr Dw w.heap.size A w A w := Tr.refl (Dw := Dw) hA
 have hH : Hp w.heap.size A w [] := Hp.nil
 refine C_seq ?_
 refine C_region ?_
 refine V_box rfl rfl ?_
 intro b9 w10 h11
 have hk13 := h11.kp (Dw := Dw)
 have h12 : El (α := portref2_ratio) A w10 b9 0 a_ := h11.el hA ⟨[v_a_0], _, rfl, ⟨_, rfl, h_a_0⟩, ⟨_, rfl, h_a_1⟩⟩
 have ht14 := Kp.tr hk13 hA hB
 replace hH := Hp.kp hH hk13
 replace h_b0 := Sl.tr h_b0 ht14
 replace h_b1 := Sl.tr h_b1 ht14
 replace hK := Tr.trans hK ht14
 replace hB := Nat.le_trans hB ht14.ex.size
 replace hA := ht14.new
 refine V_box rfl rfl ?_
 intro b15 w17 h18
 have hk20 := h18.kp (Dw := Dw)
 have h19 : El (α := portref2_ratio) A w17 b15 0 b := h18.el hA ⟨[v_b0], _, rfl, ⟨_, rfl, h_b0⟩, ⟨_, rfl, h_b1⟩⟩
 have ht21 := Kp.tr hk20 hA hB
 replace hH := Hp.kp hH hk20
 replace h12 := El.tr h12 ht21
 replace hK := Tr.trans hK ht21
 replace hB := Nat.le_trans hB ht21.ex.size
 replace hA := ht21.new
 refine V_as rfl rfl ?_
 refine V_to (fun _ _ => rfl) ?_
 refine C_seq ?_
 refine C_region_ch (Dw := Dw) A 12 [(1, 0), (1, 1), (1, 2), (1, 3), (1, 5), (1, 6), (1, 7), (1, 8), (2, 4), (2, 9), (2, 10), (1, 11)] Tryd_mixed (by kernel_rfl) (fun w22 hk23 => ?_)
 have ht24 := Kp.tr hk23 hA hB
 replace hH := Hp.kp hH hk23
 replace h12 := El.tr h12 ht24
 replace h19 := El.tr h19 ht24
 replace hK := Tr.trans hK ht24
 replace hB := Nat.le_trans hB ht24.ex.size
 replace hA := ht24.new
 refine CH_q2 (Dw := Dw) rfl ?_
 have h25 := El_portref2_ratio_0 h12
 refine VQ_y (fun w' hw' => Y_fieldAddr Tryd.underlying41 rfl Tryd.sizeOf39 (by decide) rfl) rfl rfl rfl ?_
 refine VQ_CH (Dw := Dw) ?_
 refine CH_q2 (Dw := Dw) rfl ?_
 obtain ⟨v26, h27, h28⟩ := El.list h25
 refine VQ_y (fun w' hw' => Y_load ((World.cell?_of_block (hw'.2 _ h25.2.1 h25.1)).trans h27) Tryd.isAgg39 rfl) rfl rfl rfl ?_
 refine VQ_CH (Dw := Dw) ?_
 refine CH_q2 (Dw := Dw) rfl ?_
 have h29 := El_portref2_ratio_1 h19
 refine VQ_y (fun w' hw' => Y_fieldAddr Tryd.underlying41 rfl Tryd.sizeOf39 (by decide) rfl) rfl rfl rfl ?_
 refine VQ_CH (Dw := Dw) ?_
 refine CH_q2 (Dw := Dw) rfl ?_
 obtain ⟨v30, h31, h32⟩ := El.list h29
 refine VQ_y (fun w' hw' => Y_load ((World.cell?_of_block (hw'.2 _ h29.2.1 h29.1)).trans h31) Tryd.isAgg39 rfl) rfl rfl rfl ?_
 refine VQ_CH (Dw := Dw) ?_
 refine CH_q2 (Dw := Dw) rfl ?_
 have h33 := El_portref2_ratio_0 h19
 refine VQ_y (fun w' hw' => Y_fieldAddr Tryd.underlying41 rfl Tryd.sizeOf39 (by decide) rfl) rfl rfl rfl ?_
 refine VQ_CH (Dw := Dw) ?_
 refine CH_q2 (Dw := Dw) rfl ?_
 obtain ⟨v34, h35, h36⟩ := El.list h33
 refine VQ_y (fun w' hw' => Y_load ((World.cell?_of_block (hw'.2 _ h33.2.1 h33.1)).trans h35) Tryd.isAgg39 rfl) rfl rfl rfl ?_
 refine VQ_CH (Dw := Dw) ?_
 refine CH_q2 (Dw := Dw) rfl ?_
 have h37 := El_portref2_ratio_1 h12
 refine VQ_y (fun w' hw' => Y_fieldAddr Tryd.underlying41 rfl Tryd.sizeOf39 (by decide) rfl) rfl rfl rfl ?_
 refine VQ_CH (Dw := Dw) ?_
 refine CH_q2 (Dw := Dw) rfl ?_
 obtain ⟨v38, h39, h40⟩ := El.list h37
 refine VQ_y (fun w' hw' => Y_load ((World.cell?_of_block (hw'.2 _ h37.2.1 h37.1)).trans h39) Tryd.isAgg39 rfl) rfl rfl rfl ?_
 refine VQ_CH (Dw := Dw) ?_
 refine CH_l1 (Dw := Dw) (k := 0) rfl ?_
 obtain ⟨x41, hx41, hm⟩ := Option.bind_eq_some_iff.1 hm
 refine V_call Tryd.call31 rfl rfl rfl rfl (portref2_whole_times_c (Dw := Dw) w22 hA a_.num v26 h28 b.den v30 h32 hx41) ?_
 rintro v42 w44 ⟨_, rfl, h43, hk45⟩
 obtain ⟨A46, ht47, hH48⟩ := Hp.addOwnd (Dw := Dw) hH hB hA hk45 h43
 replace h36 := Sl.tr h36 ht47
 replace h40 := Sl.tr h40 ht47
 replace hK := Tr.trans hK ht47
 replace hB := Nat.le_trans hB ht47.ex.size
 replace hA := ht47.new
 replace hH : Hp w.heap.size A46 w44 (obS (α := UInt32) 75 v42 x41 :: []) := hH48
 refine V_CH (Dw := Dw) (hk45) ?_
 refine CH_l1 (Dw := Dw) (k := 0) rfl ?_
 obtain ⟨x49, hx49, hm⟩ := Option.bind_eq_some_iff.1 hm
 refine V_call Tryd.call31 rfl rfl rfl rfl (portref2_whole_times_c (Dw := Dw) w44 hA b.num v34 h36 a_.den v38 h40 hx49) ?_
 rintro v50 w52 ⟨_, rfl, h51, hk53⟩
 obtain ⟨A54, ht55, hH56⟩ := Hp.addOwnd (Dw := Dw) hH hB hA hk53 h51
 replace hK := Tr.trans hK ht55
 replace hB := Nat.le_trans hB ht55.ex.size
 replace hA := ht55.new
 replace hH : Hp w.heap.size A54 w52 (obS (α := UInt32) 75 v50 x49 :: obS (α := UInt32) 75 v42 x41 :: []) := hH56
 refine V_CH (Dw := Dw) (hk53) ?_
 refine CH_l1 (Dw := Dw) (k := 0) rfl ?_
 obtain ⟨x57, hx57, hm⟩ := Option.bind_eq_some_iff.1 hm
 refine V_call Tryd.call46 rfl rfl rfl rfl (portref2_whole_cmp_c (Dw := Dw) w52 (A := fun _ => True) (fun _ _ => trivial) x41 v42 (Hp.any (α := UInt32) (e := 75) (v := v42) (l := x41) hH (i := 1) rfl) x49 v50 (Hp.any (α := UInt32) (e := 75) (v := v50) (l := x49) hH (i := 0) rfl) hx57) ?_
 rintro _ w58 ⟨rfl, hk59⟩
 have ht60 := Kp.tr hk59 hA hB
 replace hK := Tr.trans hK ht60
 refine V_CH (Dw := Dw) (hk59) ?_
 refine CH_q2 (Dw := Dw) rfl ?_
 refine VQ_y (fun w' hw' => Y_assign rfl) rfl rfl rfl ?_
 refine VQ_CH (Dw := Dw) ?_
 refine CH_tail (Dw := Dw) ?_
 show V _ _ _ _ [] _ _
 refine V_to (fun _ _ => rfl) ?_
 obtain rfl := Option.some.inj hm
 refine C_ret ?_
 try simp only [↓inBlock_ret, ↓then_ret]
 exact retQ rfl (Res.one Tryd.results34 rfl) ⟨rfl, hK.kp⟩

set_option maxRecDepth 4000 in
set_option maxHeartbeats 4000000 in
theorem portref2_whole_minus_c (w : World) {A : Nat → Prop} (hA : ∀ b, w.heap.size ≤ b → A b) (a_ : (List UInt32)) (v_a_ : Value) (h_a_ : Sl A w v_a_ a_) (b : (List UInt32)) (v_b : Value) (h_b : Sl A w v_b b) {r : (List UInt32)} (hm : portref2_whole_minus a_ b = some r) : Ret Tryd.prog 47 #[v_a_, v_b] w fun v w' => ∃ s0, v = s0 ∧ Ownd 75 w w' s0 r ∧ Kp Dw w w' := by
 unfold portref2_whole_minus at hm
 refine enter Tryd.func47 rfl Tryd.ntmps47 rfl ?_
 have hA0 := hA
 have hB := Nat.le_refl w.heap.size
 have hK : Tr Dw w.heap.size A w A w := Tr.refl (Dw := Dw) hA
 have hH : Hp w.heap.size A w [] := Hp.nil
 refine C_seq ?_
 refine C_region ?_
 refine V_as rfl rfl ?_
 refine V_to (fun _ _ => rfl) ?_
 refine C_seq ?_
 refine C_region ?_
 refine V_mv rfl rfl ?_
 refine V_y (Y_lenSl h_a_ rfl Tryd.underlying39 rfl) rfl rfl rfl ?_
 obtain ⟨x5, hx5, hm⟩ := Option.bind_eq_some_iff.1 hm
 refine V_makeH (Dw := Dw) (e := 75) (ti := Tryd.t75) hH hx5 (fun _ _ => rfl) Tryd.underlying39 Tryd_info75 rfl rfl rfl (by decide) (by decide) hB hA rfl rfl rfl ?_
 intro v6 w7 A8 hH9 ht10
 replace h_a_ := Sl.tr h_a_ ht10
 replace h_b := Sl.tr h_b ht10
 replace hK := Tr.trans hK ht10
 replace hB := Nat.le_trans hB ht10.ex.size
 replace hA := ht10.new
 replace hH : Hp w.heap.size A8 w7 (obS (α := UInt32) 75 v6 x5 :: []) := hH9
 refine V_as rfl rfl ?_
 refine V_to (fun _ _ => rfl) ?_
 refine C_seq ?_
 refine C_region ?_
 refine V_as rfl rfl ?_
 refine V_to (fun _ _ => rfl) ?_
 refine C_seq ?_
 refine C_seq ?_
 refine C_region ?_
 refine V_mv rfl rfl ?_
 refine V_y (Y_lenSl h_a_ rfl Tryd.underlying39 rfl) rfl rfl rfl ?_
 refine V_mv rfl rfl ?_
 refine V_to (fun _ _ => rfl) ?_
 have hn35 := Sl.le h_a_
 obtain ⟨o11, ho11, hm⟩ := Option.bind_eq_some_iff.1 hm
 refine C_cutG (ι := (((List UInt32) × Int) × Value × (Nat → Prop))) (fun ⟨s12, v18, A20⟩ => [(5, v18)]) (fun ⟨s12, v18, A20⟩ => fun w' => o11 = .fin s12 ∧ Hp w.heap.size A20 w' (obS (α := UInt32) 75 v18 s12.1 :: []) ∧ Tr Dw w.heap.size A8 w7 A20 w') ?_ ?_
 ·refine C_block ?_
  refine C_range ho11 (fun k14 s22 a w' => ∃ i : (Value × (Nat → Prop)), Has ⟨50, [], none⟩ a ([(0, v_a_), (1, v_b), (5, i.1), (6, .int .u64 s22.2), (14, .int .i64 (a_.length : Int)), (15, .int .i64 (k14 : Int))]) ∧ Hp w.heap.size i.2 w' (obS (α := UInt32) 75 i.1 s22.1 :: []) ∧ Tr Dw w.heap.size A8 w7 i.2 w') (fun a ha => ⟨(v6, A8), ha.sub ⟨rfl, rfl, rfl, rfl, rfl, rfl, trivial⟩, ⟨hH, Tr.refl (Dw := Dw) hA⟩⟩) ?_
  rintro K k14 s22 a w23 ⟨⟨v24, A26⟩, ha74, hH27, hr13⟩ hle31 K34 h33
  refine C_of ?_ ha74
  replace h_a_ := Sl.tr h_a_ hr13
  replace h_b := Sl.tr h_b hr13
  replace hB := Nat.le_trans hB hr13.ex.size
  replace hA := hr13.new
  replace hH : Hp w.heap.size A26 w23 (obS (α := UInt32) 75 v24 s22.1 :: []) := hH27
  refine C_seq (C_region (V_y (Y_lss rfl rfl) rfl rfl rfl (V_to (fun _ _ => rfl) ?_)))
  refine C_seq ?_
  refine C_cond rfl (fun hc36 => ?_) (fun hc36 => ?_)
  ·have hlt32 := lt_of_dec hc36
   obtain ⟨x28, h29, h30⟩ := K34 hlt32
   refine C_skip_to (fun _ _ => rfl) ?_
   refine C_seq ?_
   refine C_block ?_
   refine C_seq ?_
   refine C_region ?_
   refine V_mv rfl rfl ?_
   refine V_as rfl rfl ?_
   refine V_to (fun _ _ => rfl) ?_
   refine C_seq ?_
   refine C_region ?_
   refine V_mv rfl rfl ?_
   refine V_mv rfl rfl ?_
   obtain ⟨x37, hx37, h29⟩ := Option.bind_eq_some_iff.1 h29
   refine V_indexAddr h_a_ hx37 Tryd.underlying39 Tryd.sizeOf75 rfl rfl rfl ?_
   intro b38 o39 h40
   refine V_y (Y_load (El.u32 h40) Tryd.isAgg75 rfl) rfl rfl rfl ?_
   refine V_y (Y_convI Tryd.underlying75 Tryd.underlying73 rfl) rfl rfl rfl ?_
   refine V_mv rfl rfl ?_
   refine V_as rfl rfl ?_
   refine V_as rfl rfl ?_
   refine V_to (fun _ _ => rfl) ?_
   refine C_seq ?_
   refine C_seq ?_
   refine C_region ?_
   refine V_mv rfl rfl ?_
   refine V_mv rfl rfl ?_
   refine V_y (Y_lenSl h_b rfl Tryd.underlying39 rfl) rfl rfl rfl ?_
   refine V_y (Y_lss rfl rfl) rfl rfl rfl ?_
   refine V_to (fun _ _ => rfl) ?_
   obtain ⟨s42, ho41, h29⟩ := Option.bind_eq_some_iff.1 h29
   refine C_cutG (ι := Unit) (fun (_ : Unit) => [(0, v_a_), (1, v_b), (5, v24), (7, .int .i64 (k14 : Int)), (8, .int .u64 (IntKind.wrap .u64 (x37.toNat : Int))), (9, .int .u64 s42), (14, .int .i64 (a_.length : Int)), (15, .int .i64 (k14 : Int))]) (fun (_ : Unit) => fun w' => w23 = w') ?_ ?_
   ·refine C_cond rfl (fun hc47 => ?_) (fun hc47 => ?_)
    ·rw [if_pos hc47] at ho41
     refine C_region ?_
     refine V_mv rfl rfl ?_
     refine V_mv rfl rfl ?_
     refine V_mv rfl rfl ?_
     obtain ⟨x48, hx48, ho41⟩ := Option.bind_eq_some_iff.1 ho41
     refine V_indexAddr h_b hx48 Tryd.underlying39 Tryd.sizeOf75 rfl rfl rfl ?_
     intro b49 o50 h51
     refine V_y (Y_load (El.u32 h51) Tryd.isAgg75 rfl) rfl rfl rfl ?_
     refine V_y (Y_convI Tryd.underlying75 Tryd.underlying73 rfl) rfl rfl rfl ?_
     refine V_y (Y_add rfl rfl) rfl rfl rfl ?_
     refine V_as rfl rfl ?_
     obtain rfl := Option.some.inj ho41
     refine V_end (fun a ha52 => ?_)
     exact ⟨(), ha52.sub ⟨rfl, rfl, rfl, rfl, rfl, rfl, rfl, rfl, trivial⟩, rfl⟩
    ·rw [if_neg (nt hc47)] at ho41
     obtain rfl := Option.some.inj ho41
     refine C_skip (fun a ha53 => ?_)
     exact ⟨(), ha53.sub ⟨rfl, rfl, rfl, rfl, rfl, rfl, rfl, rfl, trivial⟩, rfl⟩
   rintro _ _ rfl a ha46
   refine C_at (n := ⟨50, [], none⟩) (fun _ _ => rfl) ?_ ha46
   refine C_seq ?_
   refine C_region ?_
   refine V_as rfl rfl ?_
   refine V_to (fun _ _ => rfl) ?_
   refine C_seq ?_
   refine C_seq ?_
   refine C_region ?_
   refine V_mv rfl rfl ?_
   refine V_mv rfl rfl ?_
   refine V_y (Y_lss rfl rfl) rfl rfl rfl ?_
   refine V_to (fun _ _ => rfl) ?_
   obtain ⟨s55, ho54, h29⟩ := Option.bind_eq_some_iff.1 h29
   refine C_cutG (ι := Unit) (fun (_ : Unit) => [(0, v_a_), (1, v_b), (5, v24), (6, .int .u64 s55.1), (7, .int .i64 (k14 : Int)), (8, .int .u64 s55.2), (9, .int .u64 s42), (14, .int .i64 (a_.length : Int)), (15, .int .i64 (k14 : Int))]) (fun (_ : Unit) => fun w' => w23 = w') ?_ ?_
   ·refine C_cond rfl (fun hc60 => ?_) (fun hc60 => ?_)
    ·rw [if_pos hc60] at ho54
     refine C_seq ?_
     refine C_region ?_
     refine V_mv rfl rfl ?_
     refine V_y (Y_add rfl rfl) rfl rfl rfl ?_
     refine V_as rfl rfl ?_
     refine V_to (fun _ _ => rfl) ?_
     refine C_region ?_
     refine V_as rfl rfl ?_
     obtain rfl := Option.some.inj ho54
     refine V_end (fun a ha61 => ?_)
     exact ⟨(), ha61.sub ⟨rfl, rfl, rfl, rfl, rfl, rfl, rfl, rfl, rfl, trivial⟩, rfl⟩
    ·rw [if_neg (nt hc60)] at ho54
     obtain rfl := Option.some.inj ho54
     refine C_skip (fun a ha62 => ?_)
     exact ⟨(), ha62.sub ⟨rfl, rfl, rfl, rfl, rfl, rfl, rfl, rfl, rfl, trivial⟩, rfl⟩
   rintro _ _ rfl a ha59
   refine C_at (n := ⟨50, [], none⟩) (fun _ _ => rfl) ?_ ha59
   refine C_region ?_
   refine V_mv rfl rfl ?_
   refine V_mv rfl rfl ?_
   refine V_mv rfl rfl ?_
   refine V_mv rfl rfl ?_
   refine V_y (Y_sub rfl rfl) rfl rfl rfl ?_
   refine V_y (Y_convU32 Tryd.underlying73 Tryd.underlying75 rfl) rfl rfl rfl ?_
   obtain ⟨x63, hx63, h29⟩ := Option.bind_eq_some_iff.1 h29
   refine V_indexAddrH (α := UInt32) (e := 75) (v := v24) (l := s22.1) hH (i := 0) rfl hx63 Tryd.underlying39 Tryd.sizeOf75 rfl rfl rfl ?_
   intro b64 o65 h66 hl67
   obtain ⟨x68, hx68, h29⟩ := Option.bind_eq_some_iff.1 h29
   refine V_storeH (Dw := Dw) (α := UInt32) (e := 75) (v := v24) (l := s22.1) hH (i := 0) rfl hl67 hx68 rfl Tryd.sizeOf75 rfl hB hA rfl rfl ?_
   intro w69 hH70 ht71
   replace hr13 := Tr.trans hr13 ht71
   replace hH : Hp w.heap.size A26 w69 (obS (α := UInt32) 75 v24 x68 :: []) := hH70
   refine V_to (fun _ _ => rfl) ?_
   refine C_region ?_
   refine V_y (Y_addI rfl rfl) rfl rfl rfl ?_
   refine V_mv rfl rfl ?_
   obtain rfl := Option.some.inj h29
   refine V_end (fun a ha72 => ?_)
   exact ⟨(x68, s55.1), hlt32, h30, ⟨(v24, A26), ha72.sub ⟨rfl, rfl, rfl, rfl, rfl, (congrArg (fun z => some (Value.int .i64 z)) (w64_succ hlt32 hn35)), trivial⟩, ⟨hH, hr13⟩⟩⟩
  ·refine C_exit (fun a ha73 => ?_)
   exact ⟨((s22.1, s22.2), v24, A26), ha73.sub ⟨rfl, trivial⟩, ⟨(h33 (eq_of_dec hle31 hc36)).symm, hH, hr13⟩⟩
 rintro ⟨s12, v18, A20⟩ w15 ⟨rfl, hH21, hk16⟩ a ha17
 rw [Lp.andThen_fin] at hm
 replace hK := Tr.trans hK hk16
 replace hB := Nat.le_trans hB hk16.ex.size
 replace hA := hk16.new
 replace hH : Hp w.heap.size A20 w15 (obS (α := UInt32) 75 v18 s12.1 :: []) := hH21
 refine C_at (n := ⟨50, [], none⟩) (fun _ _ => rfl) ?_ ha17
 refine C_seq ?_
 refine C_region ?_
 refine V_mv rfl rfl ?_
 obtain ⟨x75, hx75, hm⟩ := Option.bind_eq_some_iff.1 hm
 refine V_call Tryd.call44 rfl rfl rfl rfl (portref2_whole_trim_c (Dw := Dw) w15 hB hA s12.1 v18 hH hx75) ?_
 rintro v76 w78 ⟨_, A79, rfl, hH80, ht81⟩
 replace hK := Tr.trans hK ht81
 replace hH : Hp w.heap.size A79 w78 (obS (α := UInt32) 75 v76 x75 :: []) := hH80
 refine V_as rfl rfl ?_
 refine V_to (fun _ _ => rfl) ?_
 obtain rfl := Option.some.inj hm
 refine C_ret ?_
 try simp only [↓inBlock_ret, ↓then_ret]
 exact retQ rfl (Res.one Tryd.results47 rfl) ⟨v76, rfl, (Hp.ownd hH (i := 0) rfl), hK.kp⟩

set_option maxRecDepth 4000 in
set_option maxHeartbeats 4000000 in
theorem portref2_ratio_minus_c (w : World) {A : Nat → Prop} (hA : ∀ b, w.heap.size ≤ b → A b) (a_ : portref2_ratio) (v_a_0 : Value) (h_a_0 : Sl A w v_a_0 a_.num) (v_a_1 : Value) (h_a_1 : Sl A w v_a_1 a_.den) (b : portref2_ratio) (v_b0 : Value) (h_b0 : Sl A w v_b0 b.num) (v_b1 : Value) (h_b1 : Sl A w v_b1 b.den) {r : portref2_ratio} (hm : portref2_ratio_minus a_ b = some r) : Ret Tryd.prog 35 #[.agg #[v_a_0, v_a_1], .agg #[v_b0, v_b1]] w fun v w' => ∃ s0 s1, v = .agg #[s0, s1] ∧ Sl A w' s0 r.num ∧ Sl A w' s1 r.den ∧ Kp Dw w w' := by
 unfold portref2_ratio_minus at hm
 refine enter Tryd.func35 rfl Tryd.ntmps35 rfl ?_
 have hA0 := hA
 have hB := Nat.le_refl w.heap.size
 have hK : Tr Dw w.heap.size A w A w := Tr.refl (Dw := Dw) hA
 have hH : Hp w.heap.size A w [] := Hp.nil
 refine C_seq ?_
 refine C_region ?_
 refine V_box rfl rfl ?_
 intro b9 w10 h11
 have hk13 := h11.kp (Dw := Dw)
 have h12 : El (α := portref2_ratio) A w10 b9 0 a_ := h11.el hA ⟨[v_a_0], _, rfl, ⟨_, rfl, h_a_0⟩, ⟨_, rfl, h_a_1⟩⟩
 have ht14 := Kp.tr hk13 hA hB
 replace hH := Hp.kp hH hk13
 replace h_b0 := Sl.tr h_b0 ht14
 replace h_b1 := Sl.tr h_b1 ht14
 replace hK := Tr.trans hK ht14
 replace hB := Nat.le_trans hB ht14.ex.size
 replace hA := ht14.new
 refine V_box rfl rfl ?_
 intro b15 w17 h18
 have hk20 := h18.kp (Dw := Dw)
 have h19 : El (α := portref2_ratio) A w17 b15 0 b := h18.el hA ⟨[v_b0], _, rfl, ⟨_, rfl, h_b0⟩, ⟨_, rfl, h_b1⟩⟩
 have ht21 := Kp.tr hk20 hA hB
 replace hH := Hp.kp hH hk20
 replace h12 := El.tr h12 ht21
 replace hK := Tr.trans hK ht21
 replace hB := Nat.le_trans hB ht21.ex.size
 replace hA := ht21.new
 refine V_allocH (Dw := Dw) (B := w.heap.size) hH Tryd.zeroValue41 hB hA rfl ?_
 intro b22 w23 A24 hH25 ht26
 replace h12 := El.tr h12 ht26
 replace h19 := El.tr h19 ht26
 replace hK := Tr.trans hK ht26
 replace hB := Nat.le_trans hB ht26.ex.size
 replace hA := ht26.new
 replace hH : Hp w.heap.size A24 w23 (obC b22 [.slice none 0 0, .slice none 0 0] 41 :: []) := hH25
 refine V_to (fun _ _ => rfl) ?_
 refine C_seq ?_
 refine C_region_ch (Dw := Dw) A24 18 [(1, 0), (1, 1), (1, 2), (1, 3), (1, 5), (1, 6), (1, 7), (1, 8), (1, 11), (1, 12), (1, 13), (1, 14), (2, 4), (2, 9), (2, 10), (2, 15), (2, 16), (4, 17)] Tryd_mixed (by kernel_rfl) (fun w27 hk28 => ?_)
 have ht29 := Kp.tr hk28 hA hB
 replace hH := Hp.kp hH hk28
 replace h12 := El.tr h12 ht29
 replace h19 := El.tr h19 ht29
 replace hK := Tr.trans hK ht29
 replace hB := Nat.le_trans hB ht29.ex.size
 replace hA := ht29.new
 refine CH_q2 (Dw := Dw) rfl ?_
 have h30 := El_portref2_ratio_0 h12
 refine VQ_y (fun w' hw' => Y_fieldAddr Tryd.underlying41 rfl Tryd.sizeOf39 (by decide) rfl) rfl rfl rfl ?_
 refine VQ_CH (Dw := Dw) ?_
 refine CH_q2 (Dw := Dw) rfl ?_
 obtain ⟨v31, h32, h33⟩ := El.list h30
 refine VQ_y (fun w' hw' => Y_load ((World.cell?_of_block (hw'.2 _ h30.2.1 h30.1)).trans h32) Tryd.isAgg39 rfl) rfl rfl rfl ?_
 refine VQ_CH (Dw := Dw) ?_
 refine CH_q2 (Dw := Dw) rfl ?_
 have h34 := El_portref2_ratio_1 h19
 refine VQ_y (fun w' hw' => Y_fieldAddr Tryd.underlying41 rfl Tryd.sizeOf39 (by decide) rfl) rfl rfl rfl ?_
 refine VQ_CH (Dw := Dw) ?_
 refine CH_q2 (Dw := Dw) rfl ?_
 obtain ⟨v35, h36, h37⟩ := El.list h34
 refine VQ_y (fun w' hw' => Y_load ((World.cell?_of_block (hw'.2 _ h34.2.1 h34.1)).trans h36) Tryd.isAgg39 rfl) rfl rfl rfl ?_
 refine VQ_CH (Dw := Dw) ?_
 refine CH_q2 (Dw := Dw) rfl ?_
 have h38 := El_portref2_ratio_0 h19
 refine VQ_y (fun w' hw' => Y_fieldAddr Tryd.underlying41 rfl Tryd.sizeOf39 (by decide) rfl) rfl rfl rfl ?_
 refine VQ_CH (Dw := Dw) ?_
 refine CH_q2 (Dw := Dw) rfl ?_
 obtain ⟨v39, h40, h41⟩ := El.list h38
 refine VQ_y (fun w' hw' => Y_load ((World.cell?_of_block (hw'.2 _ h38.2.1 h38.1)).trans h40) Tryd.isAgg39 rfl) rfl rfl rfl ?_
 refine VQ_CH (Dw := Dw) ?_
 refine CH_q2 (Dw := Dw) rfl ?_
 have h42 := El_portref2_ratio_1 h12
 refine VQ_y (fun w' hw' => Y_fieldAddr Tryd.underlying41 rfl Tryd.sizeOf39 (by decide) rfl) rfl rfl rfl ?_
 refine VQ_CH (Dw := Dw) ?_
 refine CH_q2 (Dw := Dw) rfl ?_
 obtain ⟨v43, h44, h45⟩ := El.list h42
 refine VQ_y (fun w' hw' => Y_load ((World.cell?_of_block (hw'.2 _ h42.2.1 h42.1)).trans h44) Tryd.isAgg39 rfl) rfl rfl rfl ?_
 refine VQ_CH (Dw := Dw) ?_
 refine CH_q2 (Dw := Dw) rfl ?_
 have h46 := El_portref2_ratio_1 h12
 refine VQ_y (fun w' hw' => Y_fieldAddr Tryd.underlying41 rfl Tryd.sizeOf39 (by decide) rfl) rfl rfl rfl ?_
 refine VQ_CH (Dw := Dw) ?_
 refine CH_q2 (Dw := Dw) rfl ?_
 obtain ⟨v47, h48, h49⟩ := El.list h46
 refine VQ_y (fun w' hw' => Y_load ((World.cell?_of_block (hw'.2 _ h46.2.1 h46.1)).trans h48) Tryd.isAgg39 rfl) rfl rfl rfl ?_
 refine VQ_CH (Dw := Dw) ?_
 refine CH_q2 (Dw := Dw) rfl ?_
 have h50 := El_portref2_ratio_1 h19
 refine VQ_y (fun w' hw' => Y_fieldAddr Tryd.underlying41 rfl Tryd.sizeOf39 (by decide) rfl) rfl rfl rfl ?_
 refine VQ_CH (Dw := Dw) ?_
 refine CH_q2 (Dw := Dw) rfl ?_
 obtain ⟨v51, h52, h53⟩ := El.list h50
 refine VQ_y (fun w' hw' => Y_load ((World.cell?_of_block (hw'.2 _ h50.2.1 h50.1)).trans h52) Tryd.isAgg39 rfl) rfl rfl rfl ?_
 refine VQ_CH (Dw := Dw) ?_
 refine CH_l1 (Dw := Dw) (k := 0) rfl ?_
 obtain ⟨x54, hx54, hm⟩ := Option.bind_eq_some_iff.1 hm
 refine V_call Tryd.call31 rfl rfl rfl rfl (portref2_whole_times_c (Dw := Dw) w27 hA a_.num v31 h33 b.den v35 h37 hx54) ?_
 rintro v55 w57 ⟨_, rfl, h56, hk58⟩
 obtain ⟨A59, ht60, hH61⟩ := Hp.addOwnd (Dw := Dw) hH hB hA hk58 h56
 replace h41 := Sl.tr h41 ht60
 replace h45 := Sl.tr h45 ht60
 replace h49 := Sl.tr h49 ht60
 replace h53 := Sl.tr h53 ht60
 replace hK := Tr.trans hK ht60
 replace hB := Nat.le_trans hB ht60.ex.size
 replace hA := ht60.new
 replace hH : Hp w.heap.size A59 w57 (obS (α := UInt32) 75 v55 x54 :: obC b22 [.slice none 0 0, .slice none 0 0] 41 :: []) := hH61
 refine V_CH (Dw := Dw) (hk58) ?_
 refine CH_l1 (Dw := Dw) (k := 0) rfl ?_
 obtain ⟨x62, hx62, hm⟩ := Option.bind_eq_some_iff.1 hm
 refine V_call Tryd.call31 rfl rfl rfl rfl (portref2_whole_times_c (Dw := Dw) w57 hA b.num v39 h41 a_.den v43 h45 hx62) ?_
 rintro v63 w65 ⟨_, rfl, h64, hk66⟩
 obtain ⟨A67, ht68, hH69⟩ := Hp.addOwnd (Dw := Dw) hH hB hA hk66 h64
 replace h49 := Sl.tr h49 ht68
 replace h53 := Sl.tr h53 ht68
 replace hK := Tr.trans hK ht68
 replace hB := Nat.le_trans hB ht68.ex.size
 replace hA := ht68.new
 replace hH : Hp w.heap.size A67 w65 (obS (α := UInt32) 75 v63 x62 :: obS (α := UInt32) 75 v55 x54 :: obC b22 [.slice none 0 0, .slice none 0 0] 41 :: []) := hH69
 refine V_CH (Dw := Dw) (hk66) ?_
 refine CH_l1 (Dw := Dw) (k := 0) rfl ?_
 obtain ⟨x70, hx70, hm⟩ := Option.bind_eq_some_iff.1 hm
 refine V_call Tryd.call47 rfl rfl rfl rfl (portref2_whole_minus_c (Dw := Dw) w65 (A := fun _ => True) (fun _ _ => trivial) x54 v55 (Hp.any (α := UInt32) (e := 75) (v := v55) (l := x54) hH (i := 1) rfl) x62 v63 (Hp.any (α := UInt32) (e := 75) (v := v63) (l := x62) hH (i := 0) rfl) hx70) ?_
 rintro v71 w73 ⟨_, rfl, h72, hk74⟩
 obtain ⟨A75, ht76, hH77⟩ := Hp.addOwnd (Dw := Dw) hH hB hA hk74 h72
 replace h49 := Sl.tr h49 ht76
 replace h53 := Sl.tr h53 ht76
 replace hK := Tr.trans hK ht76
 replace hB := Nat.le_trans hB ht76.ex.size
 replace hA := ht76.new
 replace hH : Hp w.heap.size A75 w73 (obS (α := UInt32) 75 v71 x70 :: obS (α := UInt32) 75 v63 x62 :: obS (α := UInt32) 75 v55 x54 :: obC b22 [.slice none 0 0, .slice none 0 0] 41 :: []) := hH77
 refine V_CH (Dw := Dw) (hk74) ?_
 refine CH_l1 (Dw := Dw) (k := 0) rfl ?_
 obtain ⟨x78, hx78, hm⟩ := Option.bind_eq_some_iff.1 hm
 refine V_call Tryd.call31 rfl rfl rfl rfl (portref2_whole_times_c (Dw := Dw) w73 hA a_.den v47 h49 b.den v51 h53 hx78) ?_
 rintro v79 w81 ⟨_, rfl, h80, hk82⟩
 obtain ⟨A83, ht84, hH85⟩ := Hp.addOwnd (Dw := Dw) hH hB hA hk82 h80
 replace hK := Tr.trans hK ht84
 replace hB := Nat.le_trans hB ht84.ex.size
 replace hA := ht84.new
 replace hH : Hp w.heap.size A83 w81 (obS (α := UInt32) 75 v79 x78 :: obS (α := UInt32) 75 v71 x70 :: obS (α := UInt32) 75 v63 x62 :: obS (α := UInt32) 75 v55 x54 :: obC b22 [.slice none 0 0, .slice none 0 0] 41 :: []) := hH85
 refine V_CH (Dw := Dw) (hk82) ?_
 refine CH_l1 (Dw := Dw) (k := 0) rfl ?_
 obtain ⟨A86, ht87, h88, hH89⟩ := Hp.freeze (Dw := Dw) (α := UInt32) (v := v71) (l := x70) hH (i := 1) rfl hA
 replace hK := Tr.trans hK ht87
 replace hB := Nat.le_trans hB ht87.ex.size
 replace hA := ht87.new
 replace hH : Hp w.heap.size A86 w81 (obS (α := UInt32) 75 v79 x78 :: obS (α := UInt32) 75 v63 x62 :: obS (α := UInt32) 75 v55 x54 :: obC b22 [.slice none 0 0, .slice none 0 0] 41 :: []) := hH89
 obtain ⟨A91, ht92, h93, hH94⟩ := Hp.freeze (Dw := Dw) (α := UInt32) (v := v79) (l := x78) hH (i := 0) rfl hA
 replace h88 := Sl.tr h88 ht92
 replace hK := Tr.trans hK ht92
 replace hB := Nat.le_trans hB ht92.ex.size
 replace hA := ht92.new
 replace hH : Hp w.heap.size A91 w81 (obS (α := UInt32) 75 v63 x62 :: obS (α := UInt32) 75 v55 x54 :: obC b22 [.slice none 0 0, .slice none 0 0] 41 :: []) := hH94
 obtain ⟨x96, hx96, hm⟩ := Option.bind_eq_some_iff.1 hm
 refine V_call Tryd.call33 rfl rfl rfl rfl (portref2_lowest_c (Dw := Dw) w81 hA x70 v71 h88 x78 v79 h93 hx96) ?_
 rintro _ w101 ⟨v97, v99, rfl, h98, h100, hk102⟩
 have ht103 := Kp.tr hk102 hA hB
 replace hH := Hp.kp hH hk102
 replace hK := Tr.trans hK ht103
 replace hB := Nat.le_trans hB ht103.ex.size
 replace hA := ht103.new
 refine V_CH (Dw := Dw) (hk102) ?_
 refine CH_l1 (Dw := Dw) (k := 2) rfl ?_
 have h109 : (v97).oneCell' = true := by obtain ⟨_, _, e, _⟩ := Sl.form h98; rw [e]; rfl
 have h112 : (v99).oneCell' = true := by obtain ⟨_, _, e, _⟩ := Sl.form h100; rw [e]; rfl
 refine V_storeC (Dw := Dw) (off := 0) (ds := [v97, v99]) hH (i := 2) rfl Tryd.sizeOf41 rfl (Nat.le_of_ble_eq_true rfl) (by exact (List.forall_mem_cons.2 ⟨h109, (List.forall_mem_cons.2 ⟨h112, (fun _ h => nomatch h)⟩)⟩)) rfl hB hA rfl rfl ?_
 intro w104 hH105 ht106
 replace h98 := Sl.tr h98 ht106
 replace h100 := Sl.tr h100 ht106
 replace hK := Tr.trans hK ht106
 replace hH : Hp w.heap.size A91 w104 (obS (α := UInt32) 75 v63 x62 :: obS (α := UInt32) 75 v55 x54 :: obC b22 [v97, v99] 41 :: []) := hH105
 refine V_CHw (Dw := Dw) ?_
 refine CH_tail (Dw := Dw) ?_
 show V _ _ _ _ [] _ _
 refine V_to (fun _ _ => rfl) ?_
 obtain rfl := Option.some.inj hm
 refine C_ret ?_
 try simp only [↓inBlock_ret, ↓then_ret]
 exact retQ rfl (Res.l1 Tryd.results35 (RL.cell rfl (loadVar_agg (Hp.part (off := 0) (n := 2) (ds := [v97, v99]) hH (i := 2) rfl rfl) Tryd.isAgg41 Tryd.sizeOf41))) ⟨v97, v99, rfl, (Sl.out (Dw := Dw) h98 hA0 hK), (Sl.out (Dw := Dw) h100 hA0 hK), hK.kp⟩

set_option maxRecDepth 4000 in
set_option maxHeartbeats 4000000 in
theorem portref2_ratio_times_c (w : World) {A : Nat → Prop} (hA : ∀ b, w.heap.size ≤ b → A b) (a_ : portref2_ratio) (v_a_0 : Value) (h_a_0 : Sl A w v_a_0 a_.num) (v_a_1 : Value) (h_a_1 : Sl A w v_a_1 a_.den) (b : portref2_ratio) (v_b0 : Value) (h_b0 : Sl A w v_b0 b.num) (v_b1 : Value) (h_b1 : Sl A w v_b1 b.den) {r : portref2_ratio} (hm : portref2_ratio_times a_ b = some r) : Ret Tryd.prog 36 #[.agg #[v_a_0, v_a_1], .agg #[v_b0, v_b1]] w fun v w' => ∃ s0 s1, v = .agg #[s0, s1] ∧ Sl A w' s0 r.num ∧ Sl A w' s1 r.den ∧ Kp Dw w w' := by
 unfold portref2_ratio_times at hm
 refine enter Tryd.func36 rfl Tryd.ntmps36 rfl ?_
 have hA0 := hA
 have hB := Nat.le_refl w.heap.size
 have hK : Tr Dw w.heap.size A w A w := Tr.refl (Dw := Dw) hA
 have hH : Hp w.heap.size A w [] := Hp.nil
 refine C_seq ?_
 refine C_region ?_
 refine V_box rfl rfl ?_
 intro b9 w10 h11
 have hk13 := h11.kp (Dw := Dw)
 have h12 : El (α := portref2_ratio) A w10 b9 0 a_ := h11.el hA ⟨[v_a_0], _, rfl, ⟨_, rfl, h_a_0⟩, ⟨_, rfl, h_a_1⟩⟩
 have ht14 := Kp.tr hk13 hA hB
 replace hH := Hp.kp hH hk13
 replace h_b0 := Sl.tr h_b0 ht14
 replace h_b1 := Sl.tr h_b1 ht14
 replace hK := Tr.trans hK ht14
 replace hB := Nat.le_trans hB ht14.ex.size
 replace hA := ht14.new
 refine V_box rfl rfl ?_
 intro b15 w17 h18
 have hk20 := h18.kp (Dw := Dw)
 have h19 : El (α := portref2_ratio) A w17 b15 0 b := h18.el hA ⟨[v_b0], _, rfl, ⟨_, rfl, h_b0⟩, ⟨_, rfl, h_b1⟩⟩
 have ht21 := Kp.tr hk20 hA hB
 replace hH := Hp.kp hH hk20
 replace h12 := El.tr h12 ht21
 replace hK := Tr.trans hK ht21
 replace hB := Nat.le_trans hB ht21.ex.size
 replace hA := ht21.new
 refine V_allocH (Dw := Dw) (B := w.heap.size) hH Tryd.zeroValue41 hB hA rfl ?_
 intro b22 w23 A24 hH25 ht26
 replace h12 := El.tr h12 ht26
 replace h19 := El.tr h19 ht26
 replace hK := Tr.trans hK ht26
 replace hB := Nat.le_trans hB ht26.ex.size
 replace hA := ht26.new
 replace hH : Hp w.heap.size A24 w23 (obC b22 [.slice none 0 0, .slice none 0 0] 41 :: []) := hH25
 refine V_to (fun _ _ => rfl) ?_
 refine C_seq ?_
 refine C_region_ch (Dw := Dw) A24 12 [(1, 0), (1, 1), (1, 2), (1, 3), (1, 5), (1, 6), (1, 7), (1, 8), (2, 4), (2, 9), (2, 10), (4, 11)] Tryd_mixed (by kernel_rfl) (fun w27 hk28 => ?_)
 have ht29 := Kp.tr hk28 hA hB
 replace hH := Hp.kp hH hk28
 replace h12 := El.tr h12 ht29
 replace h19 := El.tr h19 ht29
 replace hK := Tr.trans hK ht29
 replace hB := Nat.le_trans hB ht29.ex.size
 replace hA := ht29.new
 refine CH_q2 (Dw := Dw) rfl ?_
 have h30 := El_portref2_ratio_0 h12
 refine VQ_y (fun w' hw' => Y_fieldAddr Tryd.underlying41 rfl Tryd.sizeOf39 (by decide) rfl) rfl rfl rfl ?_
 refine VQ_CH (Dw := Dw) ?_
 refine CH_q2 (Dw := Dw) rfl ?_
 obtain ⟨v31, h32, h33⟩ := El.list h30
 refine VQ_y (fun w' hw' => Y_load ((World.cell?_of_block (hw'.2 _ h30.2.1 h30.1)).trans h32) Tryd.isAgg39 rfl) rfl rfl rfl ?_
 refine VQ_CH (Dw := Dw) ?_
 refine CH_q2 (Dw := Dw) rfl ?_
 have h34 := El_portref2_ratio_0 h19
 refine VQ_y (fun w' hw' => Y_fieldAddr Tryd.underlying41 rfl Tryd.sizeOf39 (by decide) rfl) rfl rfl rfl ?_
 refine VQ_CH (Dw := Dw) ?_
 refine CH_q2 (Dw := Dw) rfl ?_
 obtain ⟨v35, h36, h37⟩ := El.list h34
 refine VQ_y (fun w' hw' => Y_load ((World.cell?_of_block (hw'.2 _ h34.2.1 h34.1)).trans h36) Tryd.isAgg39 rfl) rfl rfl rfl ?_
 refine VQ_CH (Dw := Dw) ?_
 refine CH_q2 (Dw := Dw) rfl ?_
 have h38 := El_portref2_ratio_1 h12
 refine VQ_y (fun w' hw' => Y_fieldAddr Tryd.underlying41 rfl Tryd.sizeOf39 (by decide) rfl) rfl rfl rfl ?_
 refine VQ_CH (Dw := Dw) ?_
 refine CH_q2 (Dw := Dw) rfl ?_
 obtain ⟨v39, h40, h41⟩ := El.list h38
 refine VQ_y (fun w' hw' => Y_load ((World.cell?_of_block (hw'.2 _ h38.2.1 h38.1)).trans h40) Tryd.isAgg39 rfl) rfl rfl rfl ?_
 refine VQ_CH (Dw := Dw) ?_
 refine CH_q2 (Dw := Dw) rfl ?_
 have h42 := El_portref2_ratio_1 h19
 refine VQ_y (fun w' hw' => Y_fieldAddr Tryd.underlying41 rfl Tryd.sizeOf39 (by decide) rfl) rfl rfl rfl ?_
 refine VQ_CH (Dw := Dw) ?_
 refine CH_q2 (Dw := Dw) rfl ?_
 obtain ⟨v43, h44, h45⟩ := El.list h42
 refine VQ_y (fun w' hw' => Y_load ((World.cell?_of_block (hw'.2 _ h42.2.1 h42.1)).trans h44) Tryd.isAgg39 rfl) rfl rfl rfl ?_
 refine VQ_CH (Dw := Dw) ?_
 refine CH_l1 (Dw := Dw) (k := 0) rfl ?_
 obtain ⟨x46, hx46, hm⟩ := Option.bind_eq_some_iff.1 hm
 refine V_call Tryd.call31 rfl rfl rfl rfl (portref2_whole_times_c (Dw := Dw) w27 hA a_.num v31 h33 b.num v35 h37 hx46) ?_
 rintro v47 w49 ⟨_, rfl, h48, hk50⟩
 obtain ⟨A51, ht52, hH53⟩ := Hp.addOwnd (Dw := Dw) hH hB hA hk50 h48
 replace h41 := Sl.tr h41 ht52
 replace h45 := Sl.tr h45 ht52
 replace hK := Tr.trans hK ht52
 replace hB := Nat.le_trans hB ht52.ex.size
 replace hA := ht52.new
 replace hH : Hp w.heap.size A51 w49 (obS (α := UInt32) 75 v47 x46 :: obC b22 [.slice none 0 0, .slice none 0 0] 41 :: []) := hH53
 refine V_CH (Dw := Dw) (hk50) ?_
 refine CH_l1 (Dw := Dw) (k := 0) rfl ?_
 obtain ⟨x54, hx54, hm⟩ := Option.bind_eq_some_iff.1 hm
 refine V_call Tryd.call31 rfl rfl rfl rfl (portref2_whole_times_c (Dw := Dw) w49 hA a_.den v39 h41 b.den v43 h45 hx54) ?_
 rintro v55 w57 ⟨_, rfl, h56, hk58⟩
 obtain ⟨A59, ht60, hH61⟩ := Hp.addOwnd (Dw := Dw) hH hB hA hk58 h56
 replace hK := Tr.trans hK ht60
 replace hB := Nat.le_trans hB ht60.ex.size
 replace hA := ht60.new
 replace hH : Hp w.heap.size A59 w57 (obS (α := UInt32) 75 v55 x54 :: obS (α := UInt32) 75 v47 x46 :: obC b22 [.slice none 0 0, .slice none 0 0] 41 :: []) := hH61
 refine V_CH (Dw := Dw) (hk58) ?_
 refine CH_l1 (Dw := Dw) (k := 0) rfl ?_
 obtain ⟨A62, ht63, h64, hH65⟩ := Hp.freeze (Dw := Dw) (α := UInt32) (v := v47) (l := x46) hH (i := 1) rfl hA
 replace hK := Tr.trans hK ht63
 replace hB := Nat.le_trans hB ht63.ex.size
 replace hA := ht63.new
 replace hH : Hp w.heap.size A62 w57 (obS (α := UInt32) 75 v55 x54 :: obC b22 [.slice none 0 0, .slice none 0 0] 41 :: []) := hH65
 obtain ⟨A67, ht68, h69, hH70⟩ := Hp.freeze (Dw := Dw) (α := UInt32) (v := v55) (l := x54) hH (i := 0) rfl hA
 replace h64 := Sl.tr h64 ht68
 replace hK := Tr.trans hK ht68
 replace hB := Nat.le_trans hB ht68.ex.size
 replace hA := ht68.new
 replace hH : Hp w.heap.size A67 w57 (obC b22 [.slice none 0 0, .slice none 0 0] 41 :: []) := hH70
 obtain ⟨x72, hx72, hm⟩ := Option.bind_eq_some_iff.1 hm
 refine V_call Tryd.call33 rfl rfl rfl rfl (portref2_lowest_c (Dw := Dw) w57 hA x46 v47 h64 x54 v55 h69 hx72) ?_
 rintro _ w77 ⟨v73, v75, rfl, h74, h76, hk78⟩
 have ht79 := Kp.tr hk78 hA hB
 replace hH := Hp.kp hH hk78
 replace hK := Tr.trans hK ht79
 replace hB := Nat.le_trans hB ht79.ex.size
 replace hA := ht79.new
 refine V_CH (Dw := Dw) (hk78) ?_
 refine CH_l1 (Dw := Dw) (k := 2) rfl ?_
 have h85 : (v73).oneCell' = true := by obtain ⟨_, _, e, _⟩ := Sl.form h74; rw [e]; rfl
 have h88 : (v75).oneCell' = true := by obtain ⟨_, _, e, _⟩ := Sl.form h76; rw [e]; rfl
 refine V_storeC (Dw := Dw) (off := 0) (ds := [v73, v75]) hH (i := 0) rfl Tryd.sizeOf41 rfl (Nat.le_of_ble_eq_true rfl) (by exact (List.forall_mem_cons.2 ⟨h85, (List.forall_mem_cons.2 ⟨h88, (fun _ h => nomatch h)⟩)⟩)) rfl hB hA rfl rfl ?_
 intro w80 hH81 ht82
 replace h74 := Sl.tr h74 ht82
 replace h76 := Sl.tr h76 ht82
 replace hK := Tr.trans hK ht82
 replace hH : Hp w.heap.size A67 w80 (obC b22 [v73, v75] 41 :: []) := hH81
 refine V_CHw (Dw := Dw) ?_
 refine CH_tail (Dw := Dw) ?_
 show V _ _ _ _ [] _ _
 refine V_to (fun _ _ => rfl) ?_
 obtain rfl := Option.some.inj hm
 refine C_ret ?_
 try simp only [↓inBlock_ret, ↓then_ret]
 exact retQ rfl (Res.l1 Tryd.results36 (RL.cell rfl (loadVar_agg (Hp.part (off := 0) (n := 2) (ds := [v73, v75]) hH (i := 0) rfl rfl) Tryd.isAgg41 Tryd.sizeOf41))) ⟨v73, v75, rfl, (Sl.out (Dw := Dw) h74 hA0 hK), (Sl.out (Dw := Dw) h76 hA0 hK), hK.kp⟩

set_option maxRecDepth 4000 in
set_option maxHeartbeats 4000000 in
theorem portref2_ratio_by_c (w : World) {A : Nat → Prop} (hA : ∀ b, w.heap.size ≤ b → A b) (a_ : portref2_ratio) (v_a_0 : Value) (h_a_0 : Sl A w v_a_0 a_.num) (v_a_1 : Value) (h_a_1 : Sl A w v_a_1 a_.den) (b : portref2_ratio) (v_b0 : Value) (h_b0 : Sl A w v_b0 b.num) (v_b1 : Value) (h_b1 : Sl A w v_b1 b.den) {r : portref2_ratio} (hm : portref2_ratio_by a_ b = some r) : Ret Tryd.prog 37 #[.agg #[v_a_0, v_a_1], .agg #[v_b0, v_b1]] w fun v w' => ∃ s0 s1, v = .agg #[s0, s1] ∧ Sl A w' s0 r.num ∧ Sl A w' s1 r.den ∧ Kp Dw w w' := by
 unfold portref2_ratio_by at hm
 refine enter Tryd.func37 rfl Tryd.ntmps37 rfl ?_
 have hA0 := hA
 have hB := Nat.le_refl w.heap.size
 have hK : Tr Dw w.heap.size A w A w := Tr.refl (Dw := Dw) hA
 have hH : Hp w.heap.size A w [] := Hp.nil
 refine C_seq ?_
 refine C_region ?_
 refine V_box rfl rfl ?_
 intro b9 w10 h11
 have hk13 := h11.kp (Dw := Dw)
 have h12 : El (α := portref2_ratio) A w10 b9 0 a_ := h11.el hA ⟨[v_a_0], _, rfl, ⟨_, rfl, h_a_0⟩, ⟨_, rfl, h_a_1⟩⟩
 have ht14 := Kp.tr hk13 hA hB
 replace hH := Hp.kp hH hk13
 replace h_b0 := Sl.tr h_b0 ht14
 replace h_b1 := Sl.tr h_b1 ht14
 replace hK := Tr.trans hK ht14
 replace hB := Nat.le_trans hB ht14.ex.size
 replace hA := ht14.new
 refine V_box rfl rfl ?_
 intro b15 w17 h18
 have hk20 := h18.kp (Dw := Dw)
 have h19 : El (α := portref2_ratio) A w17 b15 0 b := h18.el hA ⟨[v_b0], _, rfl, ⟨_, rfl, h_b0⟩, ⟨_, rfl, h_b1⟩⟩
 have ht21 := Kp.tr hk20 hA hB
 replace hH := Hp.kp hH hk20
 replace h12 := El.tr h12 ht21
 replace hK := Tr.trans hK ht21
 replace hB := Nat.le_trans hB ht21.ex.size
 replace hA := ht21.new
 refine V_allocH (Dw := Dw) (B := w.heap.size) hH Tryd.zeroValue41 hB hA rfl ?_
 intro b22 w23 A24 hH25 ht26
 replace h12 := El.tr h12 ht26
 replace h19 := El.tr h19 ht26
 replace hK := Tr.trans hK ht26
 replace hB := Nat.le_trans hB ht26.ex.size
 replace hA := ht26.new
 replace hH : Hp w.heap.size A24 w23 (obC b22 [.slice none 0 0, .slice none 0 0] 41 :: []) := hH25
 refine V_to (fun _ _ => rfl) ?_
 refine C_seq ?_
 refine C_region_ch (Dw := Dw) A24 12 [(1, 0), (1, 1), (1, 2), (1, 3), (1, 5), (1, 6), (1, 7), (1, 8), (2, 4), (2, 9), (2, 10), (4, 11)] Tryd_mixed (by kernel_rfl) (fun w27 hk28 => ?_)
 have ht29 := Kp.tr hk28 hA hB
 replace hH := Hp.kp hH hk28
 replace h12 := El.tr h12 ht29
 replace h19 := El.tr h19 ht29
 replace hK := Tr.trans hK ht29
 replace hB := Nat.le_trans hB ht29.ex.size
 replace hA := ht29.new
 refine CH_q2 (Dw := Dw) rfl ?_
 have h30 := El_portref2_ratio_0 h12
 refine VQ_y (fun w' hw' => Y_fieldAddr Tryd.underlying41 rfl Tryd.sizeOf39 (by decide) rfl) rfl rfl rfl ?_
 refine VQ_CH (Dw := Dw) ?_
 refine CH_q2 (Dw := Dw) rfl ?_
 obtain ⟨v31, h32, h33⟩ := El.list h30
 refine VQ_y (fun w' hw' => Y_load ((World.cell?_of_block (hw'.2 _ h30.2.1 h30.1)).trans h32) Tryd.isAgg39 rfl) rfl rfl rfl ?_
 refine VQ_CH (Dw := Dw) ?_
 refine CH_q2 (Dw := Dw) rfl ?_
 have h34 := El_portref2_ratio_1 h19
 refine VQ_y (fun w' hw' => Y_fieldAddr Tryd.underlying41 rfl Tryd.sizeOf39 (by decide) rfl) rfl rfl rfl ?_
 refine VQ_CH (Dw := Dw) ?_
 refine CH_q2 (Dw := Dw) rfl ?_
 obtain ⟨v35, h36, h37⟩ := El.list h34
 refine VQ_y (fun w' hw' => Y_load ((World.cell?_of_block (hw'.2 _ h34.2.1 h34.1)).trans h36) Tryd.isAgg39 rfl) rfl rfl rfl ?_
 refine VQ_CH (Dw := Dw) ?_
 refine CH_q2 (Dw := Dw) rfl ?_
 have h38 := El_portref2_ratio_1 h12
 refine VQ_y (fun w' hw' => Y_fieldAddr Tryd.underlying41 rfl Tryd.sizeOf39 (by decide) rfl) rfl rfl rfl ?_
 refine VQ_CH (Dw := Dw) ?_
 refine CH_q2 (Dw := Dw) rfl ?_
 obtain ⟨v39, h40, h41⟩ := El.list h38
 refine VQ_y (fun w' hw' => Y_load ((World.cell?_of_block (hw'.2 _ h38.2.1 h38.1)).trans h40) Tryd.isAgg39 rfl) rfl rfl rfl ?_
 refine VQ_CH (Dw := Dw) ?_
 refine CH_q2 (Dw := Dw) rfl ?_
 have h42 := El_portref2_ratio_0 h19
 refine VQ_y (fun w' hw' => Y_fieldAddr Tryd.underlying41 rfl Tryd.sizeOf39 (by decide) rfl) rfl rfl rfl ?_
 refine VQ_CH (Dw := Dw) ?_
 refine CH_q2 (Dw := Dw) rfl ?_
 obtain ⟨v43, h44, h45⟩ := El.list h42
 refine VQ_y (fun w' hw' => Y_load ((World.cell?_of_block (hw'.2 _ h42.2.1 h42.1)).trans h44) Tryd.isAgg39 rfl) rfl rfl rfl ?_
 refine VQ_CH (Dw := Dw) ?_
 refine CH_l1 (Dw := Dw) (k := 0) rfl ?_
 obtain ⟨x46, hx46, hm⟩ := Option.bind_eq_some_iff.1 hm
 refine V_call Tryd.call31 rfl rfl rfl rfl (portref2_whole_times_c (Dw := Dw) w27 hA a_.num v31 h33 b.den v35 h37 hx46) ?_
 rintro v47 w49 ⟨_, rfl, h48, hk50⟩
 obtain ⟨A51, ht52, hH53⟩ := Hp.addOwnd (Dw := Dw) hH hB hA hk50 h48
 replace h41 := Sl.tr h41 ht52
 replace h45 := Sl.tr h45 ht52
 replace hK := Tr.trans hK ht52
 replace hB := Nat.le_trans hB ht52.ex.size
 replace hA := ht52.new
 replace hH : Hp w.heap.size A51 w49 (obS (α := UInt32) 75 v47 x46 :: obC b22 [.slice none 0 0, .slice none 0 0] 41 :: []) := hH53
 refine V_CH (Dw := Dw) (hk50) ?_
 refine CH_l1 (Dw := Dw) (k := 0) rfl ?_
 obtain ⟨x54, hx54, hm⟩ := Option.bind_eq_some_iff.1 hm
 refine V_call Tryd.call31 rfl rfl rfl rfl (portref2_whole_times_c (Dw := Dw) w49 hA a_.den v39 h41 b.num v43 h45 hx54) ?_
 rintro v55 w57 ⟨_, rfl, h56, hk58⟩
 obtain ⟨A59, ht60, hH61⟩ := Hp.addOwnd (Dw := Dw) hH hB hA hk58 h56
 replace hK := Tr.trans hK ht60
 replace hB := Nat.le_trans hB ht60.ex.size
 replace hA := ht60.new
 replace hH : Hp w.heap.size A59 w57 (obS (α := UInt32) 75 v55 x54 :: obS (α := UInt32) 75 v47 x46 :: obC b22 [.slice none 0 0, .slice none 0 0] 41 :: []) := hH61
 refine V_CH (Dw := Dw) (hk58) ?_
 refine CH_l1 (Dw := Dw) (k := 0) rfl ?_
 obtain ⟨A62, ht63, h64, hH65⟩ := Hp.freeze (Dw := Dw) (α := UInt32) (v := v47) (l := x46) hH (i := 1) rfl hA
 replace hK := Tr.trans hK ht63
 replace hB := Nat.le_trans hB ht63.ex.size
 replace hA := ht63.new
 replace hH : Hp w.heap.size A62 w57 (obS (α := UInt32) 75 v55 x54 :: obC b22 [.slice none 0 0, .slice none 0 0] 41 :: []) := hH65
 obtain ⟨A67, ht68, h69, hH70⟩ := Hp.freeze (Dw := Dw) (α := UInt32) (v := v55) (l := x54) hH (i := 0) rfl hA
 replace h64 := Sl.tr h64 ht68
 replace hK := Tr.trans hK ht68
 replace hB := Nat.le_trans hB ht68.ex.size
 replace hA := ht68.new
 replace hH : Hp w.heap.size A67 w57 (obC b22 [.slice none 0 0, .slice none 0 0] 41 :: []) := hH70
 obtain ⟨x72, hx72, hm⟩ := Option.bind_eq_some_iff.1 hm
 refine V_call Tryd.call33 rfl rfl rfl rfl (portref2_lowest_c (Dw := Dw) w57 hA x46 v47 h64 x54 v55 h69 hx72) ?_
 rintro _ w77 ⟨v73, v75, rfl, h74, h76, hk78⟩
 have ht79 := Kp.tr hk78 hA hB
 replace hH := Hp.kp hH hk78
 replace hK := Tr.trans hK ht79
 replace hB := Nat.le_trans hB ht79.ex.size
 replace hA := ht79.new
 refine V_CH (Dw := Dw) (hk78) ?_
 refine CH_l1 (Dw := Dw) (k := 2) rfl ?_
 have h85 : (v73).oneCell' = true := by obtain ⟨_, _, e, _⟩ := Sl.form h74; rw [e]; rfl
 have h88 : (v75).oneCell' = true := by obtain ⟨_, _, e, _⟩ := Sl.form h76; rw [e]; rfl
 refine V_storeC (Dw := Dw) (off := 0) (ds := [v73, v75]) hH (i := 0) rfl Tryd.sizeOf41 rfl (Nat.le_of_ble_eq_true rfl) (by exact (List.forall_mem_cons.2 ⟨h85, (List.forall_mem_cons.2 ⟨h88, (fun _ h => nomatch h)⟩)⟩)) rfl hB hA rfl rfl ?_
 intro w80 hH81 ht82
 replace h74 := Sl.tr h74 ht82
 replace h76 := Sl.tr h76 ht82
 replace hK := Tr.trans hK ht82
 replace hH : Hp w.heap.size A67 w80 (obC b22 [v73, v75] 41 :: []) := hH81
 refine V_CHw (Dw := Dw) ?_
 refine CH_tail (Dw := Dw) ?_
 show V _ _ _ _ [] _ _
 refine V_to (fun _ _ => rfl) ?_
 obtain rfl := Option.some.inj hm
 refine C_ret ?_
 try simp only [↓inBlock_ret, ↓then_ret]
 exact retQ rfl (Res.l1 Tryd.results37 (RL.cell rfl (loadVar_agg (Hp.part (off := 0) (n := 2) (ds := [v73, v75]) hH (i := 0) rfl rfl) Tryd.isAgg41 Tryd.sizeOf41))) ⟨v73, v75, rfl, (Sl.out (Dw := Dw) h74 hA0 hK), (Sl.out (Dw := Dw) h76 hA0 hK), hK.kp⟩

end Go.Proofs.YtbmbgmeggeemcaaDoor.W
