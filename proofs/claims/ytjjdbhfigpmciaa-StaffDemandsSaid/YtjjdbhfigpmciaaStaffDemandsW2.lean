/-
  Written by program (gen.py) from the IR of the dump: each function computes its model.
-/
import Derived.Test.YtjjdbhfigpmciaaStaffDemandsW1
namespace Go.Proofs.Ytjjdbhfigpmciaa.W
open Go Go.RowKit Go.Pu Go.Gw Go.Proofs Go.Proofs.Ytjjdbhfigpmciaa.M
set_option linter.unusedVariables false
set_option linter.unusedSimpArgs false

set_option maxRecDepth 4000 in
set_option maxHeartbeats 4000000 in
theorem portref2_whole_by_c (w : World) {A : Nat → Prop} (hA : ∀ b, w.heap.size ≤ b → A b) (a_ : (List UInt32)) (v_a_ : Value) (h_a_ : Sl A w v_a_ a_) (b : (List UInt32)) (v_b : Value) (h_b : Sl A w v_b b) {r : ((List UInt32) × (List UInt32))} (hm : portref2_whole_by a_ b = some r) : Ret Try.prog 51 #[v_a_, v_b] w fun v w' => ∃ s0 s1, v = .tuple #[s0, s1] ∧ Sl A w' s0 r.1 ∧ Sl A w' s1 r.2 ∧ Kp w w' := by
  unfold portref2_whole_by at hm
  refine enter Try.func51 rfl Try.ntmps51 rfl ?_
  have hA0 := hA
  have hB := Nat.le_refl w.heap.size
  have hK : Tr w.heap.size A w A w := Tr.refl hA
  have hH : Hp w.heap.size A w [] := Hp.nil
  refine C_seq ?_
  refine C_region ?_
  refine V_y (Y_assign rfl) rfl rfl rfl ?_
  refine V_y (Y_assign rfl) rfl rfl rfl ?_
  refine V_to (fun _ _ => rfl) ?_
  refine C_seq ?_
  refine C_seq ?_
  refine C_region ?_
  refine V_y (Y_move rfl) rfl rfl rfl ?_
  refine V_y (Y_move rfl) rfl rfl rfl ?_
  obtain ⟨x5, hx5, hm⟩ := Option.bind_eq_some_iff.1 hm
  refine V_call Try.call44 rfl rfl rfl rfl (portref2_whole_cmp_c w hA a_ v_a_ h_a_ b v_b h_b hx5) ?_
  rintro _ w6 ⟨rfl, hk7⟩
  have ht8 := Kp.tr hk7 hA hB
  replace hH := Hp.kp hH hk7
  replace h_a_ := Sl.tr h_a_ ht8
  replace h_b := Sl.tr h_b ht8
  replace hK := Tr.trans hK ht8
  replace hB := Nat.le_trans hB ht8.ex.size
  replace hA := ht8.new
  refine V_y (Y_lss rfl rfl) rfl rfl rfl ?_
  refine V_to (fun _ _ => rfl) ?_
  refine C_cond rfl (fun hc9 => ?_) (fun hc9 => ?_)
  · rw [if_pos hc9] at hm
    refine C_seq ?_
    refine C_region ?_
    refine V_y (Y_move rfl) rfl rfl rfl ?_
    replace hH : Hp w.heap.size A w6 (obS (α := UInt32) 77 (.slice none 0 0) ([] : (List UInt32)) :: []) := Hp.addNil (α := UInt32) (e := 77) hH
    obtain ⟨x10, hx10, hm⟩ := Option.bind_eq_some_iff.1 hm
    refine V_appendH (e := 77) (v := .slice none 0 0) (l := ([] : (List UInt32))) (ti := Try.t77) (bytes := 4) (lim := 35184372088832) hH (i := 0) rfl h_a_ hx10 Try.underlying56 Try_info77 rfl rfl rfl rfl (by decide) (by decide) (by decide) hB hA rfl rfl rfl ?_
    intro v11 w12 A13 hH14 ht15
    replace h_a_ := Sl.tr h_a_ ht15
    replace h_b := Sl.tr h_b ht15
    replace hK := Tr.trans hK ht15
    replace hB := Nat.le_trans hB ht15.ex.size
    replace hA := ht15.new
    replace hH : Hp w.heap.size A13 w12 (obS (α := UInt32) 77 v11 x10 :: []) := hH14
    refine V_y (Y_assign rfl) rfl rfl rfl ?_
    refine V_y (Y_assign rfl) rfl rfl rfl ?_
    refine V_to (fun _ _ => rfl) ?_
    obtain rfl := Option.some.inj hm
    obtain ⟨A16, ht17, h18, hH19⟩ := Hp.freeze (α := UInt32) (v := v11) (l := x10) hH (i := 0) rfl hA
    replace hK := Tr.trans hK ht17
    replace hB := Nat.le_trans hB ht17.ex.size
    replace hA := ht17.new
    replace hH : Hp w.heap.size A16 w12 ([]) := hH19
    refine C_ret ?_
    try simp only [↓inBlock_ret, ↓then_ret]
    exact retQ rfl (Res.two Try.results51 rfl rfl) ⟨.slice none 0 0, v11, rfl, Sl.nil, (Sl.out h18 hA0 hK), hK.kp⟩
  · rw [if_neg (nt hc9)] at hm
    refine C_skip_to (fun _ _ => rfl) ?_
    refine C_seq ?_
    refine C_seq ?_
    refine C_region ?_
    refine V_y (Y_move rfl) rfl rfl rfl ?_
    refine V_y (Y_lenSl h_b rfl Try.underlying56 rfl) rfl rfl rfl ?_
    refine V_y (Y_eql rfl rfl) rfl rfl rfl ?_
    refine V_to (fun _ _ => rfl) ?_
    refine C_cond rfl (fun hc21 => ?_) (fun hc21 => ?_)
    · rw [if_pos hc21] at hm
      refine C_seq ?_
      refine C_region ?_
      refine V_y (Y_move rfl) rfl rfl rfl ?_
      refine V_y (Y_lenSl h_a_ rfl Try.underlying56 rfl) rfl rfl rfl ?_
      obtain ⟨x22, hx22, hm⟩ := Option.bind_eq_some_iff.1 hm
      refine V_makeH (e := 77) (ti := Try.t77) hH hx22 (fun _ _ => rfl) Try.underlying56 Try_info77 rfl rfl rfl (by decide) (by decide) hB hA rfl rfl rfl ?_
      intro v23 w24 A25 hH26 ht27
      replace h_a_ := Sl.tr h_a_ ht27
      replace h_b := Sl.tr h_b ht27
      replace hK := Tr.trans hK ht27
      replace hB := Nat.le_trans hB ht27.ex.size
      replace hA := ht27.new
      replace hH : Hp w.heap.size A25 w24 (obS (α := UInt32) 77 v23 x22 :: []) := hH26
      refine V_y (Y_assign rfl) rfl rfl rfl ?_
      refine V_to (fun _ _ => rfl) ?_
      refine C_seq ?_
      refine C_region ?_
      refine V_y (Y_assign rfl) rfl rfl rfl ?_
      refine V_to (fun _ _ => rfl) ?_
      refine C_seq ?_
      refine C_seq ?_
      refine C_region ?_
      refine V_y (Y_move rfl) rfl rfl rfl ?_
      refine V_y (Y_lenSl h_a_ rfl Try.underlying56 rfl) rfl rfl rfl ?_
      refine V_y (Y_subI rfl rfl) rfl rfl rfl ?_
      refine V_y (Y_assign rfl) rfl rfl rfl ?_
      refine V_to (fun _ _ => rfl) ?_
      obtain ⟨o28, ho28, hm⟩ := Option.bind_eq_some_iff.1 hm
      refine C_cutG (ι := (((List UInt32) × Int × Int) × Value × (Nat → Prop))) (fun ⟨s29, v36, A38⟩ => [(6, v36), (7, .int .u64 s29.2.1)]) (fun ⟨s29, v36, A38⟩ => fun w' => o28 = .fin s29 ∧ Hp w.heap.size A38 w' (obS (α := UInt32) 77 v36 s29.1 :: []) ∧ Tr w.heap.size A25 w24 A38 w') ?_ ?_
      · refine C_block ?_
        refine C_while ho28 (fun s40 a w' => ∃ i : (Value × (Nat → Prop)), Has ⟨308, [], none⟩ a ([(0, v_a_), (1, v_b), (6, i.1), (7, .int .u64 s40.2.1), (8, .int .i64 s40.2.2)]) ∧ Hp w.heap.size i.2 w' (obS (α := UInt32) 77 i.1 s40.1 :: []) ∧ Tr w.heap.size A25 w24 i.2 w') (fun a ha => ⟨(v23, A25), ha.sub ⟨rfl, rfl, rfl, rfl, rfl, trivial⟩, ⟨hH, Tr.refl hA⟩⟩) ?_
        rintro K s40 a w41 ⟨⟨v42, A44⟩, ha79, hH45, hr30⟩ K52
        refine C_of ?_ ha79
        replace h_a_ := Sl.tr h_a_ hr30
        replace h_b := Sl.tr h_b hr30
        replace hK := Tr.trans hK hr30
        replace hB := Nat.le_trans hB hr30.ex.size
        replace hA := hr30.new
        replace hH : Hp w.heap.size A44 w41 (obS (α := UInt32) 77 v42 s40.1 :: []) := hH45
        obtain ⟨x46, h47, h48⟩ := K52
        refine C_seq ?_
        refine C_seq ?_
        refine C_region ?_
        refine V_y (Y_move rfl) rfl rfl rfl ?_
        refine V_y (Y_geq rfl rfl) rfl rfl rfl ?_
        refine V_to (fun _ _ => rfl) ?_
        refine C_cond rfl (fun hc53 => ?_) (fun hc53 => ?_)
        · rw [if_pos hc53] at h47
          refine C_skip_to (fun _ _ => rfl) ?_
          refine C_seq ?_
          refine C_block ?_
          refine C_seq ?_
          refine C_region ?_
          refine V_y (Y_move rfl) rfl rfl rfl ?_
          obtain ⟨x54, hx54, h47⟩ := Option.bind_eq_some_iff.1 h47
          refine V_y (Y_shl hx54 rfl rfl) rfl rfl rfl ?_
          refine V_y (Y_move rfl) rfl rfl rfl ?_
          refine V_y (Y_move rfl) rfl rfl rfl ?_
          obtain ⟨x55, hx55, h47⟩ := Option.bind_eq_some_iff.1 h47
          refine V_indexAddr h_a_ hx55 Try.underlying56 Try.sizeOf77 rfl rfl rfl ?_
          intro b56 o57 h58
          refine V_y (Y_load (El.u32 h58) Try.isAgg77 rfl) rfl rfl rfl ?_
          refine V_y (Y_convI Try.underlying77 Try.underlying76 rfl) rfl rfl rfl ?_
          refine V_y (Y_or rfl rfl) rfl rfl rfl ?_
          refine V_y (Y_assign rfl) rfl rfl rfl ?_
          refine V_to (fun _ _ => rfl) ?_
          refine C_seq ?_
          refine C_region ?_
          refine V_y (Y_move rfl) rfl rfl rfl ?_
          refine V_y (Y_move rfl) rfl rfl rfl ?_
          refine V_y (Y_move rfl) rfl rfl rfl ?_
          refine V_y (Y_move rfl) rfl rfl rfl ?_
          obtain ⟨x59, hx59, h47⟩ := Option.bind_eq_some_iff.1 h47
          refine V_indexAddr h_b hx59 Try.underlying56 Try.sizeOf77 rfl rfl rfl ?_
          intro b60 o61 h62
          refine V_y (Y_load (El.u32 h62) Try.isAgg77 rfl) rfl rfl rfl ?_
          refine V_y (Y_convI Try.underlying77 Try.underlying76 rfl) rfl rfl rfl ?_
          obtain ⟨x63, hx63, h47⟩ := Option.bind_eq_some_iff.1 h47
          refine V_y (Y_quoK hx63 rfl rfl) rfl rfl rfl ?_
          refine V_y (Y_convU32 Try.underlying76 Try.underlying77 rfl) rfl rfl rfl ?_
          obtain ⟨x64, hx64, h47⟩ := Option.bind_eq_some_iff.1 h47
          refine V_indexAddrH (α := UInt32) (e := 77) (v := v42) (l := s40.1) hH (i := 0) rfl hx64 Try.underlying56 Try.sizeOf77 rfl rfl rfl ?_
          intro b65 o66 h67 hl68
          obtain ⟨x69, hx69, h47⟩ := Option.bind_eq_some_iff.1 h47
          refine V_storeH (α := UInt32) (e := 77) (v := v42) (l := s40.1) hH (i := 0) rfl hl68 hx69 rfl Try.sizeOf77 rfl hB hA rfl rfl ?_
          intro w70 hH71 ht72
          replace h_a_ := Sl.tr h_a_ ht72
          replace h_b := Sl.tr h_b ht72
          replace h62 := El.tr h62 ht72
          replace hK := Tr.trans hK ht72
          replace hr30 := Tr.trans hr30 ht72
          replace hB := Nat.le_trans hB ht72.ex.size
          replace hA := ht72.new
          replace hH : Hp w.heap.size A44 w70 (obS (α := UInt32) 77 v42 x69 :: []) := hH71
          refine V_to (fun _ _ => rfl) ?_
          refine C_region ?_
          refine V_y (Y_move rfl) rfl rfl rfl ?_
          refine V_y (Y_move rfl) rfl rfl rfl ?_
          refine V_indexAddr h_b hx59 Try.underlying56 Try.sizeOf77 rfl rfl rfl ?_
          intro b73 o74 h75
          refine V_y (Y_load (El.u32 h75) Try.isAgg77 rfl) rfl rfl rfl ?_
          refine V_y (Y_convI Try.underlying77 Try.underlying76 rfl) rfl rfl rfl ?_
          obtain ⟨x76, hx76, h47⟩ := Option.bind_eq_some_iff.1 h47
          refine V_y (Y_remK hx76 rfl rfl) rfl rfl rfl ?_
          refine V_y (Y_assign rfl) rfl rfl rfl ?_
          refine V_to (fun _ _ => rfl) ?_
          refine C_region ?_
          refine V_y (Y_move rfl) rfl rfl rfl ?_
          refine V_y (Y_subI rfl rfl) rfl rfl rfl ?_
          refine V_y (Y_assign rfl) rfl rfl rfl ?_
          obtain rfl := Option.some.inj h47
          refine V_end (fun a ha77 => ?_)
          exact ⟨(x69, x76, w64 (s40.2.2 - 1)), h48, ⟨(v42, A44), ha77.sub ⟨rfl, rfl, rfl, rfl, rfl, trivial⟩, ⟨hH, hr30⟩⟩⟩
        · rw [if_neg (nt hc53)] at h47
          obtain rfl := Option.some.inj h47
          refine C_exit (fun a ha78 => ?_)
          exact ⟨((s40.1, s40.2.1, s40.2.2), v42, A44), ha78.sub ⟨rfl, rfl, trivial⟩, ⟨h48.symm, hH, hr30⟩⟩
      rintro ⟨s29, v36, A38⟩ w33 ⟨rfl, hH39, hk34⟩ a ha35
      rw [Lp.andThen_fin] at hm
      replace hK := Tr.trans hK hk34
      replace hB := Nat.le_trans hB hk34.ex.size
      replace hA := hk34.new
      replace hH : Hp w.heap.size A38 w33 (obS (α := UInt32) 77 v36 s29.1 :: []) := hH39
      refine C_at (n := ⟨308, [], none⟩) (fun _ _ => rfl) ?_ ha35
      refine C_seq ?_
      refine C_region ?_
      refine V_y (Y_move rfl) rfl rfl rfl ?_
      obtain ⟨A80, ht81, h82, hH83⟩ := Hp.freeze (α := UInt32) (v := v36) (l := s29.1) hH (i := 0) rfl hA
      replace hK := Tr.trans hK ht81
      replace hB := Nat.le_trans hB ht81.ex.size
      replace hA := ht81.new
      replace hH : Hp w.heap.size A80 w33 ([]) := hH83
      obtain ⟨x85, hx85, hm⟩ := Option.bind_eq_some_iff.1 hm
      refine V_call Try.call50 rfl rfl rfl rfl (portref2_whole_trim_c w33 s29.1 v36 h82 hx85) ?_
      rintro v86 _ ⟨_, rfl, h87, rfl⟩
      refine V_y (Y_move rfl) rfl rfl rfl ?_
      refine V_y (Y_convU32 Try.underlying76 Try.underlying77 rfl) rfl rfl rfl ?_
      refine V_buildSlice (l := ([(toU32 s29.2.1)] : List UInt32)) (len := 1) Try.underlying56 Try.sizeOf77 Try.zeroValue77 rfl (by with_unfolding_all rfl) (by decide) (by decide) hA ⟨[.int .u32 ((toU32 s29.2.1).toNat : Int)], _, rfl, rfl, rfl⟩ rfl rfl ?_
      intro v88 w89 hk91 h90
      have ht92 := Kp.tr hk91 hA hB
      replace hH := Hp.kp hH hk91
      replace h82 := Sl.tr h82 ht92
      replace h87 := Sl.tr h87 ht92
      replace hK := Tr.trans hK ht92
      replace hB := Nat.le_trans hB ht92.ex.size
      replace hA := ht92.new
      obtain ⟨x93, hx93, hm⟩ := Option.bind_eq_some_iff.1 hm
      refine V_call Try.call50 rfl rfl rfl rfl (portref2_whole_trim_c w89 ([(toU32 s29.2.1)] : List UInt32) v88 h90 hx93) ?_
      rintro v94 _ ⟨_, rfl, h95, rfl⟩
      refine V_y (Y_assign rfl) rfl rfl rfl ?_
      refine V_y (Y_assign rfl) rfl rfl rfl ?_
      refine V_to (fun _ _ => rfl) ?_
      obtain rfl := Option.some.inj hm
      refine C_ret ?_
      try simp only [↓inBlock_ret, ↓then_ret]
      exact retQ rfl (Res.two Try.results51 rfl rfl) ⟨v86, v94, rfl, (Sl.out h87 hA0 hK), (Sl.out h95 hA0 hK), hK.kp⟩
    · rw [if_neg (nt hc21)] at hm
      refine C_skip_to (fun _ _ => rfl) ?_
      refine C_seq ?_
      refine C_region ?_
      refine V_y (Y_move rfl) rfl rfl rfl ?_
      refine V_y (Y_move rfl) rfl rfl rfl ?_
      refine V_y (Y_lenSl h_b rfl Try.underlying56 rfl) rfl rfl rfl ?_
      refine V_y (Y_subI rfl rfl) rfl rfl rfl ?_
      obtain ⟨x96, hx96, hm⟩ := Option.bind_eq_some_iff.1 hm
      refine V_indexAddr h_b hx96 Try.underlying56 Try.sizeOf77 rfl rfl rfl ?_
      intro b97 o98 h99
      refine V_y (Y_load (El.u32 h99) Try.isAgg77 rfl) rfl rfl rfl ?_
      obtain ⟨x100, hx100, hm⟩ := Option.bind_eq_some_iff.1 hm
      refine V_call Try.call52 rfl rfl rfl rfl (math_bits_LeadingZeros32_c w6 (x96.toNat : Int) hx100) ?_
      rintro _ _ ⟨rfl, rfl⟩
      refine V_y (Y_convI Try.underlying3 Try.underlying78 rfl) rfl rfl rfl ?_
      refine V_y (Y_assign rfl) rfl rfl rfl ?_
      refine V_to (fun _ _ => rfl) ?_
      refine C_seq ?_
      refine C_region ?_
      refine V_y (Y_move rfl) rfl rfl rfl ?_
      refine V_y (Y_lenSl h_b rfl Try.underlying56 rfl) rfl rfl rfl ?_
      refine V_y (Y_assign rfl) rfl rfl rfl ?_
      refine V_to (fun _ _ => rfl) ?_
      refine C_seq ?_
      refine C_region ?_
      refine V_y (Y_move rfl) rfl rfl rfl ?_
      refine V_y (Y_move rfl) rfl rfl rfl ?_
      obtain ⟨x101, hx101, hm⟩ := Option.bind_eq_some_iff.1 hm
      refine V_call Try.call53 rfl rfl rfl rfl (portref2_whole_up_c w6 hA a_ v_a_ h_a_ (IntKind.wrap .u64 x100) hx101) ?_
      rintro v102 w104 ⟨_, rfl, h103, hk105⟩
      obtain ⟨A106, ht107, hH108⟩ := Hp.addOwnd hH hB hA hk105 h103
      replace h_a_ := Sl.tr h_a_ ht107
      replace h_b := Sl.tr h_b ht107
      replace hK := Tr.trans hK ht107
      replace hB := Nat.le_trans hB ht107.ex.size
      replace hA := ht107.new
      replace hH : Hp w.heap.size A106 w104 (obS (α := UInt32) 77 v102 x101 :: []) := hH108
      refine V_y (Y_move rfl) rfl rfl rfl ?_
      refine V_y (Y_move rfl) rfl rfl rfl ?_
      obtain ⟨x109, hx109, hm⟩ := Option.bind_eq_some_iff.1 hm
      refine V_call Try.call53 rfl rfl rfl rfl (portref2_whole_up_c w104 hA b v_b h_b (IntKind.wrap .u64 x100) hx109) ?_
      rintro v110 w112 ⟨_, rfl, h111, hk113⟩
      obtain ⟨A114, ht115, hH116⟩ := Hp.addOwnd hH hB hA hk113 h111
      replace h_a_ := Sl.tr h_a_ ht115
      replace h_b := Sl.tr h_b ht115
      replace hK := Tr.trans hK ht115
      replace hB := Nat.le_trans hB ht115.ex.size
      replace hA := ht115.new
      replace hH : Hp w.heap.size A114 w112 (obS (α := UInt32) 77 v110 x109 :: obS (α := UInt32) 77 v102 x101 :: []) := hH116
      refine V_y (Y_assign rfl) rfl rfl rfl ?_
      refine V_y (Y_assign rfl) rfl rfl rfl ?_
      refine V_to (fun _ _ => rfl) ?_
      refine C_seq ?_
      refine C_region ?_
      refine V_y (Y_move rfl) rfl rfl rfl ?_
      refine V_y (Y_lenSl h_a_ rfl Try.underlying56 rfl) rfl rfl rfl ?_
      refine V_y (Y_move rfl) rfl rfl rfl ?_
      refine V_y (Y_subI rfl rfl) rfl rfl rfl ?_
      refine V_y (Y_addI rfl rfl) rfl rfl rfl ?_
      obtain ⟨x117, hx117, hm⟩ := Option.bind_eq_some_iff.1 hm
      refine V_makeH (e := 77) (ti := Try.t77) hH hx117 (fun _ _ => rfl) Try.underlying56 Try_info77 rfl rfl rfl (by decide) (by decide) hB hA rfl rfl rfl ?_
      intro v118 w119 A120 hH121 ht122
      replace h_a_ := Sl.tr h_a_ ht122
      replace hK := Tr.trans hK ht122
      replace hB := Nat.le_trans hB ht122.ex.size
      replace hA := ht122.new
      replace hH : Hp w.heap.size A120 w119 (obS (α := UInt32) 77 v118 x117 :: obS (α := UInt32) 77 v110 x109 :: obS (α := UInt32) 77 v102 x101 :: []) := hH121
      refine V_y (Y_assign rfl) rfl rfl rfl ?_
      refine V_to (fun _ _ => rfl) ?_
      refine C_seq ?_
      refine C_seq ?_
      refine C_region ?_
      refine V_y (Y_move rfl) rfl rfl rfl ?_
      refine V_y (Y_lenSl h_a_ rfl Try.underlying56 rfl) rfl rfl rfl ?_
      refine V_y (Y_move rfl) rfl rfl rfl ?_
      refine V_y (Y_subI rfl rfl) rfl rfl rfl ?_
      refine V_y (Y_assign rfl) rfl rfl rfl ?_
      refine V_to (fun _ _ => rfl) ?_
      obtain ⟨o123, ho123, hm⟩ := Option.bind_eq_some_iff.1 hm
      refine C_cutG (ι := (((List UInt32) × (List UInt32) × Int) × Value × Value × (Nat → Prop))) (fun ⟨s124, v130, v132, A134⟩ => [(9, .int .u64 (IntKind.wrap .u64 x100)), (10, .int .i64 (b.length : Int)), (11, v130), (13, v132)]) (fun ⟨s124, v130, v132, A134⟩ => fun w' => o123 = .fin s124 ∧ Hp w.heap.size A134 w' (obS (α := UInt32) 77 v132 s124.2.1 :: obS (α := UInt32) 77 v110 x109 :: obS (α := UInt32) 77 v130 s124.1 :: []) ∧ Tr w.heap.size A120 w119 A134 w') ?_ ?_
      · refine C_block ?_
        refine C_while ho123 (fun s136 a w' => ∃ i : (Value × Value × (Nat → Prop)), Has ⟨308, [], none⟩ a ([(9, .int .u64 (IntKind.wrap .u64 x100)), (10, .int .i64 (b.length : Int)), (11, i.1), (12, v110), (13, i.2.1), (14, .int .i64 s136.2.2)]) ∧ Hp w.heap.size i.2.2 w' (obS (α := UInt32) 77 i.2.1 s136.2.1 :: obS (α := UInt32) 77 v110 x109 :: obS (α := UInt32) 77 i.1 s136.1 :: []) ∧ Tr w.heap.size A120 w119 i.2.2 w') (fun a ha => ⟨(v102, v118, A120), ha.sub ⟨rfl, rfl, rfl, rfl, rfl, rfl, trivial⟩, ⟨hH, Tr.refl hA⟩⟩) ?_
        rintro K s136 a w137 ⟨⟨v138, v140, A142⟩, ha374, hH143, hr125⟩ K150
        refine C_of ?_ ha374
        replace hK := Tr.trans hK hr125
        replace hB := Nat.le_trans hB hr125.ex.size
        replace hA := hr125.new
        replace hH : Hp w.heap.size A142 w137 (obS (α := UInt32) 77 v140 s136.2.1 :: obS (α := UInt32) 77 v110 x109 :: obS (α := UInt32) 77 v138 s136.1 :: []) := hH143
        obtain ⟨x144, h145, h146⟩ := K150
        refine C_seq ?_
        refine C_seq ?_
        refine C_region ?_
        refine V_y (Y_move rfl) rfl rfl rfl ?_
        refine V_y (Y_geq rfl rfl) rfl rfl rfl ?_
        refine V_to (fun _ _ => rfl) ?_
        refine C_cond rfl (fun hc151 => ?_) (fun hc151 => ?_)
        · rw [if_pos hc151] at h145
          refine C_skip_to (fun _ _ => rfl) ?_
          refine C_seq ?_
          refine C_block ?_
          refine C_seq ?_
          refine C_region_q Try_mixed (by kernel_rfl) ?_
          refine VQ_y (fun w' hw' => Y_move rfl) rfl rfl rfl ?_
          refine VQ_y (fun w' hw' => Y_move rfl) rfl rfl rfl ?_
          refine VQ_y (fun w' hw' => Y_move rfl) rfl rfl rfl ?_
          refine VQ_y (fun w' hw' => Y_addI rfl rfl) rfl rfl rfl ?_
          obtain ⟨x152, hx152, h145⟩ := Option.bind_eq_some_iff.1 h145
          refine VQ_indexAddrH (α := UInt32) (e := 77) (v := v138) (l := s136.1) hH (i := 2) rfl hx152 Try.underlying56 Try.sizeOf77 rfl rfl rfl ?_
          intro b153 o154 h155 hl156
          refine VQ_y (fun w' hw' => Y_load (El.u32 (El.kp h155 hw')) Try.isAgg77 rfl) rfl rfl rfl ?_
          refine VQ_y (fun w' hw' => Y_convI Try.underlying77 Try.underlying76 rfl) rfl rfl rfl ?_
          obtain ⟨x157, hx157, h145⟩ := Option.bind_eq_some_iff.1 h145
          refine VQ_y (fun w' hw' => Y_shl hx157 rfl rfl) rfl rfl rfl ?_
          refine VQ_y (fun w' hw' => Y_move rfl) rfl rfl rfl ?_
          refine VQ_y (fun w' hw' => Y_move rfl) rfl rfl rfl ?_
          refine VQ_y (fun w' hw' => Y_move rfl) rfl rfl rfl ?_
          refine VQ_y (fun w' hw' => Y_addI rfl rfl) rfl rfl rfl ?_
          refine VQ_y (fun w' hw' => Y_subI rfl rfl) rfl rfl rfl ?_
          obtain ⟨x158, hx158, h145⟩ := Option.bind_eq_some_iff.1 h145
          refine VQ_indexAddrH (α := UInt32) (e := 77) (v := v138) (l := s136.1) hH (i := 2) rfl hx158 Try.underlying56 Try.sizeOf77 rfl rfl rfl ?_
          intro b159 o160 h161 hl162
          refine VQ_y (fun w' hw' => Y_load (El.u32 (El.kp h161 hw')) Try.isAgg77 rfl) rfl rfl rfl ?_
          refine VQ_y (fun w' hw' => Y_convI Try.underlying77 Try.underlying76 rfl) rfl rfl rfl ?_
          refine VQ_y (fun w' hw' => Y_or rfl rfl) rfl rfl rfl ?_
          refine VQ_y (fun w' hw' => Y_assign rfl) rfl rfl rfl ?_
          refine VQ_to (fun _ _ => rfl) (fun w163 hk164 => ?_)
          have ht165 := Kp.tr hk164 hA hB
          replace hH := Hp.kp hH hk164
          replace hK := Tr.trans hK ht165
          replace hr125 := Tr.trans hr125 ht165
          replace hB := Nat.le_trans hB ht165.ex.size
          replace hA := ht165.new
          refine C_seq ?_
          refine C_region_q Try_mixed (by kernel_rfl) ?_
          refine VQ_y (fun w' hw' => Y_move rfl) rfl rfl rfl ?_
          refine VQ_y (fun w' hw' => Y_move rfl) rfl rfl rfl ?_
          refine VQ_y (fun w' hw' => Y_move rfl) rfl rfl rfl ?_
          refine VQ_y (fun w' hw' => Y_subI rfl rfl) rfl rfl rfl ?_
          obtain ⟨x166, hx166, h145⟩ := Option.bind_eq_some_iff.1 h145
          refine VQ_indexAddrH (α := UInt32) (e := 77) (v := v110) (l := x109) hH (i := 1) rfl hx166 Try.underlying56 Try.sizeOf77 rfl rfl rfl ?_
          intro b167 o168 h169 hl170
          refine VQ_y (fun w' hw' => Y_load (El.u32 (El.kp h169 hw')) Try.isAgg77 rfl) rfl rfl rfl ?_
          refine VQ_y (fun w' hw' => Y_convI Try.underlying77 Try.underlying76 rfl) rfl rfl rfl ?_
          obtain ⟨x171, hx171, h145⟩ := Option.bind_eq_some_iff.1 h145
          refine VQ_y (fun w' hw' => Y_quoK hx171 rfl rfl) rfl rfl rfl ?_
          refine VQ_y (fun w' hw' => Y_move rfl) rfl rfl rfl ?_
          refine VQ_y (fun w' hw' => Y_move rfl) rfl rfl rfl ?_
          refine VQ_y (fun w' hw' => Y_move rfl) rfl rfl rfl ?_
          refine VQ_y (fun w' hw' => Y_subI rfl rfl) rfl rfl rfl ?_
          refine VQ_indexAddrH (α := UInt32) (e := 77) (v := v110) (l := x109) hH (i := 1) rfl hx166 Try.underlying56 Try.sizeOf77 rfl rfl rfl ?_
          intro b172 o173 h174 hl175
          refine VQ_y (fun w' hw' => Y_load (El.u32 (El.kp h174 hw')) Try.isAgg77 rfl) rfl rfl rfl ?_
          refine VQ_y (fun w' hw' => Y_convI Try.underlying77 Try.underlying76 rfl) rfl rfl rfl ?_
          obtain ⟨x176, hx176, h145⟩ := Option.bind_eq_some_iff.1 h145
          refine VQ_y (fun w' hw' => Y_remK hx176 rfl rfl) rfl rfl rfl ?_
          refine VQ_y (fun w' hw' => Y_assign rfl) rfl rfl rfl ?_
          refine VQ_y (fun w' hw' => Y_assign rfl) rfl rfl rfl ?_
          refine VQ_to (fun _ _ => rfl) (fun w177 hk178 => ?_)
          have ht179 := Kp.tr hk178 hA hB
          replace hH := Hp.kp hH hk178
          replace hK := Tr.trans hK ht179
          replace hr125 := Tr.trans hr125 ht179
          replace hB := Nat.le_trans hB ht179.ex.size
          replace hA := ht179.new
          refine C_seq ?_
          obtain ⟨o180, ho180, h145⟩ := Option.bind_eq_some_iff.1 h145
          refine C_cutG (ι := ((Int × Int) × (Nat → Prop))) (fun ⟨s181, A187⟩ => [(9, .int .u64 (IntKind.wrap .u64 x100)), (10, .int .i64 (b.length : Int)), (11, v138), (12, v110), (13, v140), (14, .int .i64 s136.2.2), (16, .int .u64 s181.1)]) (fun ⟨s181, A187⟩ => fun w' => o180 = .fin s181 ∧ Hp w.heap.size A187 w' (obS (α := UInt32) 77 v140 s136.2.1 :: obS (α := UInt32) 77 v110 x109 :: obS (α := UInt32) 77 v138 s136.1 :: []) ∧ Tr w.heap.size A142 w177 A187 w') ?_ ?_
          · refine C_block ?_
            refine C_while ho180 (fun s189 a w' => ∃ i : (Nat → Prop), Has ⟨308, [], none⟩ a ([(9, .int .u64 (IntKind.wrap .u64 x100)), (10, .int .i64 (b.length : Int)), (11, v138), (12, v110), (13, v140), (14, .int .i64 s136.2.2), (16, .int .u64 s189.1), (17, .int .u64 s189.2)]) ∧ Hp w.heap.size i w' (obS (α := UInt32) 77 v140 s136.2.1 :: obS (α := UInt32) 77 v110 x109 :: obS (α := UInt32) 77 v138 s136.1 :: []) ∧ Tr w.heap.size A142 w177 i w') (fun a ha => ⟨A142, ha.sub ⟨rfl, rfl, rfl, rfl, rfl, rfl, rfl, rfl, trivial⟩, ⟨hH, Tr.refl hA⟩⟩) ?_
            rintro K s189 a w190 ⟨A191, ha225, hH192, hr182⟩ K199
            refine C_of ?_ ha225
            replace hK := Tr.trans hK hr182
            replace hr125 := Tr.trans hr125 hr182
            replace hB := Nat.le_trans hB hr182.ex.size
            replace hA := hr182.new
            replace hH : Hp w.heap.size A191 w190 (obS (α := UInt32) 77 v140 s136.2.1 :: obS (α := UInt32) 77 v110 x109 :: obS (α := UInt32) 77 v138 s136.1 :: []) := hH192
            obtain ⟨x193, h194, h195⟩ := K199
            refine C_seq ?_
            refine C_seq ?_
            refine C_region_q Try_mixed (by kernel_rfl) ?_
            refine VQ_y (fun w' hw' => Y_move rfl) rfl rfl rfl ?_
            refine VQ_y (fun w' hw' => Y_geq rfl rfl) rfl rfl rfl ?_
            refine VQ_y (fun w' hw' => Y_move rfl) rfl rfl rfl ?_
            obtain ⟨s201, hs201, h194⟩ := Option.bind_eq_some_iff.1 h194
            refine VQ_cut 21 (fun _ : Unit => [(9, .int .u64 (IntKind.wrap .u64 x100)), (10, .int .i64 (b.length : Int)), (11, v138), (12, v110), (13, v140), (14, .int .i64 s136.2.2), (16, .int .u64 s189.1), (17, .int .u64 s189.2), (162, .bool s201)]) (fun _ => True) ?_ ?_
            · simp only [List.take, List.drop]
              rcases Bool.eq_false_or_eq_true (decide ((4294967296 : Int) ≤ s189.1)) with hc200 | hc200
              · rw [if_pos hc200] at hs201
                refine VQ_gn rfl rfl rfl hc200 rfl rfl rfl ?_
                refine VQ_gn rfl rfl rfl hc200 rfl rfl rfl ?_
                refine VQ_gn rfl rfl rfl hc200 rfl rfl rfl ?_
                refine VQ_gn rfl rfl rfl hc200 rfl rfl rfl ?_
                refine VQ_gn rfl rfl rfl hc200 rfl rfl rfl ?_
                refine VQ_gn rfl rfl rfl hc200 rfl rfl rfl ?_
                refine VQ_gn rfl rfl rfl hc200 rfl rfl rfl ?_
                refine VQ_gn rfl rfl rfl hc200 rfl rfl rfl ?_
                refine VQ_gn rfl rfl rfl hc200 rfl rfl rfl ?_
                refine VQ_gn rfl rfl rfl hc200 rfl rfl rfl ?_
                refine VQ_gn rfl rfl rfl hc200 rfl rfl rfl ?_
                refine VQ_gn rfl rfl rfl hc200 rfl rfl rfl ?_
                refine VQ_gn rfl rfl rfl hc200 rfl rfl rfl ?_
                refine VQ_gn rfl rfl rfl hc200 rfl rfl rfl ?_
                refine VQ_gn rfl rfl rfl hc200 rfl rfl rfl ?_
                refine VQ_gn rfl rfl rfl hc200 rfl rfl rfl ?_
                refine VQ_gn rfl rfl rfl hc200 rfl rfl rfl ?_
                refine VQ_gn rfl rfl rfl hc200 rfl rfl rfl ?_
                refine VQ_gn rfl rfl rfl hc200 rfl rfl rfl ?_
                refine VQ_gn rfl rfl rfl hc200 rfl rfl rfl ?_
                refine VQ_y (fun _ _ => Y_pick_te rfl hc200 rfl) rfl rfl rfl ?_
                obtain rfl := Option.some.inj hs201
                exact VQ_end fun a ha => ⟨(), ha.sub ⟨rfl, rfl, rfl, rfl, rfl, rfl, rfl, rfl, rfl, trivial⟩, trivial⟩
              · rw [if_neg (nt hc200)] at hs201
                refine VQ_ge rfl rfl rfl hc200 ?_
                refine VQ_y (fun w' hw' => Y_move rfl) rfl rfl rfl ?_
                refine VQ_ge rfl rfl rfl hc200 ?_
                refine VQ_y (fun w' hw' => Y_move rfl) rfl rfl rfl ?_
                refine VQ_ge rfl rfl rfl hc200 ?_
                refine VQ_y (fun w' hw' => Y_move rfl) rfl rfl rfl ?_
                refine VQ_ge rfl rfl rfl hc200 ?_
                refine VQ_y (fun w' hw' => Y_subI rfl rfl) rfl rfl rfl ?_
                refine VQ_ge rfl rfl rfl hc200 ?_
                obtain ⟨x202, hx202, hs201⟩ := Option.bind_eq_some_iff.1 hs201
                refine VQ_indexAddrH (α := UInt32) (e := 77) (v := v110) (l := x109) hH (i := 1) rfl hx202 Try.underlying56 Try.sizeOf77 rfl rfl rfl ?_
                intro b203 o204 h205 hl206
                refine VQ_ge rfl rfl rfl hc200 ?_
                refine VQ_y (fun w' hw' => Y_load (El.u32 (El.kp h205 hw')) Try.isAgg77 rfl) rfl rfl rfl ?_
                refine VQ_ge rfl rfl rfl hc200 ?_
                refine VQ_y (fun w' hw' => Y_convI Try.underlying77 Try.underlying76 rfl) rfl rfl rfl ?_
                refine VQ_ge rfl rfl rfl hc200 ?_
                refine VQ_y (fun w' hw' => Y_mul rfl rfl) rfl rfl rfl ?_
                refine VQ_ge rfl rfl rfl hc200 ?_
                refine VQ_y (fun w' hw' => Y_move rfl) rfl rfl rfl ?_
                refine VQ_ge rfl rfl rfl hc200 ?_
                obtain ⟨x207, hx207, hs201⟩ := Option.bind_eq_some_iff.1 hs201
                refine VQ_y (fun w' hw' => Y_shl hx207 rfl rfl) rfl rfl rfl ?_
                refine VQ_ge rfl rfl rfl hc200 ?_
                refine VQ_y (fun w' hw' => Y_move rfl) rfl rfl rfl ?_
                refine VQ_ge rfl rfl rfl hc200 ?_
                refine VQ_y (fun w' hw' => Y_move rfl) rfl rfl rfl ?_
                refine VQ_ge rfl rfl rfl hc200 ?_
                refine VQ_y (fun w' hw' => Y_move rfl) rfl rfl rfl ?_
                refine VQ_ge rfl rfl rfl hc200 ?_
                refine VQ_y (fun w' hw' => Y_addI rfl rfl) rfl rfl rfl ?_
                refine VQ_ge rfl rfl rfl hc200 ?_
                refine VQ_y (fun w' hw' => Y_subI rfl rfl) rfl rfl rfl ?_
                refine VQ_ge rfl rfl rfl hc200 ?_
                obtain ⟨x208, hx208, hs201⟩ := Option.bind_eq_some_iff.1 hs201
                refine VQ_indexAddrH (α := UInt32) (e := 77) (v := v138) (l := s136.1) hH (i := 2) rfl hx208 Try.underlying56 Try.sizeOf77 rfl rfl rfl ?_
                intro b209 o210 h211 hl212
                refine VQ_ge rfl rfl rfl hc200 ?_
                refine VQ_y (fun w' hw' => Y_load (El.u32 (El.kp h211 hw')) Try.isAgg77 rfl) rfl rfl rfl ?_
                refine VQ_ge rfl rfl rfl hc200 ?_
                refine VQ_y (fun w' hw' => Y_convI Try.underlying77 Try.underlying76 rfl) rfl rfl rfl ?_
                refine VQ_ge rfl rfl rfl hc200 ?_
                refine VQ_y (fun w' hw' => Y_or rfl rfl) rfl rfl rfl ?_
                refine VQ_ge rfl rfl rfl hc200 ?_
                refine VQ_y (fun w' hw' => Y_gtr rfl rfl) rfl rfl rfl ?_
                refine VQ_y (fun _ _ => Y_pick_fe rfl hc200 rfl) rfl rfl rfl ?_
                obtain rfl := Option.some.inj hs201
                exact VQ_end fun a ha => ⟨(), ha.sub ⟨rfl, rfl, rfl, rfl, rfl, rfl, rfl, rfl, rfl, trivial⟩, trivial⟩
            simp only [List.take, List.drop]
            rintro _ _
            refine VQ_to (fun _ _ => rfl) (fun w213 hk214 => ?_)
            have ht215 := Kp.tr hk214 hA hB
            replace hH := Hp.kp hH hk214
            replace hK := Tr.trans hK ht215
            replace hr125 := Tr.trans hr125 ht215
            replace hr182 := Tr.trans hr182 ht215
            replace hB := Nat.le_trans hB ht215.ex.size
            replace hA := ht215.new
            refine C_cond rfl (fun hc216 => ?_) (fun hc216 => ?_)
            · rw [if_pos hc216] at h194
              refine C_skip_to (fun _ _ => rfl) ?_
              refine C_block ?_
              refine C_seq ?_
              refine C_region ?_
              refine V_y (Y_move rfl) rfl rfl rfl ?_
              refine V_y (Y_sub rfl rfl) rfl rfl rfl ?_
              refine V_y (Y_assign rfl) rfl rfl rfl ?_
              refine V_to (fun _ _ => rfl) ?_
              refine C_seq ?_
              refine C_region ?_
              refine V_y (Y_move rfl) rfl rfl rfl ?_
              refine V_y (Y_move rfl) rfl rfl rfl ?_
              refine V_y (Y_move rfl) rfl rfl rfl ?_
              refine V_y (Y_subI rfl rfl) rfl rfl rfl ?_
              refine V_indexAddrH (α := UInt32) (e := 77) (v := v110) (l := x109) hH (i := 1) rfl hx166 Try.underlying56 Try.sizeOf77 rfl rfl rfl ?_
              intro b217 o218 h219 hl220
              refine V_y (Y_load (El.u32 h219) Try.isAgg77 rfl) rfl rfl rfl ?_
              refine V_y (Y_convI Try.underlying77 Try.underlying76 rfl) rfl rfl rfl ?_
              refine V_y (Y_add rfl rfl) rfl rfl rfl ?_
              refine V_y (Y_assign rfl) rfl rfl rfl ?_
              refine V_to (fun _ _ => rfl) ?_
              refine C_seq ?_
              refine C_region ?_
              refine V_y (Y_move rfl) rfl rfl rfl ?_
              refine V_y (Y_geq rfl rfl) rfl rfl rfl ?_
              refine V_to (fun _ _ => rfl) ?_
              refine C_cond rfl (fun hc221 => ?_) (fun hc221 => ?_)
              · rw [if_pos hc221] at h194
                obtain rfl := Option.some.inj h194
                refine C_exit (fun a ha222 => ?_)
                exact ⟨((IntKind.wrap .u64 (s189.1 - 1), IntKind.wrap .u64 (s189.2 + (IntKind.wrap .u64 (x166.toNat : Int)))), A191), ha222.sub ⟨rfl, rfl, rfl, rfl, rfl, rfl, rfl, trivial⟩, ⟨h195.symm, hH, hr182⟩⟩
              · rw [if_neg (nt hc221)] at h194
                obtain rfl := Option.some.inj h194
                refine C_skip (fun a ha223 => ?_)
                exact ⟨(IntKind.wrap .u64 (s189.1 - 1), IntKind.wrap .u64 (s189.2 + (IntKind.wrap .u64 (x166.toNat : Int)))), h195, ⟨A191, ha223.sub ⟨rfl, rfl, rfl, rfl, rfl, rfl, rfl, rfl, trivial⟩, ⟨hH, hr182⟩⟩⟩
            · rw [if_neg (nt hc216)] at h194
              obtain rfl := Option.some.inj h194
              refine C_exit (fun a ha224 => ?_)
              exact ⟨((s189.1, s189.2), A191), ha224.sub ⟨rfl, rfl, rfl, rfl, rfl, rfl, rfl, trivial⟩, ⟨h195.symm, hH, hr182⟩⟩
          rintro ⟨s181, A187⟩ w184 ⟨rfl, hH188, hk185⟩ a ha186
          rw [Lp.andThen_fin] at h145
          replace hK := Tr.trans hK hk185
          replace hr125 := Tr.trans hr125 hk185
          replace hB := Nat.le_trans hB hk185.ex.size
          replace hA := hk185.new
          replace hH : Hp w.heap.size A187 w184 (obS (α := UInt32) 77 v140 s136.2.1 :: obS (α := UInt32) 77 v110 x109 :: obS (α := UInt32) 77 v138 s136.1 :: []) := hH188
          refine C_at (n := ⟨308, [], none⟩) (fun _ _ => rfl) ?_ ha186
          refine C_seq ?_
          refine C_region ?_
          refine V_y (Y_assign rfl) rfl rfl rfl ?_
          refine V_to (fun _ _ => rfl) ?_
          refine C_seq ?_
          refine C_seq ?_
          refine C_region ?_
          refine V_y (Y_move rfl) rfl rfl rfl ?_
          refine V_y (Y_move rfl) rfl rfl rfl ?_
          refine V_to (fun _ _ => rfl) ?_
          obtain ⟨o226, ho226, h145⟩ := Option.bind_eq_some_iff.1 h145
          refine C_cutG (ι := (((List UInt32) × Int × Int) × Value × (Nat → Prop))) (fun ⟨s227, v233, A235⟩ => [(9, .int .u64 (IntKind.wrap .u64 x100)), (10, .int .i64 (b.length : Int)), (11, v233), (12, v110), (13, v140), (14, .int .i64 s136.2.2), (16, .int .u64 s181.1), (18, .int .i64 s227.2.1)]) (fun ⟨s227, v233, A235⟩ => fun w' => o226 = .fin s227 ∧ Hp w.heap.size A235 w' (obS (α := UInt32) 77 v140 s136.2.1 :: obS (α := UInt32) 77 v110 x109 :: obS (α := UInt32) 77 v233 s227.1 :: []) ∧ Tr w.heap.size A187 w184 A235 w') ?_ ?_
          · refine C_block ?_
            refine C_while ho226 (fun s237 a w' => ∃ i : (Value × (Nat → Prop)), Has ⟨308, [], none⟩ a ([(9, .int .u64 (IntKind.wrap .u64 x100)), (10, .int .i64 (b.length : Int)), (11, i.1), (12, v110), (13, v140), (14, .int .i64 s136.2.2), (16, .int .u64 s181.1), (18, .int .i64 s237.2.1), (175, .int .i64 (b.length : Int)), (176, .int .i64 s237.2.2)]) ∧ Hp w.heap.size i.2 w' (obS (α := UInt32) 77 v140 s136.2.1 :: obS (α := UInt32) 77 v110 x109 :: obS (α := UInt32) 77 i.1 s237.1 :: []) ∧ Tr w.heap.size A187 w184 i.2 w') (fun a ha => ⟨(v138, A187), ha.sub ⟨rfl, rfl, rfl, rfl, rfl, rfl, rfl, rfl, rfl, rfl, trivial⟩, ⟨hH, Tr.refl hA⟩⟩) ?_
            rintro K s237 a w238 ⟨⟨v239, A241⟩, ha273, hH242, hr228⟩ K249
            refine C_of ?_ ha273
            replace hK := Tr.trans hK hr228
            replace hr125 := Tr.trans hr125 hr228
            replace hB := Nat.le_trans hB hr228.ex.size
            replace hA := hr228.new
            replace hH : Hp w.heap.size A241 w238 (obS (α := UInt32) 77 v140 s136.2.1 :: obS (α := UInt32) 77 v110 x109 :: obS (α := UInt32) 77 v239 s237.1 :: []) := hH242
            obtain ⟨x243, h244, h245⟩ := K249
            refine C_seq ?_
            refine C_region ?_
            refine V_y (Y_lss rfl rfl) rfl rfl rfl ?_
            refine V_to (fun _ _ => rfl) ?_
            refine C_seq ?_
            refine C_cond rfl (fun hc250 => ?_) (fun hc250 => ?_)
            · rw [if_pos hc250] at h244
              refine C_skip_to (fun _ _ => rfl) ?_
              refine C_seq ?_
              refine C_block ?_
              refine C_seq ?_
              refine C_region ?_
              refine V_y (Y_move rfl) rfl rfl rfl ?_
              refine V_y (Y_assign rfl) rfl rfl rfl ?_
              refine V_to (fun _ _ => rfl) ?_
              refine C_seq ?_
              refine C_region ?_
              refine V_y (Y_move rfl) rfl rfl rfl ?_
              refine V_y (Y_move rfl) rfl rfl rfl ?_
              refine V_y (Y_move rfl) rfl rfl rfl ?_
              obtain ⟨x251, hx251, h244⟩ := Option.bind_eq_some_iff.1 h244
              refine V_indexAddrH (α := UInt32) (e := 77) (v := v110) (l := x109) hH (i := 1) rfl hx251 Try.underlying56 Try.sizeOf77 rfl rfl rfl ?_
              intro b252 o253 h254 hl255
              refine V_y (Y_load (El.u32 h254) Try.isAgg77 rfl) rfl rfl rfl ?_
              refine V_y (Y_convI Try.underlying77 Try.underlying76 rfl) rfl rfl rfl ?_
              refine V_y (Y_mul rfl rfl) rfl rfl rfl ?_
              refine V_y (Y_assign rfl) rfl rfl rfl ?_
              refine V_to (fun _ _ => rfl) ?_
              refine C_seq ?_
              refine C_region ?_
              refine V_y (Y_move rfl) rfl rfl rfl ?_
              refine V_y (Y_move rfl) rfl rfl rfl ?_
              refine V_y (Y_move rfl) rfl rfl rfl ?_
              refine V_y (Y_addI rfl rfl) rfl rfl rfl ?_
              obtain ⟨x256, hx256, h244⟩ := Option.bind_eq_some_iff.1 h244
              refine V_indexAddrH (α := UInt32) (e := 77) (v := v239) (l := s237.1) hH (i := 2) rfl hx256 Try.underlying56 Try.sizeOf77 rfl rfl rfl ?_
              intro b257 o258 h259 hl260
              refine V_y (Y_load (El.u32 h259) Try.isAgg77 rfl) rfl rfl rfl ?_
              refine V_y (Y_convI Try.underlying77 Try.underlying2 rfl) rfl rfl rfl ?_
              refine V_y (Y_move rfl) rfl rfl rfl ?_
              refine V_y (Y_subI rfl rfl) rfl rfl rfl ?_
              refine V_y (Y_move rfl) rfl rfl rfl ?_
              refine V_y (Y_and rfl rfl) rfl rfl rfl ?_
              refine V_y (Y_convI Try.underlying76 Try.underlying2 rfl) rfl rfl rfl ?_
              refine V_y (Y_subI rfl rfl) rfl rfl rfl ?_
              refine V_y (Y_assign rfl) rfl rfl rfl ?_
              refine V_to (fun _ _ => rfl) ?_
              refine C_seq ?_
              refine C_region ?_
              refine V_y (Y_move rfl) rfl rfl rfl ?_
              refine V_y (Y_move rfl) rfl rfl rfl ?_
              refine V_y (Y_move rfl) rfl rfl rfl ?_
              refine V_y (Y_addI rfl rfl) rfl rfl rfl ?_
              refine V_y (Y_move rfl) rfl rfl rfl ?_
              refine V_y (Y_convU32 Try.underlying2 Try.underlying77 rfl) rfl rfl rfl ?_
              refine V_indexAddrH (α := UInt32) (e := 77) (v := v239) (l := s237.1) hH (i := 2) rfl hx256 Try.underlying56 Try.sizeOf77 rfl rfl rfl ?_
              intro b261 o262 h263 hl264
              obtain ⟨x265, hx265, h244⟩ := Option.bind_eq_some_iff.1 h244
              refine V_storeH (α := UInt32) (e := 77) (v := v239) (l := s237.1) hH (i := 2) rfl hl264 hx265 rfl Try.sizeOf77 rfl hB hA rfl rfl ?_
              intro w266 hH267 ht268
              replace hK := Tr.trans hK ht268
              replace hr125 := Tr.trans hr125 ht268
              replace hr228 := Tr.trans hr228 ht268
              replace hB := Nat.le_trans hB ht268.ex.size
              replace hA := ht268.new
              replace hH : Hp w.heap.size A241 w266 (obS (α := UInt32) 77 v140 s136.2.1 :: obS (α := UInt32) 77 v110 x109 :: obS (α := UInt32) 77 v239 x265 :: []) := hH267
              refine V_to (fun _ _ => rfl) ?_
              refine C_region ?_
              refine V_y (Y_move rfl) rfl rfl rfl ?_
              obtain ⟨x269, hx269, h244⟩ := Option.bind_eq_some_iff.1 h244
              refine V_y (Y_shr hx269 rfl rfl) rfl rfl rfl ?_
              refine V_y (Y_convI Try.underlying76 Try.underlying2 rfl) rfl rfl rfl ?_
              refine V_y (Y_move rfl) rfl rfl rfl ?_
              obtain ⟨x270, hx270, h244⟩ := Option.bind_eq_some_iff.1 h244
              refine V_y (Y_shr hx270 rfl rfl) rfl rfl rfl ?_
              refine V_y (Y_subI rfl rfl) rfl rfl rfl ?_
              refine V_y (Y_assign rfl) rfl rfl rfl ?_
              refine V_to (fun _ _ => rfl) ?_
              refine C_region ?_
              refine V_y (Y_addI rfl rfl) rfl rfl rfl ?_
              refine V_y (Y_move rfl) rfl rfl rfl ?_
              obtain rfl := Option.some.inj h244
              refine V_end (fun a ha271 => ?_)
              exact ⟨(x265, w64 ((IntKind.wrap .i64 x269) - x270), w64 (s237.2.2 + 1)), h245, ⟨(v239, A241), ha271.sub ⟨rfl, rfl, rfl, rfl, rfl, rfl, rfl, rfl, rfl, rfl, trivial⟩, ⟨hH, hr228⟩⟩⟩
            · rw [if_neg (nt hc250)] at h244
              obtain rfl := Option.some.inj h244
              refine C_exit (fun a ha272 => ?_)
              exact ⟨((s237.1, s237.2.1, s237.2.2), v239, A241), ha272.sub ⟨rfl, rfl, rfl, rfl, rfl, rfl, rfl, rfl, trivial⟩, ⟨h245.symm, hH, hr228⟩⟩
          rintro ⟨s227, v233, A235⟩ w230 ⟨rfl, hH236, hk231⟩ a ha232
          rw [Lp.andThen_fin] at h145
          replace hK := Tr.trans hK hk231
          replace hr125 := Tr.trans hr125 hk231
          replace hB := Nat.le_trans hB hk231.ex.size
          replace hA := hk231.new
          replace hH : Hp w.heap.size A235 w230 (obS (α := UInt32) 77 v140 s136.2.1 :: obS (α := UInt32) 77 v110 x109 :: obS (α := UInt32) 77 v233 s227.1 :: []) := hH236
          refine C_at (n := ⟨308, [], none⟩) (fun _ _ => rfl) ?_ ha232
          refine C_seq ?_
          refine C_region ?_
          refine V_y (Y_move rfl) rfl rfl rfl ?_
          refine V_y (Y_move rfl) rfl rfl rfl ?_
          refine V_y (Y_move rfl) rfl rfl rfl ?_
          refine V_y (Y_addI rfl rfl) rfl rfl rfl ?_
          obtain ⟨x274, hx274, h145⟩ := Option.bind_eq_some_iff.1 h145
          refine V_indexAddrH (α := UInt32) (e := 77) (v := v233) (l := s227.1) hH (i := 2) rfl hx274 Try.underlying56 Try.sizeOf77 rfl rfl rfl ?_
          intro b275 o276 h277 hl278
          refine V_y (Y_load (El.u32 h277) Try.isAgg77 rfl) rfl rfl rfl ?_
          refine V_y (Y_convI Try.underlying77 Try.underlying2 rfl) rfl rfl rfl ?_
          refine V_y (Y_move rfl) rfl rfl rfl ?_
          refine V_y (Y_subI rfl rfl) rfl rfl rfl ?_
          refine V_y (Y_assign rfl) rfl rfl rfl ?_
          refine V_to (fun _ _ => rfl) ?_
          refine C_seq ?_
          refine C_region ?_
          refine V_y (Y_move rfl) rfl rfl rfl ?_
          refine V_y (Y_move rfl) rfl rfl rfl ?_
          refine V_y (Y_move rfl) rfl rfl rfl ?_
          refine V_y (Y_addI rfl rfl) rfl rfl rfl ?_
          refine V_y (Y_move rfl) rfl rfl rfl ?_
          refine V_y (Y_convU32 Try.underlying2 Try.underlying77 rfl) rfl rfl rfl ?_
          refine V_indexAddrH (α := UInt32) (e := 77) (v := v233) (l := s227.1) hH (i := 2) rfl hx274 Try.underlying56 Try.sizeOf77 rfl rfl rfl ?_
          intro b279 o280 h281 hl282
          obtain ⟨x283, hx283, h145⟩ := Option.bind_eq_some_iff.1 h145
          refine V_storeH (α := UInt32) (e := 77) (v := v233) (l := s227.1) hH (i := 2) rfl hl282 hx283 rfl Try.sizeOf77 rfl hB hA rfl rfl ?_
          intro w284 hH285 ht286
          replace hK := Tr.trans hK ht286
          replace hr125 := Tr.trans hr125 ht286
          replace hB := Nat.le_trans hB ht286.ex.size
          replace hA := ht286.new
          replace hH : Hp w.heap.size A235 w284 (obS (α := UInt32) 77 v140 s136.2.1 :: obS (α := UInt32) 77 v110 x109 :: obS (α := UInt32) 77 v233 x283 :: []) := hH285
          refine V_to (fun _ _ => rfl) ?_
          refine C_seq ?_
          refine C_seq ?_
          refine C_region ?_
          refine V_y (Y_move rfl) rfl rfl rfl ?_
          refine V_y (Y_lss rfl rfl) rfl rfl rfl ?_
          refine V_to (fun _ _ => rfl) ?_
          obtain ⟨s288, ho287, h145⟩ := Option.bind_eq_some_iff.1 h145
          refine C_cutG (ι := (Value × (Nat → Prop))) (fun ⟨v290, A295⟩ => [(9, .int .u64 (IntKind.wrap .u64 x100)), (10, .int .i64 (b.length : Int)), (11, v290), (12, v110), (13, v140), (14, .int .i64 s136.2.2), (16, .int .u64 s288.2)]) (fun ⟨v290, A295⟩ => fun w' => Hp w.heap.size A295 w' (obS (α := UInt32) 77 v140 s136.2.1 :: obS (α := UInt32) 77 v110 x109 :: obS (α := UInt32) 77 v290 s288.1 :: []) ∧ Tr w.heap.size A235 w284 A295 w') ?_ ?_
          · have hr289 : Tr w.heap.size A235 w284 A235 w284 := Tr.refl hA
            refine C_cond rfl (fun hc297 => ?_) (fun hc297 => ?_)
            · rw [if_pos hc297] at ho287
              refine C_seq ?_
              refine C_region ?_
              refine V_y (Y_move rfl) rfl rfl rfl ?_
              refine V_y (Y_sub rfl rfl) rfl rfl rfl ?_
              refine V_y (Y_assign rfl) rfl rfl rfl ?_
              refine V_to (fun _ _ => rfl) ?_
              refine C_seq ?_
              refine C_region ?_
              refine V_y (Y_assign rfl) rfl rfl rfl ?_
              refine V_to (fun _ _ => rfl) ?_
              refine C_seq ?_
              refine C_seq ?_
              refine C_region ?_
              refine V_y (Y_move rfl) rfl rfl rfl ?_
              refine V_y (Y_move rfl) rfl rfl rfl ?_
              refine V_to (fun _ _ => rfl) ?_
              obtain ⟨o298, ho298, ho287⟩ := Option.bind_eq_some_iff.1 ho287
              refine C_cutG (ι := (((List UInt32) × Int × Int) × Value × (Nat → Prop))) (fun ⟨s299, v305, A307⟩ => [(9, .int .u64 (IntKind.wrap .u64 x100)), (10, .int .i64 (b.length : Int)), (11, v305), (12, v110), (13, v140), (14, .int .i64 s136.2.2), (16, .int .u64 (IntKind.wrap .u64 (s181.1 - 1))), (23, .int .u64 s299.2.1)]) (fun ⟨s299, v305, A307⟩ => fun w' => o298 = .fin s299 ∧ Hp w.heap.size A307 w' (obS (α := UInt32) 77 v140 s136.2.1 :: obS (α := UInt32) 77 v110 x109 :: obS (α := UInt32) 77 v305 s299.1 :: []) ∧ Tr w.heap.size A235 w284 A307 w') ?_ ?_
              · refine C_block ?_
                refine C_while ho298 (fun s309 a w' => ∃ i : (Value × (Nat → Prop)), Has ⟨308, [], none⟩ a ([(9, .int .u64 (IntKind.wrap .u64 x100)), (10, .int .i64 (b.length : Int)), (11, i.1), (12, v110), (13, v140), (14, .int .i64 s136.2.2), (16, .int .u64 (IntKind.wrap .u64 (s181.1 - 1))), (23, .int .u64 s309.2.1), (233, .int .i64 (b.length : Int)), (234, .int .i64 s309.2.2)]) ∧ Hp w.heap.size i.2 w' (obS (α := UInt32) 77 v140 s136.2.1 :: obS (α := UInt32) 77 v110 x109 :: obS (α := UInt32) 77 i.1 s309.1 :: []) ∧ Tr w.heap.size A235 w284 i.2 w') (fun a ha => ⟨(v233, A235), ha.sub ⟨rfl, rfl, rfl, rfl, rfl, rfl, rfl, rfl, rfl, rfl, trivial⟩, ⟨hH, Tr.refl hA⟩⟩) ?_
                rintro K s309 a w310 ⟨⟨v311, A313⟩, ha347, hH314, hr300⟩ K321
                refine C_of ?_ ha347
                replace hK := Tr.trans hK hr300
                replace hr125 := Tr.trans hr125 hr300
                replace hr289 := Tr.trans hr289 hr300
                replace hB := Nat.le_trans hB hr300.ex.size
                replace hA := hr300.new
                replace hH : Hp w.heap.size A313 w310 (obS (α := UInt32) 77 v140 s136.2.1 :: obS (α := UInt32) 77 v110 x109 :: obS (α := UInt32) 77 v311 s309.1 :: []) := hH314
                obtain ⟨x315, h316, h317⟩ := K321
                refine C_seq ?_
                refine C_region ?_
                refine V_y (Y_lss rfl rfl) rfl rfl rfl ?_
                refine V_to (fun _ _ => rfl) ?_
                refine C_seq ?_
                refine C_cond rfl (fun hc322 => ?_) (fun hc322 => ?_)
                · rw [if_pos hc322] at h316
                  refine C_skip_to (fun _ _ => rfl) ?_
                  refine C_seq ?_
                  refine C_block ?_
                  refine C_seq ?_
                  refine C_region ?_
                  refine V_y (Y_move rfl) rfl rfl rfl ?_
                  refine V_y (Y_assign rfl) rfl rfl rfl ?_
                  refine V_to (fun _ _ => rfl) ?_
                  refine C_seq ?_
                  refine C_region_q Try_mixed (by kernel_rfl) ?_
                  refine VQ_y (fun w' hw' => Y_move rfl) rfl rfl rfl ?_
                  refine VQ_y (fun w' hw' => Y_move rfl) rfl rfl rfl ?_
                  refine VQ_y (fun w' hw' => Y_move rfl) rfl rfl rfl ?_
                  refine VQ_y (fun w' hw' => Y_move rfl) rfl rfl rfl ?_
                  refine VQ_y (fun w' hw' => Y_addI rfl rfl) rfl rfl rfl ?_
                  obtain ⟨x323, hx323, h316⟩ := Option.bind_eq_some_iff.1 h316
                  refine VQ_indexAddrH (α := UInt32) (e := 77) (v := v311) (l := s309.1) hH (i := 2) rfl hx323 Try.underlying56 Try.sizeOf77 rfl rfl rfl ?_
                  intro b324 o325 h326 hl327
                  refine VQ_y (fun w' hw' => Y_load (El.u32 (El.kp h326 hw')) Try.isAgg77 rfl) rfl rfl rfl ?_
                  refine VQ_y (fun w' hw' => Y_convI Try.underlying77 Try.underlying76 rfl) rfl rfl rfl ?_
                  refine VQ_y (fun w' hw' => Y_move rfl) rfl rfl rfl ?_
                  refine VQ_y (fun w' hw' => Y_move rfl) rfl rfl rfl ?_
                  obtain ⟨x328, hx328, h316⟩ := Option.bind_eq_some_iff.1 h316
                  refine VQ_indexAddrH (α := UInt32) (e := 77) (v := v110) (l := x109) hH (i := 1) rfl hx328 Try.underlying56 Try.sizeOf77 rfl rfl rfl ?_
                  intro b329 o330 h331 hl332
                  refine VQ_y (fun w' hw' => Y_load (El.u32 (El.kp h331 hw')) Try.isAgg77 rfl) rfl rfl rfl ?_
                  refine VQ_y (fun w' hw' => Y_convI Try.underlying77 Try.underlying76 rfl) rfl rfl rfl ?_
                  refine VQ_y (fun w' hw' => Y_add rfl rfl) rfl rfl rfl ?_
                  refine VQ_y (fun w' hw' => Y_add rfl rfl) rfl rfl rfl ?_
                  refine VQ_y (fun w' hw' => Y_assign rfl) rfl rfl rfl ?_
                  refine VQ_to (fun _ _ => rfl) (fun w333 hk334 => ?_)
                  have ht335 := Kp.tr hk334 hA hB
                  replace hH := Hp.kp hH hk334
                  replace hK := Tr.trans hK ht335
                  replace hr125 := Tr.trans hr125 ht335
                  replace hr289 := Tr.trans hr289 ht335
                  replace hr300 := Tr.trans hr300 ht335
                  replace hB := Nat.le_trans hB ht335.ex.size
                  replace hA := ht335.new
                  refine C_seq ?_
                  refine C_region ?_
                  refine V_y (Y_move rfl) rfl rfl rfl ?_
                  refine V_y (Y_move rfl) rfl rfl rfl ?_
                  refine V_y (Y_move rfl) rfl rfl rfl ?_
                  refine V_y (Y_addI rfl rfl) rfl rfl rfl ?_
                  refine V_y (Y_move rfl) rfl rfl rfl ?_
                  refine V_y (Y_convU32 Try.underlying76 Try.underlying77 rfl) rfl rfl rfl ?_
                  refine V_indexAddrH (α := UInt32) (e := 77) (v := v311) (l := s309.1) hH (i := 2) rfl hx323 Try.underlying56 Try.sizeOf77 rfl rfl rfl ?_
                  intro b336 o337 h338 hl339
                  obtain ⟨x340, hx340, h316⟩ := Option.bind_eq_some_iff.1 h316
                  refine V_storeH (α := UInt32) (e := 77) (v := v311) (l := s309.1) hH (i := 2) rfl hl339 hx340 rfl Try.sizeOf77 rfl hB hA rfl rfl ?_
                  intro w341 hH342 ht343
                  replace hK := Tr.trans hK ht343
                  replace hr125 := Tr.trans hr125 ht343
                  replace hr289 := Tr.trans hr289 ht343
                  replace hr300 := Tr.trans hr300 ht343
                  replace hB := Nat.le_trans hB ht343.ex.size
                  replace hA := ht343.new
                  replace hH : Hp w.heap.size A313 w341 (obS (α := UInt32) 77 v140 s136.2.1 :: obS (α := UInt32) 77 v110 x109 :: obS (α := UInt32) 77 v311 x340 :: []) := hH342
                  refine V_to (fun _ _ => rfl) ?_
                  refine C_region ?_
                  refine V_y (Y_move rfl) rfl rfl rfl ?_
                  obtain ⟨x344, hx344, h316⟩ := Option.bind_eq_some_iff.1 h316
                  refine V_y (Y_shr hx344 rfl rfl) rfl rfl rfl ?_
                  refine V_y (Y_assign rfl) rfl rfl rfl ?_
                  refine V_to (fun _ _ => rfl) ?_
                  refine C_region ?_
                  refine V_y (Y_addI rfl rfl) rfl rfl rfl ?_
                  refine V_y (Y_move rfl) rfl rfl rfl ?_
                  obtain rfl := Option.some.inj h316
                  refine V_end (fun a ha345 => ?_)
                  exact ⟨(x340, x344, w64 (s309.2.2 + 1)), h317, ⟨(v311, A313), ha345.sub ⟨rfl, rfl, rfl, rfl, rfl, rfl, rfl, rfl, rfl, rfl, trivial⟩, ⟨hH, hr300⟩⟩⟩
                · rw [if_neg (nt hc322)] at h316
                  obtain rfl := Option.some.inj h316
                  refine C_exit (fun a ha346 => ?_)
                  exact ⟨((s309.1, s309.2.1, s309.2.2), v311, A313), ha346.sub ⟨rfl, rfl, rfl, rfl, rfl, rfl, rfl, rfl, trivial⟩, ⟨h317.symm, hH, hr300⟩⟩
              rintro ⟨s299, v305, A307⟩ w302 ⟨rfl, hH308, hk303⟩ a ha304
              rw [Lp.andThen_fin] at ho287
              replace hK := Tr.trans hK hk303
              replace hr125 := Tr.trans hr125 hk303
              replace hr289 := Tr.trans hr289 hk303
              replace hB := Nat.le_trans hB hk303.ex.size
              replace hA := hk303.new
              replace hH : Hp w.heap.size A307 w302 (obS (α := UInt32) 77 v140 s136.2.1 :: obS (α := UInt32) 77 v110 x109 :: obS (α := UInt32) 77 v305 s299.1 :: []) := hH308
              refine C_at (n := ⟨308, [], none⟩) (fun _ _ => rfl) ?_ ha304
              refine C_region ?_
              refine V_y (Y_move rfl) rfl rfl rfl ?_
              refine V_y (Y_move rfl) rfl rfl rfl ?_
              refine V_y (Y_move rfl) rfl rfl rfl ?_
              refine V_y (Y_addI rfl rfl) rfl rfl rfl ?_
              obtain ⟨x348, hx348, ho287⟩ := Option.bind_eq_some_iff.1 ho287
              refine V_indexAddrH (α := UInt32) (e := 77) (v := v305) (l := s299.1) hH (i := 2) rfl hx348 Try.underlying56 Try.sizeOf77 rfl rfl rfl ?_
              intro b349 o350 h351 hl352
              refine V_y (Y_load (El.u32 h351) Try.isAgg77 rfl) rfl rfl rfl ?_
              refine V_y (Y_move rfl) rfl rfl rfl ?_
              refine V_y (Y_convU32 Try.underlying76 Try.underlying77 rfl) rfl rfl rfl ?_
              refine V_y (Y_addW rfl rfl) rfl rfl rfl ?_
              refine V_indexAddrH (α := UInt32) (e := 77) (v := v305) (l := s299.1) hH (i := 2) rfl hx348 Try.underlying56 Try.sizeOf77 rfl rfl rfl ?_
              intro b353 o354 h355 hl356
              obtain ⟨x357, hx357, ho287⟩ := Option.bind_eq_some_iff.1 ho287
              refine V_storeH (α := UInt32) (e := 77) (v := v305) (l := s299.1) hH (i := 2) rfl hl356 hx357 rfl Try.sizeOf77 rfl hB hA rfl rfl ?_
              intro w358 hH359 ht360
              replace hK := Tr.trans hK ht360
              replace hr125 := Tr.trans hr125 ht360
              replace hr289 := Tr.trans hr289 ht360
              replace hB := Nat.le_trans hB ht360.ex.size
              replace hA := ht360.new
              replace hH : Hp w.heap.size A307 w358 (obS (α := UInt32) 77 v140 s136.2.1 :: obS (α := UInt32) 77 v110 x109 :: obS (α := UInt32) 77 v305 x357 :: []) := hH359
              obtain rfl := Option.some.inj ho287
              refine V_end (fun a ha361 => ?_)
              exact ⟨(v305, A307), ha361.sub ⟨rfl, rfl, rfl, rfl, rfl, rfl, rfl, trivial⟩, ⟨hH, hr289⟩⟩
            · rw [if_neg (nt hc297)] at ho287
              obtain rfl := Option.some.inj ho287
              refine C_skip (fun a ha362 => ?_)
              exact ⟨(v233, A235), ha362.sub ⟨rfl, rfl, rfl, rfl, rfl, rfl, rfl, trivial⟩, ⟨hH, hr289⟩⟩
          rintro ⟨v290, A295⟩ w292 ⟨hH296, hk293⟩ a ha294
          replace hK := Tr.trans hK hk293
          replace hr125 := Tr.trans hr125 hk293
          replace hB := Nat.le_trans hB hk293.ex.size
          replace hA := hk293.new
          replace hH : Hp w.heap.size A295 w292 (obS (α := UInt32) 77 v140 s136.2.1 :: obS (α := UInt32) 77 v110 x109 :: obS (α := UInt32) 77 v290 s288.1 :: []) := hH296
          refine C_at (n := ⟨308, [], none⟩) (fun _ _ => rfl) ?_ ha294
          refine C_region ?_
          refine V_y (Y_move rfl) rfl rfl rfl ?_
          refine V_y (Y_move rfl) rfl rfl rfl ?_
          refine V_y (Y_move rfl) rfl rfl rfl ?_
          refine V_y (Y_convU32 Try.underlying76 Try.underlying77 rfl) rfl rfl rfl ?_
          obtain ⟨x363, hx363, h145⟩ := Option.bind_eq_some_iff.1 h145
          refine V_indexAddrH (α := UInt32) (e := 77) (v := v140) (l := s136.2.1) hH (i := 0) rfl hx363 Try.underlying56 Try.sizeOf77 rfl rfl rfl ?_
          intro b364 o365 h366 hl367
          obtain ⟨x368, hx368, h145⟩ := Option.bind_eq_some_iff.1 h145
          refine V_storeH (α := UInt32) (e := 77) (v := v140) (l := s136.2.1) hH (i := 0) rfl hl367 hx368 rfl Try.sizeOf77 rfl hB hA rfl rfl ?_
          intro w369 hH370 ht371
          replace hK := Tr.trans hK ht371
          replace hr125 := Tr.trans hr125 ht371
          replace hB := Nat.le_trans hB ht371.ex.size
          replace hA := ht371.new
          replace hH : Hp w.heap.size A295 w369 (obS (α := UInt32) 77 v140 x368 :: obS (α := UInt32) 77 v110 x109 :: obS (α := UInt32) 77 v290 s288.1 :: []) := hH370
          refine V_to (fun _ _ => rfl) ?_
          refine C_region ?_
          refine V_y (Y_move rfl) rfl rfl rfl ?_
          refine V_y (Y_subI rfl rfl) rfl rfl rfl ?_
          refine V_y (Y_assign rfl) rfl rfl rfl ?_
          obtain rfl := Option.some.inj h145
          refine V_end (fun a ha372 => ?_)
          exact ⟨(s288.1, x368, w64 (s136.2.2 - 1)), h146, ⟨(v290, v140, A295), ha372.sub ⟨rfl, rfl, rfl, rfl, rfl, rfl, trivial⟩, ⟨hH, hr125⟩⟩⟩
        · rw [if_neg (nt hc151)] at h145
          obtain rfl := Option.some.inj h145
          refine C_exit (fun a ha373 => ?_)
          exact ⟨((s136.1, s136.2.1, s136.2.2), v138, v140, A142), ha373.sub ⟨rfl, rfl, rfl, rfl, trivial⟩, ⟨h146.symm, hH, hr125⟩⟩
      rintro ⟨s124, v130, v132, A134⟩ w127 ⟨rfl, hH135, hk128⟩ a ha129
      rw [Lp.andThen_fin] at hm
      replace hK := Tr.trans hK hk128
      replace hB := Nat.le_trans hB hk128.ex.size
      replace hA := hk128.new
      replace hH : Hp w.heap.size A134 w127 (obS (α := UInt32) 77 v132 s124.2.1 :: obS (α := UInt32) 77 v110 x109 :: obS (α := UInt32) 77 v130 s124.1 :: []) := hH135
      refine C_at (n := ⟨308, [], none⟩) (fun _ _ => rfl) ?_ ha129
      refine C_seq ?_
      refine C_region ?_
      refine V_y (Y_move rfl) rfl rfl rfl ?_
      obtain ⟨x375, hx375, hm⟩ := Option.bind_eq_some_iff.1 hm
      refine V_makeH (e := 77) (ti := Try.t77) hH hx375 (fun _ _ => rfl) Try.underlying56 Try_info77 rfl rfl rfl (by decide) (by decide) hB hA rfl rfl rfl ?_
      intro v376 w377 A378 hH379 ht380
      replace hK := Tr.trans hK ht380
      replace hB := Nat.le_trans hB ht380.ex.size
      replace hA := ht380.new
      replace hH : Hp w.heap.size A378 w377 (obS (α := UInt32) 77 v376 x375 :: obS (α := UInt32) 77 v132 s124.2.1 :: obS (α := UInt32) 77 v110 x109 :: obS (α := UInt32) 77 v130 s124.1 :: []) := hH379
      refine V_y (Y_assign rfl) rfl rfl rfl ?_
      refine V_to (fun _ _ => rfl) ?_
      refine C_seq ?_
      refine C_seq ?_
      refine C_region ?_
      refine V_y (Y_move rfl) rfl rfl rfl ?_
      refine V_y (Y_move rfl) rfl rfl rfl ?_
      refine V_to (fun _ _ => rfl) ?_
      obtain ⟨o381, ho381, hm⟩ := Option.bind_eq_some_iff.1 hm
      refine C_cutG (ι := (((List UInt32) × Int) × Value × (Nat → Prop))) (fun ⟨s382, v388, A390⟩ => [(13, v132), (25, v388)]) (fun ⟨s382, v388, A390⟩ => fun w' => o381 = .fin s382 ∧ Hp w.heap.size A390 w' (obS (α := UInt32) 77 v388 s382.1 :: obS (α := UInt32) 77 v132 s124.2.1 :: obS (α := UInt32) 77 v110 x109 :: obS (α := UInt32) 77 v130 s124.1 :: []) ∧ Tr w.heap.size A378 w377 A390 w') ?_ ?_
      · refine C_block ?_
        refine C_while ho381 (fun s392 a w' => ∃ i : (Value × (Nat → Prop)), Has ⟨308, [], none⟩ a ([(9, .int .u64 (IntKind.wrap .u64 x100)), (11, v130), (13, v132), (25, i.1), (279, .int .i64 (b.length : Int)), (280, .int .i64 s392.2)]) ∧ Hp w.heap.size i.2 w' (obS (α := UInt32) 77 i.1 s392.1 :: obS (α := UInt32) 77 v132 s124.2.1 :: obS (α := UInt32) 77 v110 x109 :: obS (α := UInt32) 77 v130 s124.1 :: []) ∧ Tr w.heap.size A378 w377 i.2 w') (fun a ha => ⟨(v376, A378), ha.sub ⟨rfl, rfl, rfl, rfl, rfl, rfl, trivial⟩, ⟨hH, Tr.refl hA⟩⟩) ?_
        rintro K s392 a w393 ⟨⟨v394, A396⟩, ha432, hH397, hr383⟩ K404
        refine C_of ?_ ha432
        replace hK := Tr.trans hK hr383
        replace hB := Nat.le_trans hB hr383.ex.size
        replace hA := hr383.new
        replace hH : Hp w.heap.size A396 w393 (obS (α := UInt32) 77 v394 s392.1 :: obS (α := UInt32) 77 v132 s124.2.1 :: obS (α := UInt32) 77 v110 x109 :: obS (α := UInt32) 77 v130 s124.1 :: []) := hH397
        obtain ⟨x398, h399, h400⟩ := K404
        refine C_seq ?_
        refine C_region ?_
        refine V_y (Y_lss rfl rfl) rfl rfl rfl ?_
        refine V_to (fun _ _ => rfl) ?_
        refine C_seq ?_
        refine C_cond rfl (fun hc405 => ?_) (fun hc405 => ?_)
        · rw [if_pos hc405] at h399
          refine C_skip_to (fun _ _ => rfl) ?_
          refine C_seq ?_
          refine C_block ?_
          refine C_seq ?_
          refine C_region ?_
          refine V_y (Y_move rfl) rfl rfl rfl ?_
          refine V_y (Y_assign rfl) rfl rfl rfl ?_
          refine V_to (fun _ _ => rfl) ?_
          refine C_region_qt 20 Try_mixed (by kernel_rfl) ?_
          simp only [List.take, List.drop]
          refine VQ_y (fun w' hw' => Y_move rfl) rfl rfl rfl ?_
          refine VQ_y (fun w' hw' => Y_move rfl) rfl rfl rfl ?_
          refine VQ_y (fun w' hw' => Y_move rfl) rfl rfl rfl ?_
          refine VQ_y (fun w' hw' => Y_move rfl) rfl rfl rfl ?_
          obtain ⟨x406, hx406, h399⟩ := Option.bind_eq_some_iff.1 h399
          refine VQ_indexAddrH (α := UInt32) (e := 77) (v := v130) (l := s124.1) hH (i := 3) rfl hx406 Try.underlying56 Try.sizeOf77 rfl rfl rfl ?_
          intro b407 o408 h409 hl410
          refine VQ_y (fun w' hw' => Y_load (El.u32 (El.kp h409 hw')) Try.isAgg77 rfl) rfl rfl rfl ?_
          refine VQ_y (fun w' hw' => Y_move rfl) rfl rfl rfl ?_
          obtain ⟨x411, hx411, h399⟩ := Option.bind_eq_some_iff.1 h399
          refine VQ_y (fun w' hw' => Y_shr hx411 rfl rfl) rfl rfl rfl ?_
          refine VQ_y (fun w' hw' => Y_move rfl) rfl rfl rfl ?_
          refine VQ_y (fun w' hw' => Y_move rfl) rfl rfl rfl ?_
          refine VQ_y (fun w' hw' => Y_addI rfl rfl) rfl rfl rfl ?_
          obtain ⟨x412, hx412, h399⟩ := Option.bind_eq_some_iff.1 h399
          refine VQ_indexAddrH (α := UInt32) (e := 77) (v := v130) (l := s124.1) hH (i := 3) rfl hx412 Try.underlying56 Try.sizeOf77 rfl rfl rfl ?_
          intro b413 o414 h415 hl416
          refine VQ_y (fun w' hw' => Y_load (El.u32 (El.kp h415 hw')) Try.isAgg77 rfl) rfl rfl rfl ?_
          refine VQ_y (fun w' hw' => Y_convI Try.underlying77 Try.underlying76 rfl) rfl rfl rfl ?_
          refine VQ_y (fun w' hw' => Y_move rfl) rfl rfl rfl ?_
          refine VQ_y (fun w' hw' => Y_sub rfl rfl) rfl rfl rfl ?_
          obtain ⟨x417, hx417, h399⟩ := Option.bind_eq_some_iff.1 h399
          refine VQ_y (fun w' hw' => Y_shl hx417 rfl rfl) rfl rfl rfl ?_
          refine VQ_y (fun w' hw' => Y_convU32 Try.underlying76 Try.underlying77 rfl) rfl rfl rfl ?_
          refine VQ_y (fun w' hw' => Y_orW rfl rfl) rfl rfl rfl ?_
          obtain ⟨x418, hx418, h399⟩ := Option.bind_eq_some_iff.1 h399
          refine VQ_indexAddrH (α := UInt32) (e := 77) (v := v394) (l := s392.1) hH (i := 0) rfl hx418 Try.underlying56 Try.sizeOf77 rfl rfl rfl ?_
          intro b419 o420 h421 hl422
          refine VQ_tail (fun w423 hk424 => ?_)
          try simp only [List.take, List.drop]
          have ht425 := Kp.tr hk424 hA hB
          replace hH := Hp.kp hH hk424
          replace h409 := El.kp h409 hk424
          replace h415 := El.kp h415 hk424
          replace h421 := El.kp h421 hk424
          replace hK := Tr.trans hK ht425
          replace hr383 := Tr.trans hr383 ht425
          replace hB := Nat.le_trans hB ht425.ex.size
          replace hA := ht425.new
          obtain ⟨x426, hx426, h399⟩ := Option.bind_eq_some_iff.1 h399
          refine V_storeH (α := UInt32) (e := 77) (v := v394) (l := s392.1) hH (i := 0) rfl hl422 hx426 rfl Try.sizeOf77 rfl hB hA rfl rfl ?_
          intro w427 hH428 ht429
          replace hK := Tr.trans hK ht429
          replace hr383 := Tr.trans hr383 ht429
          replace hB := Nat.le_trans hB ht429.ex.size
          replace hA := ht429.new
          replace hH : Hp w.heap.size A396 w427 (obS (α := UInt32) 77 v394 x426 :: obS (α := UInt32) 77 v132 s124.2.1 :: obS (α := UInt32) 77 v110 x109 :: obS (α := UInt32) 77 v130 s124.1 :: []) := hH428
          refine V_to (fun _ _ => rfl) ?_
          refine C_region ?_
          refine V_y (Y_addI rfl rfl) rfl rfl rfl ?_
          refine V_y (Y_move rfl) rfl rfl rfl ?_
          obtain rfl := Option.some.inj h399
          refine V_end (fun a ha430 => ?_)
          exact ⟨(x426, w64 (s392.2 + 1)), h400, ⟨(v394, A396), ha430.sub ⟨rfl, rfl, rfl, rfl, rfl, rfl, trivial⟩, ⟨hH, hr383⟩⟩⟩
        · rw [if_neg (nt hc405)] at h399
          obtain rfl := Option.some.inj h399
          refine C_exit (fun a ha431 => ?_)
          exact ⟨((s392.1, s392.2), v394, A396), ha431.sub ⟨rfl, rfl, trivial⟩, ⟨h400.symm, hH, hr383⟩⟩
      rintro ⟨s382, v388, A390⟩ w385 ⟨rfl, hH391, hk386⟩ a ha387
      rw [Lp.andThen_fin] at hm
      replace hK := Tr.trans hK hk386
      replace hB := Nat.le_trans hB hk386.ex.size
      replace hA := hk386.new
      replace hH : Hp w.heap.size A390 w385 (obS (α := UInt32) 77 v388 s382.1 :: obS (α := UInt32) 77 v132 s124.2.1 :: obS (α := UInt32) 77 v110 x109 :: obS (α := UInt32) 77 v130 s124.1 :: []) := hH391
      refine C_at (n := ⟨308, [], none⟩) (fun _ _ => rfl) ?_ ha387
      refine C_seq ?_
      refine C_region ?_
      refine V_y (Y_move rfl) rfl rfl rfl ?_
      obtain ⟨A433, ht434, h435, hH436⟩ := Hp.freeze (α := UInt32) (v := v132) (l := s124.2.1) hH (i := 1) rfl hA
      replace hK := Tr.trans hK ht434
      replace hB := Nat.le_trans hB ht434.ex.size
      replace hA := ht434.new
      replace hH : Hp w.heap.size A433 w385 (obS (α := UInt32) 77 v388 s382.1 :: obS (α := UInt32) 77 v110 x109 :: obS (α := UInt32) 77 v130 s124.1 :: []) := hH436
      obtain ⟨x438, hx438, hm⟩ := Option.bind_eq_some_iff.1 hm
      refine V_call Try.call50 rfl rfl rfl rfl (portref2_whole_trim_c w385 s124.2.1 v132 h435 hx438) ?_
      rintro v439 _ ⟨_, rfl, h440, rfl⟩
      refine V_y (Y_move rfl) rfl rfl rfl ?_
      obtain ⟨A441, ht442, h443, hH444⟩ := Hp.freeze (α := UInt32) (v := v388) (l := s382.1) hH (i := 0) rfl hA
      replace h435 := Sl.tr h435 ht442
      replace h440 := Sl.tr h440 ht442
      replace hK := Tr.trans hK ht442
      replace hB := Nat.le_trans hB ht442.ex.size
      replace hA := ht442.new
      replace hH : Hp w.heap.size A441 w385 (obS (α := UInt32) 77 v110 x109 :: obS (α := UInt32) 77 v130 s124.1 :: []) := hH444
      obtain ⟨x446, hx446, hm⟩ := Option.bind_eq_some_iff.1 hm
      refine V_call Try.call50 rfl rfl rfl rfl (portref2_whole_trim_c w385 s382.1 v388 h443 hx446) ?_
      rintro v447 _ ⟨_, rfl, h448, rfl⟩
      refine V_y (Y_assign rfl) rfl rfl rfl ?_
      refine V_y (Y_assign rfl) rfl rfl rfl ?_
      refine V_to (fun _ _ => rfl) ?_
      obtain rfl := Option.some.inj hm
      refine C_ret ?_
      try simp only [↓inBlock_ret, ↓then_ret]
      exact retQ rfl (Res.two Try.results51 rfl rfl) ⟨v439, v447, rfl, (Sl.out h440 hA0 hK), (Sl.out h448 hA0 hK), hK.kp⟩

set_option maxRecDepth 4000 in
set_option maxHeartbeats 4000000 in
theorem portref2_lowest_c (w : World) {A : Nat → Prop} (hA : ∀ b, w.heap.size ≤ b → A b) (num : (List UInt32)) (v_num : Value) (h_num : Sl A w v_num num) (den : (List UInt32)) (v_den : Value) (h_den : Sl A w v_den den) {r : portref2_ratio} (hm : portref2_lowest num den = some r) : Ret Try.prog 45 #[v_num, v_den] w fun v w' => ∃ s0 s1, v = .agg #[s0, s1] ∧ Sl A w' s0 r.num ∧ Sl A w' s1 r.den ∧ Kp w w' := by
  unfold portref2_lowest at hm
  refine enter Try.func45 rfl Try.ntmps45 rfl ?_
  have hA0 := hA
  have hB := Nat.le_refl w.heap.size
  have hK : Tr w.heap.size A w A w := Tr.refl hA
  have hH : Hp w.heap.size A w [] := Hp.nil
  refine C_seq ?_
  refine C_region ?_
  refine V_allocH (B := w.heap.size) hH Try.zeroValue58 hB hA rfl ?_
  intro b5 w6 A7 hH8 ht9
  replace h_num := Sl.tr h_num ht9
  replace h_den := Sl.tr h_den ht9
  replace hK := Tr.trans hK ht9
  replace hB := Nat.le_trans hB ht9.ex.size
  replace hA := ht9.new
  replace hH : Hp w.heap.size A7 w6 (obC b5 [.slice none 0 0, .slice none 0 0] 58 :: []) := hH8
  refine V_to (fun _ _ => rfl) ?_
  refine C_seq ?_
  refine C_region ?_
  refine V_y (Y_move rfl) rfl rfl rfl ?_
  refine V_y (Y_move rfl) rfl rfl rfl ?_
  refine V_y (Y_assign rfl) rfl rfl rfl ?_
  refine V_y (Y_assign rfl) rfl rfl rfl ?_
  refine V_to (fun _ _ => rfl) ?_
  refine C_seq ?_
  obtain ⟨o10, ho10, hm⟩ := Option.bind_eq_some_iff.1 hm
  refine C_cutG (ι := (((List UInt32) × (List UInt32)) × Value × Value × (Nat → Prop))) (fun ⟨s11, v17, v19, A21⟩ => [(0, v_num), (1, v_den), (4, .pointer (some ⟨b5, 0, none⟩)), (5, v17)]) (fun ⟨s11, v17, v19, A21⟩ => fun w' => o10 = .fin s11 ∧ Sl A21 w' v17 s11.1 ∧ Sl A21 w' v19 s11.2 ∧ Hp w.heap.size A21 w' (obC b5 [.slice none 0 0, .slice none 0 0] 58 :: []) ∧ Tr w.heap.size A7 w6 A21 w') ?_ ?_
  · refine C_block ?_
    refine C_while ho10 (fun s23 a w' => ∃ i : (Value × Value × (Nat → Prop)), Has ⟨41, [], none⟩ a ([(0, v_num), (1, v_den), (4, .pointer (some ⟨b5, 0, none⟩)), (5, i.1), (6, i.2.1)]) ∧ Sl i.2.2 w' i.1 s23.1 ∧ Sl i.2.2 w' i.2.1 s23.2 ∧ Hp w.heap.size i.2.2 w' (obC b5 [.slice none 0 0, .slice none 0 0] 58 :: []) ∧ Tr w.heap.size A7 w6 i.2.2 w') (fun a ha => ⟨(v_num, v_den, A7), ha.sub ⟨rfl, rfl, rfl, rfl, rfl, trivial⟩, ⟨h_num, h_den, hH, Tr.refl hA⟩⟩) ?_
    rintro K s23 a w24 ⟨⟨v25, v27, A29⟩, ha49, h26, h28, hH30, hr12⟩ K37
    refine C_of ?_ ha49
    replace h_num := Sl.tr h_num hr12
    replace h_den := Sl.tr h_den hr12
    replace hK := Tr.trans hK hr12
    replace hB := Nat.le_trans hB hr12.ex.size
    replace hA := hr12.new
    replace hH : Hp w.heap.size A29 w24 (obC b5 [.slice none 0 0, .slice none 0 0] 58 :: []) := hH30
    obtain ⟨x31, h32, h33⟩ := K37
    refine C_seq ?_
    refine C_seq ?_
    refine C_region ?_
    refine V_y (Y_move rfl) rfl rfl rfl ?_
    refine V_y (Y_lenSl h28 rfl Try.underlying56 rfl) rfl rfl rfl ?_
    refine V_y (Y_gtr rfl rfl) rfl rfl rfl ?_
    refine V_to (fun _ _ => rfl) ?_
    refine C_cond rfl (fun hc38 => ?_) (fun hc38 => ?_)
    · rw [if_pos hc38] at h32
      refine C_skip_to (fun _ _ => rfl) ?_
      refine C_block ?_
      refine C_seq ?_
      refine C_region ?_
      refine V_y (Y_move rfl) rfl rfl rfl ?_
      refine V_y (Y_move rfl) rfl rfl rfl ?_
      obtain ⟨x39, hx39, h32⟩ := Option.bind_eq_some_iff.1 h32
      refine V_call Try.call51 rfl rfl rfl rfl (portref2_whole_by_c w24 hA s23.1 v25 h26 s23.2 v27 h28 hx39) ?_
      rintro _ w44 ⟨v40, v42, rfl, h41, h43, hk45⟩
      have ht46 := Kp.tr hk45 hA hB
      replace hH := Hp.kp hH hk45
      replace h_num := Sl.tr h_num ht46
      replace h_den := Sl.tr h_den ht46
      replace h26 := Sl.tr h26 ht46
      replace h28 := Sl.tr h28 ht46
      replace hK := Tr.trans hK ht46
      replace hr12 := Tr.trans hr12 ht46
      replace hB := Nat.le_trans hB ht46.ex.size
      replace hA := ht46.new
      refine V_y (Y_move rfl) rfl rfl rfl ?_
      refine V_y (Y_extract rfl rfl) rfl rfl rfl ?_
      refine V_y (Y_extract rfl rfl) rfl rfl rfl ?_
      refine V_y (Y_assign rfl) rfl rfl rfl ?_
      refine V_y (Y_assign rfl) rfl rfl rfl ?_
      refine V_to (fun _ _ => rfl) ?_
      refine C_region ?_
      refine V_y (Y_move rfl) rfl rfl rfl ?_
      refine V_y (Y_move rfl) rfl rfl rfl ?_
      refine V_y (Y_assign rfl) rfl rfl rfl ?_
      refine V_y (Y_assign rfl) rfl rfl rfl ?_
      obtain rfl := Option.some.inj h32
      refine V_end (fun a ha47 => ?_)
      exact ⟨(s23.2, x39.2), h33, ⟨(v27, v42, A29), ha47.sub ⟨rfl, rfl, rfl, rfl, rfl, trivial⟩, ⟨h28, h43, hH, hr12⟩⟩⟩
    · rw [if_neg (nt hc38)] at h32
      obtain rfl := Option.some.inj h32
      refine C_exit (fun a ha48 => ?_)
      exact ⟨((s23.1, s23.2), v25, v27, A29), ha48.sub ⟨rfl, rfl, rfl, rfl, trivial⟩, ⟨h33.symm, h26, h28, hH, hr12⟩⟩
  rintro ⟨s11, v17, v19, A21⟩ w14 ⟨rfl, h18, h20, hH22, hk15⟩ a ha16
  rw [Lp.andThen_fin] at hm
  replace h_num := Sl.tr h_num hk15
  replace h_den := Sl.tr h_den hk15
  replace hK := Tr.trans hK hk15
  replace hB := Nat.le_trans hB hk15.ex.size
  replace hA := hk15.new
  replace hH : Hp w.heap.size A21 w14 (obC b5 [.slice none 0 0, .slice none 0 0] 58 :: []) := hH22
  refine C_at (n := ⟨41, [], none⟩) (fun _ _ => rfl) ?_ ha16
  refine C_seq ?_
  refine C_region ?_
  refine V_y (Y_move rfl) rfl rfl rfl ?_
  refine V_y (Y_move rfl) rfl rfl rfl ?_
  obtain ⟨x50, hx50, hm⟩ := Option.bind_eq_some_iff.1 hm
  refine V_call Try.call51 rfl rfl rfl rfl (portref2_whole_by_c w14 hA num v_num h_num s11.1 v17 h18 hx50) ?_
  rintro _ w55 ⟨v51, v53, rfl, h52, h54, hk56⟩
  have ht57 := Kp.tr hk56 hA hB
  replace hH := Hp.kp hH hk56
  replace h_num := Sl.tr h_num ht57
  replace h_den := Sl.tr h_den ht57
  replace h18 := Sl.tr h18 ht57
  replace hK := Tr.trans hK ht57
  replace hB := Nat.le_trans hB ht57.ex.size
  replace hA := ht57.new
  refine V_y (Y_move rfl) rfl rfl rfl ?_
  refine V_y (Y_extract rfl rfl) rfl rfl rfl ?_
  refine V_y (Y_extract rfl rfl) rfl rfl rfl ?_
  refine V_y (Y_assign rfl) rfl rfl rfl ?_
  refine V_y (Y_assign rfl) rfl rfl rfl ?_
  refine V_to (fun _ _ => rfl) ?_
  refine C_seq ?_
  refine C_region ?_
  refine V_y (Y_move rfl) rfl rfl rfl ?_
  refine V_y (Y_move rfl) rfl rfl rfl ?_
  obtain ⟨x58, hx58, hm⟩ := Option.bind_eq_some_iff.1 hm
  refine V_call Try.call51 rfl rfl rfl rfl (portref2_whole_by_c w55 hA den v_den h_den s11.1 v17 h18 hx58) ?_
  rintro _ w63 ⟨v59, v61, rfl, h60, h62, hk64⟩
  have ht65 := Kp.tr hk64 hA hB
  replace hH := Hp.kp hH hk64
  replace h_den := Sl.tr h_den ht65
  replace h18 := Sl.tr h18 ht65
  replace h52 := Sl.tr h52 ht65
  replace hK := Tr.trans hK ht65
  replace hB := Nat.le_trans hB ht65.ex.size
  replace hA := ht65.new
  refine V_y (Y_move rfl) rfl rfl rfl ?_
  refine V_y (Y_extract rfl rfl) rfl rfl rfl ?_
  refine V_y (Y_extract rfl rfl) rfl rfl rfl ?_
  refine V_y (Y_assign rfl) rfl rfl rfl ?_
  refine V_y (Y_assign rfl) rfl rfl rfl ?_
  refine V_to (fun _ _ => rfl) ?_
  refine C_seq ?_
  refine C_region ?_
  refine V_y (Y_move rfl) rfl rfl rfl ?_
  refine V_y (Y_move rfl) rfl rfl rfl ?_
  refine V_y (Y_build (cells := #[v51, v59]) Try.underlying58 Try.zeroValue58 (Try_places58 _ Try.underlying58) rfl (by obtain ⟨a66, c67, e68, _⟩ := Sl.form h52; subst e68; obtain ⟨a69, c70, e71, _⟩ := Sl.form h60; subst e71; with_unfolding_all rfl)) rfl rfl rfl ?_
  have h77 : (v51).oneCell' = true := by obtain ⟨_, _, e, _⟩ := Sl.form h52; rw [e]; rfl
  have h80 : (v59).oneCell' = true := by obtain ⟨_, _, e, _⟩ := Sl.form h60; rw [e]; rfl
  refine V_storeC (off := 0) (ds := [v51, v59]) hH (i := 0) rfl Try.sizeOf58 rfl (Nat.le_of_ble_eq_true rfl) (by exact (List.forall_mem_cons.2 ⟨h77, (List.forall_mem_cons.2 ⟨h80, (fun _ h => nomatch h)⟩)⟩)) rfl hB hA rfl rfl ?_
  intro w72 hH73 ht74
  replace h52 := Sl.tr h52 ht74
  replace h60 := Sl.tr h60 ht74
  replace hK := Tr.trans hK ht74
  replace hB := Nat.le_trans hB ht74.ex.size
  replace hA := ht74.new
  replace hH : Hp w.heap.size A21 w72 (obC b5 [v51, v59] 58 :: []) := hH73
  refine V_to (fun _ _ => rfl) ?_
  obtain rfl := Option.some.inj hm
  refine C_ret ?_
  try simp only [↓inBlock_ret, ↓then_ret]
  exact retQ rfl (Res.l1 Try.results45 (RL.cell rfl (loadVar_agg (Hp.part (off := 0) (n := 2) (ds := [v51, v59]) hH (i := 0) rfl rfl) Try.isAgg58 Try.sizeOf58))) ⟨v51, v59, rfl, (Sl.out h52 hA0 hK), (Sl.out h60 hA0 hK), hK.kp⟩

set_option maxRecDepth 4000 in
set_option maxHeartbeats 4000000 in
theorem portref2_rat_c (w : World) {A : Nat → Prop} (hA : ∀ b, w.heap.size ≤ b → A b) (num : Int) (den : Int) {r : portref2_ratio} (hm : portref2_rat num den = some r) : Ret Try.prog 30 #[.int .i64 num, .int .i64 den] w fun v w' => ∃ s0 s1, v = .agg #[s0, s1] ∧ Sl A w' s0 r.num ∧ Sl A w' s1 r.den ∧ Kp w w' := by
  unfold portref2_rat at hm
  refine enter Try.func30 rfl Try.ntmps30 rfl ?_
  have hA0 := hA
  have hB := Nat.le_refl w.heap.size
  have hK : Tr w.heap.size A w A w := Tr.refl hA
  have hH : Hp w.heap.size A w [] := Hp.nil
  refine C_seq ?_
  refine C_region ?_
  refine V_allocH (B := w.heap.size) hH Try.zeroValue58 hB hA rfl ?_
  intro b1 w2 A3 hH4 ht5
  replace hK := Tr.trans hK ht5
  replace hB := Nat.le_trans hB ht5.ex.size
  replace hA := ht5.new
  replace hH : Hp w.heap.size A3 w2 (obC b1 [.slice none 0 0, .slice none 0 0] 58 :: []) := hH4
  refine V_to (fun _ _ => rfl) ?_
  refine C_seq ?_
  refine C_region ?_
  refine V_y (Y_move rfl) rfl rfl rfl ?_
  obtain ⟨x6, hx6, hm⟩ := Option.bind_eq_some_iff.1 hm
  refine V_call Try.call46 rfl rfl rfl rfl (portref2_wholeOf_c w2 hA num hx6) ?_
  rintro v7 w9 ⟨_, rfl, h8, hk10⟩
  have ht11 := Kp.tr hk10 hA hB
  replace hH := Hp.kp hH hk10
  replace hK := Tr.trans hK ht11
  replace hB := Nat.le_trans hB ht11.ex.size
  replace hA := ht11.new
  refine V_y (Y_move rfl) rfl rfl rfl ?_
  obtain ⟨x12, hx12, hm⟩ := Option.bind_eq_some_iff.1 hm
  refine V_call Try.call46 rfl rfl rfl rfl (portref2_wholeOf_c w9 hA den hx12) ?_
  rintro v13 w15 ⟨_, rfl, h14, hk16⟩
  have ht17 := Kp.tr hk16 hA hB
  replace hH := Hp.kp hH hk16
  replace h8 := Sl.tr h8 ht17
  replace hK := Tr.trans hK ht17
  replace hB := Nat.le_trans hB ht17.ex.size
  replace hA := ht17.new
  obtain ⟨x18, hx18, hm⟩ := Option.bind_eq_some_iff.1 hm
  refine V_call Try.call45 rfl rfl rfl rfl (portref2_lowest_c w15 hA x6 v7 h8 x12 v13 h14 hx18) ?_
  rintro _ w23 ⟨v19, v21, rfl, h20, h22, hk24⟩
  have ht25 := Kp.tr hk24 hA hB
  replace hH := Hp.kp hH hk24
  replace h8 := Sl.tr h8 ht25
  replace h14 := Sl.tr h14 ht25
  replace hK := Tr.trans hK ht25
  replace hB := Nat.le_trans hB ht25.ex.size
  replace hA := ht25.new
  have h31 : (v19).oneCell' = true := by obtain ⟨_, _, e, _⟩ := Sl.form h20; rw [e]; rfl
  have h34 : (v21).oneCell' = true := by obtain ⟨_, _, e, _⟩ := Sl.form h22; rw [e]; rfl
  refine V_storeC (off := 0) (ds := [v19, v21]) hH (i := 0) rfl Try.sizeOf58 rfl (Nat.le_of_ble_eq_true rfl) (by exact (List.forall_mem_cons.2 ⟨h31, (List.forall_mem_cons.2 ⟨h34, (fun _ h => nomatch h)⟩)⟩)) rfl hB hA rfl rfl ?_
  intro w26 hH27 ht28
  replace h8 := Sl.tr h8 ht28
  replace h14 := Sl.tr h14 ht28
  replace h20 := Sl.tr h20 ht28
  replace h22 := Sl.tr h22 ht28
  replace hK := Tr.trans hK ht28
  replace hB := Nat.le_trans hB ht28.ex.size
  replace hA := ht28.new
  replace hH : Hp w.heap.size A3 w26 (obC b1 [v19, v21] 58 :: []) := hH27
  refine V_to (fun _ _ => rfl) ?_
  obtain rfl := Option.some.inj hm
  refine C_ret ?_
  try simp only [↓inBlock_ret, ↓then_ret]
  exact retQ rfl (Res.l1 Try.results30 (RL.cell rfl (loadVar_agg (Hp.part (off := 0) (n := 2) (ds := [v19, v21]) hH (i := 0) rfl rfl) Try.isAgg58 Try.sizeOf58))) ⟨v19, v21, rfl, (Sl.out h20 hA0 hK), (Sl.out h22 hA0 hK), hK.kp⟩

set_option maxRecDepth 4000 in
set_option maxHeartbeats 4000000 in
theorem portref2_offered_c (w : World) {A : Nat → Prop} (hA : ∀ b, w.heap.size ≤ b → A b) (l : staff_Load) {r : portref2_ratio} (hm : portref2_offered l = some r) : Ret Try.prog 38 #[.agg #[.int .i64 l.calls, .int .i64 l.length, .int .i64 l.span]] w fun v w' => ∃ s0 s1, v = .agg #[s0, s1] ∧ Sl A w' s0 r.num ∧ Sl A w' s1 r.den ∧ Kp w w' := by
  unfold portref2_offered at hm
  refine enter Try.func38 rfl Try.ntmps38 rfl ?_
  have hA0 := hA
  have hB := Nat.le_refl w.heap.size
  have hK : Tr w.heap.size A w A w := Tr.refl hA
  have hH : Hp w.heap.size A w [] := Hp.nil
  refine C_seq ?_
  refine C_region ?_
  refine V_box rfl rfl ?_
  intro b1 w2 h3
  have hk5 := h3.kp
  have h4 : El (α := staff_Load) A w2 b1 0 l := h3.el hA ⟨[.int .i64 l.calls], _, rfl, rfl, ⟨[.int .i64 l.length], _, rfl, rfl, rfl⟩⟩
  have ht6 := Kp.tr hk5 hA hB
  replace hH := Hp.kp hH hk5
  replace hK := Tr.trans hK ht6
  replace hB := Nat.le_trans hB ht6.ex.size
  replace hA := ht6.new
  refine V_allocH (B := w.heap.size) hH Try.zeroValue58 hB hA rfl ?_
  intro b7 w9 A10 hH11 ht12
  replace h4 := El.tr h4 ht12
  replace hK := Tr.trans hK ht12
  replace hB := Nat.le_trans hB ht12.ex.size
  replace hA := ht12.new
  replace hH : Hp w.heap.size A10 w9 (obC b7 [.slice none 0 0, .slice none 0 0] 58 :: []) := hH11
  refine V_to (fun _ _ => rfl) ?_
  refine C_seq ?_
  refine C_region ?_
  have h13 := El_staff_Load_0 h4
  refine V_y (Y_fieldAddr Try.underlying23 rfl Try.sizeOf3 (by decide) rfl) rfl rfl rfl ?_
  refine V_y (Y_load (El.int h13) Try.isAgg3 rfl) rfl rfl rfl ?_
  have h14 := El_staff_Load_1 h4
  refine V_y (Y_fieldAddr Try.underlying23 rfl Try.sizeOf3 (by decide) rfl) rfl rfl rfl ?_
  refine V_y (Y_load (El.int h14) Try.isAgg3 rfl) rfl rfl rfl ?_
  refine V_y (Y_mulI rfl rfl) rfl rfl rfl ?_
  have h15 := El_staff_Load_2 h4
  refine V_y (Y_fieldAddr Try.underlying23 rfl Try.sizeOf3 (by decide) rfl) rfl rfl rfl ?_
  refine V_y (Y_load (El.int h15) Try.isAgg3 rfl) rfl rfl rfl ?_
  obtain ⟨x16, hx16, hm⟩ := Option.bind_eq_some_iff.1 hm
  refine V_call Try.call30 rfl rfl rfl rfl (portref2_rat_c w9 hA (w64 (l.calls * l.length)) l.span hx16) ?_
  rintro _ w21 ⟨v17, v19, rfl, h18, h20, hk22⟩
  have ht23 := Kp.tr hk22 hA hB
  replace hH := Hp.kp hH hk22
  replace h4 := El.tr h4 ht23
  replace h13 := El.tr h13 ht23
  replace h14 := El.tr h14 ht23
  replace h15 := El.tr h15 ht23
  replace hK := Tr.trans hK ht23
  replace hB := Nat.le_trans hB ht23.ex.size
  replace hA := ht23.new
  have h29 : (v17).oneCell' = true := by obtain ⟨_, _, e, _⟩ := Sl.form h18; rw [e]; rfl
  have h32 : (v19).oneCell' = true := by obtain ⟨_, _, e, _⟩ := Sl.form h20; rw [e]; rfl
  refine V_storeC (off := 0) (ds := [v17, v19]) hH (i := 0) rfl Try.sizeOf58 rfl (Nat.le_of_ble_eq_true rfl) (by exact (List.forall_mem_cons.2 ⟨h29, (List.forall_mem_cons.2 ⟨h32, (fun _ h => nomatch h)⟩)⟩)) rfl hB hA rfl rfl ?_
  intro w24 hH25 ht26
  replace h4 := El.tr h4 ht26
  replace h13 := El.tr h13 ht26
  replace h14 := El.tr h14 ht26
  replace h15 := El.tr h15 ht26
  replace h18 := Sl.tr h18 ht26
  replace h20 := Sl.tr h20 ht26
  replace hK := Tr.trans hK ht26
  replace hB := Nat.le_trans hB ht26.ex.size
  replace hA := ht26.new
  replace hH : Hp w.heap.size A10 w24 (obC b7 [v17, v19] 58 :: []) := hH25
  refine V_to (fun _ _ => rfl) ?_
  obtain rfl := Option.some.inj hm
  refine C_ret ?_
  try simp only [↓inBlock_ret, ↓then_ret]
  exact retQ rfl (Res.l1 Try.results38 (RL.cell rfl (loadVar_agg (Hp.part (off := 0) (n := 2) (ds := [v17, v19]) hH (i := 0) rfl rfl) Try.isAgg58 Try.sizeOf58))) ⟨v17, v19, rfl, (Sl.out h18 hA0 hK), (Sl.out h20 hA0 hK), hK.kp⟩

set_option maxRecDepth 4000 in
set_option maxHeartbeats 4000000 in
theorem portref2_whole_times_c (w : World) {A : Nat → Prop} (hA : ∀ b, w.heap.size ≤ b → A b) (a_ : (List UInt32)) (v_a_ : Value) (h_a_ : Sl A w v_a_ a_) (b : (List UInt32)) (v_b : Value) (h_b : Sl A w v_b b) {r : (List UInt32)} (hm : portref2_whole_times a_ b = some r) : Ret Try.prog 43 #[v_a_, v_b] w fun v w' => ∃ s0, v = s0 ∧ Sl A w' s0 r ∧ Kp w w' := by
  unfold portref2_whole_times at hm
  refine enter Try.func43 rfl Try.ntmps43 rfl ?_
  have hA0 := hA
  have hB := Nat.le_refl w.heap.size
  have hK : Tr w.heap.size A w A w := Tr.refl hA
  have hH : Hp w.heap.size A w [] := Hp.nil
  refine C_seq ?_
  refine C_region ?_
  refine V_y (Y_assign rfl) rfl rfl rfl ?_
  refine V_to (fun _ _ => rfl) ?_
  refine C_seq ?_
  refine C_region ?_
  refine V_y (Y_move rfl) rfl rfl rfl ?_
  refine V_y (Y_lenSl h_a_ rfl Try.underlying56 rfl) rfl rfl rfl ?_
  refine V_y (Y_move rfl) rfl rfl rfl ?_
  refine V_y (Y_lenSl h_b rfl Try.underlying56 rfl) rfl rfl rfl ?_
  refine V_y (Y_addI rfl rfl) rfl rfl rfl ?_
  obtain ⟨x5, hx5, hm⟩ := Option.bind_eq_some_iff.1 hm
  refine V_makeH (e := 77) (ti := Try.t77) hH hx5 (fun _ _ => rfl) Try.underlying56 Try_info77 rfl rfl rfl (by decide) (by decide) hB hA rfl rfl rfl ?_
  intro v6 w7 A8 hH9 ht10
  replace h_a_ := Sl.tr h_a_ ht10
  replace h_b := Sl.tr h_b ht10
  replace hK := Tr.trans hK ht10
  replace hB := Nat.le_trans hB ht10.ex.size
  replace hA := ht10.new
  replace hH : Hp w.heap.size A8 w7 (obS (α := UInt32) 77 v6 x5 :: []) := hH9
  refine V_y (Y_assign rfl) rfl rfl rfl ?_
  refine V_to (fun _ _ => rfl) ?_
  refine C_seq ?_
  refine C_seq ?_
  refine C_region ?_
  refine V_y (Y_move rfl) rfl rfl rfl ?_
  refine V_y (Y_lenSl h_a_ rfl Try.underlying56 rfl) rfl rfl rfl ?_
  refine V_y (Y_move rfl) rfl rfl rfl ?_
  refine V_to (fun _ _ => rfl) ?_
  have hn35 := Sl.le h_a_
  obtain ⟨o11, ho11, hm⟩ := Option.bind_eq_some_iff.1 hm
  refine C_cutG (ι := ((List UInt32) × Value × (Nat → Prop))) (fun ⟨s12, v18, A20⟩ => [(5, v18)]) (fun ⟨s12, v18, A20⟩ => fun w' => o11 = .fin s12 ∧ Hp w.heap.size A20 w' (obS (α := UInt32) 77 v18 s12 :: []) ∧ Tr w.heap.size A8 w7 A20 w') ?_ ?_
  · refine C_block ?_
    refine C_range ho11 (fun k14 s22 a w' => ∃ i : (Value × (Nat → Prop)), Has ⟨67, [], none⟩ a ([(0, v_a_), (1, v_b), (5, i.1), (16, .int .i64 (a_.length : Int)), (17, .int .i64 (k14 : Int))]) ∧ Hp w.heap.size i.2 w' (obS (α := UInt32) 77 i.1 s22 :: []) ∧ Tr w.heap.size A8 w7 i.2 w') (fun a ha => ⟨(v6, A8), ha.sub ⟨rfl, rfl, rfl, rfl, rfl, trivial⟩, ⟨hH, Tr.refl hA⟩⟩) ?_
    rintro K k14 s22 a w23 ⟨⟨v24, A26⟩, ha102, hH27, hr13⟩ hle31 K34 h33
    refine C_of ?_ ha102
    replace h_a_ := Sl.tr h_a_ hr13
    replace h_b := Sl.tr h_b hr13
    replace hK := Tr.trans hK hr13
    replace hB := Nat.le_trans hB hr13.ex.size
    replace hA := hr13.new
    replace hH : Hp w.heap.size A26 w23 (obS (α := UInt32) 77 v24 s22 :: []) := hH27
    refine C_seq (C_region (V_y (Y_lss rfl rfl) rfl rfl rfl (V_to (fun _ _ => rfl) ?_)))
    refine C_seq ?_
    refine C_cond rfl (fun hc36 => ?_) (fun hc36 => ?_)
    · have hlt32 := lt_of_dec hc36
      obtain ⟨x28, h29, h30⟩ := K34 hlt32
      refine C_skip_to (fun _ _ => rfl) ?_
      refine C_seq ?_
      refine C_block ?_
      refine C_seq ?_
      refine C_region ?_
      refine V_y (Y_move rfl) rfl rfl rfl ?_
      refine V_y (Y_assign rfl) rfl rfl rfl ?_
      refine V_to (fun _ _ => rfl) ?_
      refine C_seq ?_
      refine C_region ?_
      refine V_y (Y_assign rfl) rfl rfl rfl ?_
      refine V_to (fun _ _ => rfl) ?_
      refine C_seq ?_
      refine C_seq ?_
      refine C_region ?_
      refine V_y (Y_move rfl) rfl rfl rfl ?_
      refine V_y (Y_lenSl h_b rfl Try.underlying56 rfl) rfl rfl rfl ?_
      refine V_y (Y_move rfl) rfl rfl rfl ?_
      refine V_to (fun _ _ => rfl) ?_
      have hn61 := Sl.le h_b
      obtain ⟨o37, ho37, h29⟩ := Option.bind_eq_some_iff.1 h29
      refine C_cutG (ι := (((List UInt32) × Int) × Value × (Nat → Prop))) (fun ⟨s38, v44, A46⟩ => [(0, v_a_), (1, v_b), (5, v44), (6, .int .i64 (k14 : Int)), (7, .int .u64 s38.2), (16, .int .i64 (a_.length : Int)), (17, .int .i64 (k14 : Int))]) (fun ⟨s38, v44, A46⟩ => fun w' => o37 = .fin s38 ∧ Hp w.heap.size A46 w' (obS (α := UInt32) 77 v44 s38.1 :: []) ∧ Tr w.heap.size A26 w23 A46 w') ?_ ?_
      · refine C_block ?_
        refine C_range ho37 (fun k40 s48 a w' => ∃ i : (Value × (Nat → Prop)), Has ⟨67, [], none⟩ a ([(0, v_a_), (1, v_b), (5, i.1), (6, .int .i64 (k14 : Int)), (7, .int .u64 s48.2), (16, .int .i64 (a_.length : Int)), (17, .int .i64 (k14 : Int)), (21, .int .i64 (b.length : Int)), (22, .int .i64 (k40 : Int))]) ∧ Hp w.heap.size i.2 w' (obS (α := UInt32) 77 i.1 s48.1 :: []) ∧ Tr w.heap.size A26 w23 i.2 w') (fun a ha => ⟨(v24, A26), ha.sub ⟨rfl, rfl, rfl, rfl, rfl, rfl, rfl, rfl, rfl, trivial⟩, ⟨hH, Tr.refl hA⟩⟩) ?_
        rintro K k40 s48 a w49 ⟨⟨v50, A52⟩, ha90, hH53, hr39⟩ hle57 K60 h59
        refine C_of ?_ ha90
        replace h_a_ := Sl.tr h_a_ hr39
        replace h_b := Sl.tr h_b hr39
        replace hK := Tr.trans hK hr39
        replace hr13 := Tr.trans hr13 hr39
        replace hB := Nat.le_trans hB hr39.ex.size
        replace hA := hr39.new
        replace hH : Hp w.heap.size A52 w49 (obS (α := UInt32) 77 v50 s48.1 :: []) := hH53
        refine C_seq (C_region (V_y (Y_lss rfl rfl) rfl rfl rfl (V_to (fun _ _ => rfl) ?_)))
        refine C_seq ?_
        refine C_cond rfl (fun hc62 => ?_) (fun hc62 => ?_)
        · have hlt58 := lt_of_dec hc62
          obtain ⟨x54, h55, h56⟩ := K60 hlt58
          refine C_skip_to (fun _ _ => rfl) ?_
          refine C_seq ?_
          refine C_block ?_
          refine C_seq ?_
          refine C_region ?_
          refine V_y (Y_move rfl) rfl rfl rfl ?_
          refine V_y (Y_assign rfl) rfl rfl rfl ?_
          refine V_to (fun _ _ => rfl) ?_
          refine C_seq ?_
          refine C_region_q Try_mixed (by kernel_rfl) ?_
          refine VQ_y (fun w' hw' => Y_move rfl) rfl rfl rfl ?_
          refine VQ_y (fun w' hw' => Y_move rfl) rfl rfl rfl ?_
          refine VQ_y (fun w' hw' => Y_move rfl) rfl rfl rfl ?_
          obtain ⟨x63, hx63, h55⟩ := Option.bind_eq_some_iff.1 h55
          refine VQ_indexAddr h_a_ hx63 Try.underlying56 Try.sizeOf77 rfl rfl rfl ?_
          intro b64 o65 h66
          refine VQ_y (fun w' hw' => Y_load (El.u32 (El.kp h66 hw')) Try.isAgg77 rfl) rfl rfl rfl ?_
          refine VQ_y (fun w' hw' => Y_convI Try.underlying77 Try.underlying76 rfl) rfl rfl rfl ?_
          refine VQ_y (fun w' hw' => Y_move rfl) rfl rfl rfl ?_
          refine VQ_y (fun w' hw' => Y_move rfl) rfl rfl rfl ?_
          obtain ⟨x67, hx67, h55⟩ := Option.bind_eq_some_iff.1 h55
          refine VQ_indexAddr h_b hx67 Try.underlying56 Try.sizeOf77 rfl rfl rfl ?_
          intro b68 o69 h70
          refine VQ_y (fun w' hw' => Y_load (El.u32 (El.kp h70 hw')) Try.isAgg77 rfl) rfl rfl rfl ?_
          refine VQ_y (fun w' hw' => Y_convI Try.underlying77 Try.underlying76 rfl) rfl rfl rfl ?_
          refine VQ_y (fun w' hw' => Y_mul rfl rfl) rfl rfl rfl ?_
          refine VQ_y (fun w' hw' => Y_move rfl) rfl rfl rfl ?_
          refine VQ_y (fun w' hw' => Y_move rfl) rfl rfl rfl ?_
          refine VQ_y (fun w' hw' => Y_move rfl) rfl rfl rfl ?_
          refine VQ_y (fun w' hw' => Y_addI rfl rfl) rfl rfl rfl ?_
          obtain ⟨x71, hx71, h55⟩ := Option.bind_eq_some_iff.1 h55
          refine VQ_indexAddrH (α := UInt32) (e := 77) (v := v50) (l := s48.1) hH (i := 0) rfl hx71 Try.underlying56 Try.sizeOf77 rfl rfl rfl ?_
          intro b72 o73 h74 hl75
          refine VQ_y (fun w' hw' => Y_load (El.u32 (El.kp h74 hw')) Try.isAgg77 rfl) rfl rfl rfl ?_
          refine VQ_y (fun w' hw' => Y_convI Try.underlying77 Try.underlying76 rfl) rfl rfl rfl ?_
          refine VQ_y (fun w' hw' => Y_add rfl rfl) rfl rfl rfl ?_
          refine VQ_y (fun w' hw' => Y_add rfl rfl) rfl rfl rfl ?_
          refine VQ_y (fun w' hw' => Y_assign rfl) rfl rfl rfl ?_
          refine VQ_to (fun _ _ => rfl) (fun w76 hk77 => ?_)
          have ht78 := Kp.tr hk77 hA hB
          replace hH := Hp.kp hH hk77
          replace h_a_ := Sl.tr h_a_ ht78
          replace h_b := Sl.tr h_b ht78
          replace hK := Tr.trans hK ht78
          replace hr13 := Tr.trans hr13 ht78
          replace hr39 := Tr.trans hr39 ht78
          replace hB := Nat.le_trans hB ht78.ex.size
          replace hA := ht78.new
          refine C_seq ?_
          refine C_region ?_
          refine V_y (Y_move rfl) rfl rfl rfl ?_
          refine V_y (Y_move rfl) rfl rfl rfl ?_
          refine V_y (Y_move rfl) rfl rfl rfl ?_
          refine V_y (Y_addI rfl rfl) rfl rfl rfl ?_
          refine V_y (Y_move rfl) rfl rfl rfl ?_
          refine V_y (Y_convU32 Try.underlying76 Try.underlying77 rfl) rfl rfl rfl ?_
          refine V_indexAddrH (α := UInt32) (e := 77) (v := v50) (l := s48.1) hH (i := 0) rfl hx71 Try.underlying56 Try.sizeOf77 rfl rfl rfl ?_
          intro b79 o80 h81 hl82
          obtain ⟨x83, hx83, h55⟩ := Option.bind_eq_some_iff.1 h55
          refine V_storeH (α := UInt32) (e := 77) (v := v50) (l := s48.1) hH (i := 0) rfl hl82 hx83 rfl Try.sizeOf77 rfl hB hA rfl rfl ?_
          intro w84 hH85 ht86
          replace h_a_ := Sl.tr h_a_ ht86
          replace h_b := Sl.tr h_b ht86
          replace hK := Tr.trans hK ht86
          replace hr13 := Tr.trans hr13 ht86
          replace hr39 := Tr.trans hr39 ht86
          replace hB := Nat.le_trans hB ht86.ex.size
          replace hA := ht86.new
          replace hH : Hp w.heap.size A52 w84 (obS (α := UInt32) 77 v50 x83 :: []) := hH85
          refine V_to (fun _ _ => rfl) ?_
          refine C_region ?_
          refine V_y (Y_move rfl) rfl rfl rfl ?_
          obtain ⟨x87, hx87, h55⟩ := Option.bind_eq_some_iff.1 h55
          refine V_y (Y_shr hx87 rfl rfl) rfl rfl rfl ?_
          refine V_y (Y_assign rfl) rfl rfl rfl ?_
          refine V_to (fun _ _ => rfl) ?_
          refine C_region ?_
          refine V_y (Y_addI rfl rfl) rfl rfl rfl ?_
          refine V_y (Y_move rfl) rfl rfl rfl ?_
          obtain rfl := Option.some.inj h55
          refine V_end (fun a ha88 => ?_)
          exact ⟨(x83, x87), hlt58, h56, ⟨(v50, A52), ha88.sub ⟨rfl, rfl, rfl, rfl, rfl, rfl, rfl, rfl, (congrArg (fun z => some (Value.int .i64 z)) (w64_succ hlt58 hn61)), trivial⟩, ⟨hH, hr39⟩⟩⟩
        · refine C_exit (fun a ha89 => ?_)
          exact ⟨((s48.1, s48.2), v50, A52), ha89.sub ⟨rfl, rfl, rfl, rfl, rfl, rfl, rfl, trivial⟩, ⟨(h59 (eq_of_dec hle57 hc62)).symm, hH, hr39⟩⟩
      rintro ⟨s38, v44, A46⟩ w41 ⟨rfl, hH47, hk42⟩ a ha43
      rw [Lp.andThen_fin] at h29
      replace h_a_ := Sl.tr h_a_ hk42
      replace h_b := Sl.tr h_b hk42
      replace hK := Tr.trans hK hk42
      replace hr13 := Tr.trans hr13 hk42
      replace hB := Nat.le_trans hB hk42.ex.size
      replace hA := hk42.new
      replace hH : Hp w.heap.size A46 w41 (obS (α := UInt32) 77 v44 s38.1 :: []) := hH47
      refine C_at (n := ⟨67, [], none⟩) (fun _ _ => rfl) ?_ ha43
      refine C_region ?_
      refine V_y (Y_move rfl) rfl rfl rfl ?_
      refine V_y (Y_move rfl) rfl rfl rfl ?_
      refine V_y (Y_move rfl) rfl rfl rfl ?_
      refine V_y (Y_lenSl h_b rfl Try.underlying56 rfl) rfl rfl rfl ?_
      refine V_y (Y_addI rfl rfl) rfl rfl rfl ?_
      refine V_y (Y_move rfl) rfl rfl rfl ?_
      refine V_y (Y_convU32 Try.underlying76 Try.underlying77 rfl) rfl rfl rfl ?_
      obtain ⟨x91, hx91, h29⟩ := Option.bind_eq_some_iff.1 h29
      refine V_indexAddrH (α := UInt32) (e := 77) (v := v44) (l := s38.1) hH (i := 0) rfl hx91 Try.underlying56 Try.sizeOf77 rfl rfl rfl ?_
      intro b92 o93 h94 hl95
      obtain ⟨x96, hx96, h29⟩ := Option.bind_eq_some_iff.1 h29
      refine V_storeH (α := UInt32) (e := 77) (v := v44) (l := s38.1) hH (i := 0) rfl hl95 hx96 rfl Try.sizeOf77 rfl hB hA rfl rfl ?_
      intro w97 hH98 ht99
      replace h_a_ := Sl.tr h_a_ ht99
      replace h_b := Sl.tr h_b ht99
      replace hK := Tr.trans hK ht99
      replace hr13 := Tr.trans hr13 ht99
      replace hB := Nat.le_trans hB ht99.ex.size
      replace hA := ht99.new
      replace hH : Hp w.heap.size A46 w97 (obS (α := UInt32) 77 v44 x96 :: []) := hH98
      refine V_to (fun _ _ => rfl) ?_
      refine C_region ?_
      refine V_y (Y_addI rfl rfl) rfl rfl rfl ?_
      refine V_y (Y_move rfl) rfl rfl rfl ?_
      obtain rfl := Option.some.inj h29
      refine V_end (fun a ha100 => ?_)
      exact ⟨x96, hlt32, h30, ⟨(v44, A46), ha100.sub ⟨rfl, rfl, rfl, rfl, (congrArg (fun z => some (Value.int .i64 z)) (w64_succ hlt32 hn35)), trivial⟩, ⟨hH, hr13⟩⟩⟩
    · refine C_exit (fun a ha101 => ?_)
      exact ⟨(s22, v24, A26), ha101.sub ⟨rfl, trivial⟩, ⟨(h33 (eq_of_dec hle31 hc36)).symm, hH, hr13⟩⟩
  rintro ⟨s12, v18, A20⟩ w15 ⟨rfl, hH21, hk16⟩ a ha17
  rw [Lp.andThen_fin] at hm
  replace hK := Tr.trans hK hk16
  replace hB := Nat.le_trans hB hk16.ex.size
  replace hA := hk16.new
  replace hH : Hp w.heap.size A20 w15 (obS (α := UInt32) 77 v18 s12 :: []) := hH21
  refine C_at (n := ⟨67, [], none⟩) (fun _ _ => rfl) ?_ ha17
  refine C_seq ?_
  refine C_region ?_
  refine V_y (Y_move rfl) rfl rfl rfl ?_
  obtain ⟨A103, ht104, h105, hH106⟩ := Hp.freeze (α := UInt32) (v := v18) (l := s12) hH (i := 0) rfl hA
  replace hK := Tr.trans hK ht104
  replace hB := Nat.le_trans hB ht104.ex.size
  replace hA := ht104.new
  replace hH : Hp w.heap.size A103 w15 ([]) := hH106
  obtain ⟨x108, hx108, hm⟩ := Option.bind_eq_some_iff.1 hm
  refine V_call Try.call50 rfl rfl rfl rfl (portref2_whole_trim_c w15 s12 v18 h105 hx108) ?_
  rintro v109 _ ⟨_, rfl, h110, rfl⟩
  refine V_y (Y_assign rfl) rfl rfl rfl ?_
  refine V_to (fun _ _ => rfl) ?_
  obtain rfl := Option.some.inj hm
  refine C_ret ?_
  try simp only [↓inBlock_ret, ↓then_ret]
  exact retQ rfl (Res.one Try.results43 rfl) ⟨v109, rfl, (Sl.out h110 hA0 hK), hK.kp⟩

set_option maxRecDepth 4000 in
set_option maxHeartbeats 4000000 in
theorem portref2_ratio_cmp_c (w : World) {A : Nat → Prop} (hA : ∀ b, w.heap.size ≤ b → A b) (a_ : portref2_ratio) (v_a_0 : Value) (h_a_0 : Sl A w v_a_0 a_.num) (v_a_1 : Value) (h_a_1 : Sl A w v_a_1 a_.den) (b : portref2_ratio) (v_b0 : Value) (h_b0 : Sl A w v_b0 b.num) (v_b1 : Value) (h_b1 : Sl A w v_b1 b.den) {r : Int} (hm : portref2_ratio_cmp a_ b = some r) : Ret Try.prog 29 #[.agg #[v_a_0, v_a_1], .agg #[v_b0, v_b1]] w fun v w' => v = .int .i64 r ∧ Kp w w' := by
  unfold portref2_ratio_cmp at hm
  refine enter Try.func29 rfl Try.ntmps29 rfl ?_
  have hA0 := hA
  have hB := Nat.le_refl w.heap.size
  have hK : Tr w.heap.size A w A w := Tr.refl hA
  have hH : Hp w.heap.size A w [] := Hp.nil
  refine C_seq ?_
  refine C_region ?_
  refine V_box rfl rfl ?_
  intro b9 w10 h11
  have hk13 := h11.kp
  have h12 : El (α := portref2_ratio) A w10 b9 0 a_ := h11.el hA ⟨[v_a_0], _, rfl, ⟨_, rfl, h_a_0⟩, ⟨_, rfl, h_a_1⟩⟩
  have ht14 := Kp.tr hk13 hA hB
  replace hH := Hp.kp hH hk13
  replace h_a_0 := Sl.tr h_a_0 ht14
  replace h_a_1 := Sl.tr h_a_1 ht14
  replace h_b0 := Sl.tr h_b0 ht14
  replace h_b1 := Sl.tr h_b1 ht14
  replace hK := Tr.trans hK ht14
  replace hB := Nat.le_trans hB ht14.ex.size
  replace hA := ht14.new
  refine V_box rfl rfl ?_
  intro b15 w17 h18
  have hk20 := h18.kp
  have h19 : El (α := portref2_ratio) A w17 b15 0 b := h18.el hA ⟨[v_b0], _, rfl, ⟨_, rfl, h_b0⟩, ⟨_, rfl, h_b1⟩⟩
  have ht21 := Kp.tr hk20 hA hB
  replace hH := Hp.kp hH hk20
  replace h_a_0 := Sl.tr h_a_0 ht21
  replace h_a_1 := Sl.tr h_a_1 ht21
  replace h_b0 := Sl.tr h_b0 ht21
  replace h_b1 := Sl.tr h_b1 ht21
  replace h12 := El.tr h12 ht21
  replace hK := Tr.trans hK ht21
  replace hB := Nat.le_trans hB ht21.ex.size
  replace hA := ht21.new
  refine V_y (Y_assign rfl) rfl rfl rfl ?_
  refine V_to (fun _ _ => rfl) ?_
  refine C_seq ?_
  refine C_region_ch A 12 [(1, 0), (1, 1), (1, 2), (1, 3), (1, 5), (1, 6), (1, 7), (1, 8), (2, 4), (2, 9), (2, 10), (1, 11)] Try_mixed (by kernel_rfl) (fun w22 hk23 => ?_)
  have ht24 := Kp.tr hk23 hA hB
  replace hH := Hp.kp hH hk23
  replace h12 := El.tr h12 ht24
  replace h19 := El.tr h19 ht24
  replace hK := Tr.trans hK ht24
  replace hB := Nat.le_trans hB ht24.ex.size
  replace hA := ht24.new
  refine CH_q2 rfl ?_
  have h25 := El_portref2_ratio_0 h12
  refine VQ_y (fun w' hw' => Y_fieldAddr Try.underlying58 rfl Try.sizeOf56 (by decide) rfl) rfl rfl rfl ?_
  refine VQ_CH ?_
  refine CH_q2 rfl ?_
  obtain ⟨v26, h27, h28⟩ := El.list h25
  refine VQ_y (fun w' hw' => Y_load ((World.cell?_of_block (hw'.2 _ h25.2.1 h25.1)).trans h27) Try.isAgg56 rfl) rfl rfl rfl ?_
  refine VQ_CH ?_
  refine CH_q2 rfl ?_
  have h29 := El_portref2_ratio_1 h19
  refine VQ_y (fun w' hw' => Y_fieldAddr Try.underlying58 rfl Try.sizeOf56 (by decide) rfl) rfl rfl rfl ?_
  refine VQ_CH ?_
  refine CH_q2 rfl ?_
  obtain ⟨v30, h31, h32⟩ := El.list h29
  refine VQ_y (fun w' hw' => Y_load ((World.cell?_of_block (hw'.2 _ h29.2.1 h29.1)).trans h31) Try.isAgg56 rfl) rfl rfl rfl ?_
  refine VQ_CH ?_
  refine CH_q2 rfl ?_
  have h33 := El_portref2_ratio_0 h19
  refine VQ_y (fun w' hw' => Y_fieldAddr Try.underlying58 rfl Try.sizeOf56 (by decide) rfl) rfl rfl rfl ?_
  refine VQ_CH ?_
  refine CH_q2 rfl ?_
  obtain ⟨v34, h35, h36⟩ := El.list h33
  refine VQ_y (fun w' hw' => Y_load ((World.cell?_of_block (hw'.2 _ h33.2.1 h33.1)).trans h35) Try.isAgg56 rfl) rfl rfl rfl ?_
  refine VQ_CH ?_
  refine CH_q2 rfl ?_
  have h37 := El_portref2_ratio_1 h12
  refine VQ_y (fun w' hw' => Y_fieldAddr Try.underlying58 rfl Try.sizeOf56 (by decide) rfl) rfl rfl rfl ?_
  refine VQ_CH ?_
  refine CH_q2 rfl ?_
  obtain ⟨v38, h39, h40⟩ := El.list h37
  refine VQ_y (fun w' hw' => Y_load ((World.cell?_of_block (hw'.2 _ h37.2.1 h37.1)).trans h39) Try.isAgg56 rfl) rfl rfl rfl ?_
  refine VQ_CH ?_
  refine CH_l1 (k := 0) rfl ?_
  obtain ⟨x41, hx41, hm⟩ := Option.bind_eq_some_iff.1 hm
  refine V_call Try.call43 rfl rfl rfl rfl (portref2_whole_times_c w22 hA a_.num v26 h28 b.den v30 h32 hx41) ?_
  rintro v42 w44 ⟨_, rfl, h43, hk45⟩
  have ht46 := Kp.tr hk45 hA hB
  replace hH := Hp.kp hH hk45
  replace h12 := El.tr h12 ht46
  replace h19 := El.tr h19 ht46
  replace h25 := El.tr h25 ht46
  replace h28 := Sl.tr h28 ht46
  replace h29 := El.tr h29 ht46
  replace h32 := Sl.tr h32 ht46
  replace h33 := El.tr h33 ht46
  replace h36 := Sl.tr h36 ht46
  replace h37 := El.tr h37 ht46
  replace h40 := Sl.tr h40 ht46
  replace hK := Tr.trans hK ht46
  replace hB := Nat.le_trans hB ht46.ex.size
  replace hA := ht46.new
  refine V_CH (hk45) ?_
  refine CH_l1 (k := 0) rfl ?_
  obtain ⟨x47, hx47, hm⟩ := Option.bind_eq_some_iff.1 hm
  refine V_call Try.call43 rfl rfl rfl rfl (portref2_whole_times_c w44 hA b.num v34 h36 a_.den v38 h40 hx47) ?_
  rintro v48 w50 ⟨_, rfl, h49, hk51⟩
  have ht52 := Kp.tr hk51 hA hB
  replace hH := Hp.kp hH hk51
  replace h12 := El.tr h12 ht52
  replace h19 := El.tr h19 ht52
  replace h25 := El.tr h25 ht52
  replace h28 := Sl.tr h28 ht52
  replace h29 := El.tr h29 ht52
  replace h32 := Sl.tr h32 ht52
  replace h33 := El.tr h33 ht52
  replace h36 := Sl.tr h36 ht52
  replace h37 := El.tr h37 ht52
  replace h40 := Sl.tr h40 ht52
  replace h43 := Sl.tr h43 ht52
  replace hK := Tr.trans hK ht52
  replace hB := Nat.le_trans hB ht52.ex.size
  replace hA := ht52.new
  refine V_CH (hk51) ?_
  refine CH_l1 (k := 0) rfl ?_
  obtain ⟨x53, hx53, hm⟩ := Option.bind_eq_some_iff.1 hm
  refine V_call Try.call44 rfl rfl rfl rfl (portref2_whole_cmp_c w50 hA x41 v42 h43 x47 v48 h49 hx53) ?_
  rintro _ w54 ⟨rfl, hk55⟩
  have ht56 := Kp.tr hk55 hA hB
  replace hH := Hp.kp hH hk55
  replace h12 := El.tr h12 ht56
  replace h19 := El.tr h19 ht56
  replace h25 := El.tr h25 ht56
  replace h28 := Sl.tr h28 ht56
  replace h29 := El.tr h29 ht56
  replace h32 := Sl.tr h32 ht56
  replace h33 := El.tr h33 ht56
  replace h36 := Sl.tr h36 ht56
  replace h37 := El.tr h37 ht56
  replace h40 := Sl.tr h40 ht56
  replace h43 := Sl.tr h43 ht56
  replace h49 := Sl.tr h49 ht56
  replace hK := Tr.trans hK ht56
  replace hB := Nat.le_trans hB ht56.ex.size
  replace hA := ht56.new
  refine V_CH (hk55) ?_
  refine CH_q2 rfl ?_
  refine VQ_y (fun w' hw' => Y_assign rfl) rfl rfl rfl ?_
  refine VQ_CH ?_
  refine CH_tail ?_
  show V _ _ _ _ [] _ _
  refine V_to (fun _ _ => rfl) ?_
  obtain rfl := Option.some.inj hm
  refine C_ret ?_
  try simp only [↓inBlock_ret, ↓then_ret]
  exact retQ rfl (Res.one Try.results29 rfl) ⟨rfl, hK.kp⟩

set_option maxRecDepth 4000 in
set_option maxHeartbeats 4000000 in
theorem portref2_whole_plus_c (w : World) {A : Nat → Prop} (hA : ∀ b, w.heap.size ≤ b → A b) (a_ : (List UInt32)) (v_a_ : Value) (h_a_ : Sl A w v_a_ a_) (b : (List UInt32)) (v_b : Value) (h_b : Sl A w v_b b) {r : (List UInt32)} (hm : portref2_whole_plus a_ b = some r) : Ret Try.prog 49 #[v_a_, v_b] w fun v w' => ∃ s0, v = s0 ∧ Sl A w' s0 r ∧ Kp w w' := by
  unfold portref2_whole_plus at hm
  refine enter Try.func49 rfl Try.ntmps49 rfl ?_
  have hA0 := hA
  have hB := Nat.le_refl w.heap.size
  have hK : Tr w.heap.size A w A w := Tr.refl hA
  have hH : Hp w.heap.size A w [] := Hp.nil
  refine C_seq ?_
  refine C_region ?_
  refine V_y (Y_assign rfl) rfl rfl rfl ?_
  refine V_to (fun _ _ => rfl) ?_
  refine C_seq ?_
  refine C_seq ?_
  refine C_region ?_
  refine V_y (Y_move rfl) rfl rfl rfl ?_
  refine V_y (Y_lenSl h_a_ rfl Try.underlying56 rfl) rfl rfl rfl ?_
  refine V_y (Y_move rfl) rfl rfl rfl ?_
  refine V_y (Y_lenSl h_b rfl Try.underlying56 rfl) rfl rfl rfl ?_
  refine V_y (Y_lss rfl rfl) rfl rfl rfl ?_
  refine V_to (fun _ _ => rfl) ?_
  obtain ⟨s6, ho5, hm⟩ := Option.bind_eq_some_iff.1 hm
  refine C_cutG (ι := (Value × Value)) (fun ⟨v8, v10⟩ => [(0, v8), (1, v10)]) (fun ⟨v8, v10⟩ => fun w' => Sl A w' v8 s6.1 ∧ Sl A w' v10 s6.2 ∧ w = w') ?_ ?_
  · refine C_cond rfl (fun hc15 => ?_) (fun hc15 => ?_)
    · rw [if_pos hc15] at ho5
      refine C_region ?_
      refine V_y (Y_move rfl) rfl rfl rfl ?_
      refine V_y (Y_move rfl) rfl rfl rfl ?_
      refine V_y (Y_assign rfl) rfl rfl rfl ?_
      refine V_y (Y_assign rfl) rfl rfl rfl ?_
      obtain rfl := Option.some.inj ho5
      refine V_end (fun a ha16 => ?_)
      exact ⟨(v_b, v_a_), ha16.sub ⟨rfl, rfl, trivial⟩, ⟨h_b, h_a_, rfl⟩⟩
    · rw [if_neg (nt hc15)] at ho5
      obtain rfl := Option.some.inj ho5
      refine C_skip (fun a ha17 => ?_)
      exact ⟨(v_a_, v_b), ha17.sub ⟨rfl, rfl, trivial⟩, ⟨h_a_, h_b, rfl⟩⟩
  rintro ⟨v8, v10⟩ _ ⟨h9, h11, rfl⟩ a ha14
  refine C_at (n := ⟨56, [], none⟩) (fun _ _ => rfl) ?_ ha14
  refine C_seq ?_
  refine C_region ?_
  refine V_y (Y_move rfl) rfl rfl rfl ?_
  refine V_y (Y_lenSl h9 rfl Try.underlying56 rfl) rfl rfl rfl ?_
  refine V_y (Y_addI rfl rfl) rfl rfl rfl ?_
  obtain ⟨x18, hx18, hm⟩ := Option.bind_eq_some_iff.1 hm
  refine V_makeCH (e := 77) (ti := Try.t77) hH hx18 (fun _ _ => rfl) Try.underlying56 Try_info77 rfl rfl rfl (by decide) (by decide) hB hA rfl rfl rfl ?_
  intro v19 w20 A21 hH22 ht23
  replace h9 := Sl.tr h9 ht23
  replace h11 := Sl.tr h11 ht23
  replace hK := Tr.trans hK ht23
  replace hB := Nat.le_trans hB ht23.ex.size
  replace hA := ht23.new
  replace hH : Hp w.heap.size A21 w20 (obS (α := UInt32) 77 v19 x18 :: []) := hH22
  refine V_y (Y_assign rfl) rfl rfl rfl ?_
  refine V_to (fun _ _ => rfl) ?_
  refine C_seq ?_
  refine C_region ?_
  refine V_y (Y_assign rfl) rfl rfl rfl ?_
  refine V_to (fun _ _ => rfl) ?_
  refine C_seq ?_
  refine C_seq ?_
  refine C_region ?_
  refine V_y (Y_move rfl) rfl rfl rfl ?_
  refine V_y (Y_lenSl h9 rfl Try.underlying56 rfl) rfl rfl rfl ?_
  refine V_y (Y_move rfl) rfl rfl rfl ?_
  refine V_to (fun _ _ => rfl) ?_
  have hn48 := Sl.le h9
  obtain ⟨o24, ho24, hm⟩ := Option.bind_eq_some_iff.1 hm
  refine C_cutG (ι := (((List UInt32) × Int) × Value × (Nat → Prop))) (fun ⟨s25, v31, A33⟩ => [(5, v31), (6, .int .u64 s25.2)]) (fun ⟨s25, v31, A33⟩ => fun w' => o24 = .fin s25 ∧ Hp w.heap.size A33 w' (obS (α := UInt32) 77 v31 s25.1 :: []) ∧ Tr w.heap.size A21 w20 A33 w') ?_ ?_
  · refine C_block ?_
    refine C_range ho24 (fun k27 s35 a w' => ∃ i : (Value × (Nat → Prop)), Has ⟨56, [], none⟩ a ([(0, v8), (1, v10), (5, i.1), (6, .int .u64 s35.2), (20, .int .i64 (s6.1.length : Int)), (21, .int .i64 (k27 : Int))]) ∧ Hp w.heap.size i.2 w' (obS (α := UInt32) 77 i.1 s35.1 :: []) ∧ Tr w.heap.size A21 w20 i.2 w') (fun a ha => ⟨(v19, A21), ha.sub ⟨rfl, rfl, rfl, rfl, rfl, rfl, trivial⟩, ⟨hH, Tr.refl hA⟩⟩) ?_
    rintro K k27 s35 a w36 ⟨⟨v37, A39⟩, ha81, hH40, hr26⟩ hle44 K47 h46
    refine C_of ?_ ha81
    replace h9 := Sl.tr h9 hr26
    replace h11 := Sl.tr h11 hr26
    replace hK := Tr.trans hK hr26
    replace hB := Nat.le_trans hB hr26.ex.size
    replace hA := hr26.new
    replace hH : Hp w.heap.size A39 w36 (obS (α := UInt32) 77 v37 s35.1 :: []) := hH40
    refine C_seq (C_region (V_y (Y_lss rfl rfl) rfl rfl rfl (V_to (fun _ _ => rfl) ?_)))
    refine C_seq ?_
    refine C_cond rfl (fun hc49 => ?_) (fun hc49 => ?_)
    · have hlt45 := lt_of_dec hc49
      obtain ⟨x41, h42, h43⟩ := K47 hlt45
      refine C_skip_to (fun _ _ => rfl) ?_
      refine C_seq ?_
      refine C_block ?_
      refine C_seq ?_
      refine C_region ?_
      refine V_y (Y_move rfl) rfl rfl rfl ?_
      refine V_y (Y_assign rfl) rfl rfl rfl ?_
      refine V_to (fun _ _ => rfl) ?_
      refine C_seq ?_
      refine C_region ?_
      refine V_y (Y_move rfl) rfl rfl rfl ?_
      refine V_y (Y_move rfl) rfl rfl rfl ?_
      refine V_y (Y_move rfl) rfl rfl rfl ?_
      obtain ⟨x50, hx50, h42⟩ := Option.bind_eq_some_iff.1 h42
      refine V_indexAddr h9 hx50 Try.underlying56 Try.sizeOf77 rfl rfl rfl ?_
      intro b51 o52 h53
      refine V_y (Y_load (El.u32 h53) Try.isAgg77 rfl) rfl rfl rfl ?_
      refine V_y (Y_convI Try.underlying77 Try.underlying76 rfl) rfl rfl rfl ?_
      refine V_y (Y_add rfl rfl) rfl rfl rfl ?_
      refine V_y (Y_assign rfl) rfl rfl rfl ?_
      refine V_to (fun _ _ => rfl) ?_
      refine C_seq ?_
      refine C_seq ?_
      refine C_region ?_
      refine V_y (Y_move rfl) rfl rfl rfl ?_
      refine V_y (Y_move rfl) rfl rfl rfl ?_
      refine V_y (Y_lenSl h11 rfl Try.underlying56 rfl) rfl rfl rfl ?_
      refine V_y (Y_lss rfl rfl) rfl rfl rfl ?_
      refine V_to (fun _ _ => rfl) ?_
      obtain ⟨s55, ho54, h42⟩ := Option.bind_eq_some_iff.1 h42
      refine C_cutG (ι := Unit) (fun (_ : Unit) => [(0, v8), (1, v10), (5, v37), (6, .int .u64 s55), (20, .int .i64 (s6.1.length : Int)), (21, .int .i64 (k27 : Int))]) (fun (_ : Unit) => fun w' => w36 = w') ?_ ?_
      · refine C_cond rfl (fun hc60 => ?_) (fun hc60 => ?_)
        · rw [if_pos hc60] at ho54
          refine C_region ?_
          refine V_y (Y_move rfl) rfl rfl rfl ?_
          refine V_y (Y_move rfl) rfl rfl rfl ?_
          refine V_y (Y_move rfl) rfl rfl rfl ?_
          obtain ⟨x61, hx61, ho54⟩ := Option.bind_eq_some_iff.1 ho54
          refine V_indexAddr h11 hx61 Try.underlying56 Try.sizeOf77 rfl rfl rfl ?_
          intro b62 o63 h64
          refine V_y (Y_load (El.u32 h64) Try.isAgg77 rfl) rfl rfl rfl ?_
          refine V_y (Y_convI Try.underlying77 Try.underlying76 rfl) rfl rfl rfl ?_
          refine V_y (Y_add rfl rfl) rfl rfl rfl ?_
          refine V_y (Y_assign rfl) rfl rfl rfl ?_
          obtain rfl := Option.some.inj ho54
          refine V_end (fun a ha65 => ?_)
          exact ⟨(), ha65.sub ⟨rfl, rfl, rfl, rfl, rfl, rfl, trivial⟩, rfl⟩
        · rw [if_neg (nt hc60)] at ho54
          obtain rfl := Option.some.inj ho54
          refine C_skip (fun a ha66 => ?_)
          exact ⟨(), ha66.sub ⟨rfl, rfl, rfl, rfl, rfl, rfl, trivial⟩, rfl⟩
      rintro _ _ rfl a ha59
      refine C_at (n := ⟨56, [], none⟩) (fun _ _ => rfl) ?_ ha59
      refine C_seq ?_
      refine C_region ?_
      refine V_y (Y_move rfl) rfl rfl rfl ?_
      refine V_y (Y_move rfl) rfl rfl rfl ?_
      refine V_y (Y_convU32 Try.underlying76 Try.underlying77 rfl) rfl rfl rfl ?_
      refine V_buildSlice (l := ([(toU32 s55)] : List UInt32)) (len := 1) Try.underlying56 Try.sizeOf77 Try.zeroValue77 rfl (by with_unfolding_all rfl) (by decide) (by decide) hA ⟨[.int .u32 ((toU32 s55).toNat : Int)], _, rfl, rfl, rfl⟩ rfl rfl ?_
      intro v67 w68 hk70 h69
      have ht71 := Kp.tr hk70 hA hB
      replace hH := Hp.kp hH hk70
      replace h9 := Sl.tr h9 ht71
      replace h11 := Sl.tr h11 ht71
      replace hK := Tr.trans hK ht71
      replace hr26 := Tr.trans hr26 ht71
      replace hB := Nat.le_trans hB ht71.ex.size
      replace hA := ht71.new
      obtain ⟨x72, hx72, h42⟩ := Option.bind_eq_some_iff.1 h42
      refine V_appendH (e := 77) (v := v37) (l := s35.1) (ti := Try.t77) (bytes := 4) (lim := 35184372088832) hH (i := 0) rfl h69 hx72 Try.underlying56 Try_info77 rfl rfl rfl rfl (by decide) (by decide) (by decide) hB hA rfl rfl rfl ?_
      intro v73 w74 A75 hH76 ht77
      replace h9 := Sl.tr h9 ht77
      replace h11 := Sl.tr h11 ht77
      replace h69 := Sl.tr h69 ht77
      replace hK := Tr.trans hK ht77
      replace hr26 := Tr.trans hr26 ht77
      replace hB := Nat.le_trans hB ht77.ex.size
      replace hA := ht77.new
      replace hH : Hp w.heap.size A75 w74 (obS (α := UInt32) 77 v73 x72 :: []) := hH76
      refine V_y (Y_assign rfl) rfl rfl rfl ?_
      refine V_to (fun _ _ => rfl) ?_
      refine C_region ?_
      refine V_y (Y_move rfl) rfl rfl rfl ?_
      obtain ⟨x78, hx78, h42⟩ := Option.bind_eq_some_iff.1 h42
      refine V_y (Y_shr hx78 rfl rfl) rfl rfl rfl ?_
      refine V_y (Y_assign rfl) rfl rfl rfl ?_
      refine V_to (fun _ _ => rfl) ?_
      refine C_region ?_
      refine V_y (Y_addI rfl rfl) rfl rfl rfl ?_
      refine V_y (Y_move rfl) rfl rfl rfl ?_
      obtain rfl := Option.some.inj h42
      refine V_end (fun a ha79 => ?_)
      exact ⟨(x72, x78), hlt45, h43, ⟨(v73, A75), ha79.sub ⟨rfl, rfl, rfl, rfl, rfl, (congrArg (fun z => some (Value.int .i64 z)) (w64_succ hlt45 hn48)), trivial⟩, ⟨hH, hr26⟩⟩⟩
    · refine C_exit (fun a ha80 => ?_)
      exact ⟨((s35.1, s35.2), v37, A39), ha80.sub ⟨rfl, rfl, trivial⟩, ⟨(h46 (eq_of_dec hle44 hc49)).symm, hH, hr26⟩⟩
  rintro ⟨s25, v31, A33⟩ w28 ⟨rfl, hH34, hk29⟩ a ha30
  rw [Lp.andThen_fin] at hm
  replace hK := Tr.trans hK hk29
  replace hB := Nat.le_trans hB hk29.ex.size
  replace hA := hk29.new
  replace hH : Hp w.heap.size A33 w28 (obS (α := UInt32) 77 v31 s25.1 :: []) := hH34
  refine C_at (n := ⟨56, [], none⟩) (fun _ _ => rfl) ?_ ha30
  refine C_seq ?_
  refine C_region ?_
  refine V_y (Y_move rfl) rfl rfl rfl ?_
  refine V_y (Y_move rfl) rfl rfl rfl ?_
  refine V_y (Y_convU32 Try.underlying76 Try.underlying77 rfl) rfl rfl rfl ?_
  refine V_buildSlice (l := ([(toU32 s25.2)] : List UInt32)) (len := 1) Try.underlying56 Try.sizeOf77 Try.zeroValue77 rfl (by with_unfolding_all rfl) (by decide) (by decide) hA ⟨[.int .u32 ((toU32 s25.2).toNat : Int)], _, rfl, rfl, rfl⟩ rfl rfl ?_
  intro v82 w83 hk85 h84
  have ht86 := Kp.tr hk85 hA hB
  replace hH := Hp.kp hH hk85
  replace hK := Tr.trans hK ht86
  replace hB := Nat.le_trans hB ht86.ex.size
  replace hA := ht86.new
  obtain ⟨x87, hx87, hm⟩ := Option.bind_eq_some_iff.1 hm
  refine V_appendH (e := 77) (v := v31) (l := s25.1) (ti := Try.t77) (bytes := 4) (lim := 35184372088832) hH (i := 0) rfl h84 hx87 Try.underlying56 Try_info77 rfl rfl rfl rfl (by decide) (by decide) (by decide) hB hA rfl rfl rfl ?_
  intro v88 w89 A90 hH91 ht92
  replace h84 := Sl.tr h84 ht92
  replace hK := Tr.trans hK ht92
  replace hB := Nat.le_trans hB ht92.ex.size
  replace hA := ht92.new
  replace hH : Hp w.heap.size A90 w89 (obS (α := UInt32) 77 v88 x87 :: []) := hH91
  obtain ⟨A93, ht94, h95, hH96⟩ := Hp.freeze (α := UInt32) (v := v88) (l := x87) hH (i := 0) rfl hA
  replace h84 := Sl.tr h84 ht94
  replace hK := Tr.trans hK ht94
  replace hB := Nat.le_trans hB ht94.ex.size
  replace hA := ht94.new
  replace hH : Hp w.heap.size A93 w89 ([]) := hH96
  obtain ⟨x98, hx98, hm⟩ := Option.bind_eq_some_iff.1 hm
  refine V_call Try.call50 rfl rfl rfl rfl (portref2_whole_trim_c w89 x87 v88 h95 hx98) ?_
  rintro v99 _ ⟨_, rfl, h100, rfl⟩
  refine V_y (Y_assign rfl) rfl rfl rfl ?_
  refine V_to (fun _ _ => rfl) ?_
  obtain rfl := Option.some.inj hm
  refine C_ret ?_
  try simp only [↓inBlock_ret, ↓then_ret]
  exact retQ rfl (Res.one Try.results49 rfl) ⟨v99, rfl, (Sl.out h100 hA0 hK), hK.kp⟩

set_option maxRecDepth 4000 in
set_option maxHeartbeats 4000000 in
theorem portref2_blocked_c (w : World) {A : Nat → Prop} (hA : ∀ b, w.heap.size ≤ b → A b) (l : staff_Load) (n : Int) {r : portref2_ratio} (hm : portref2_blocked l n = some r) : Ret Try.prog 42 #[.agg #[.int .i64 l.calls, .int .i64 l.length, .int .i64 l.span], .int .i64 n] w fun v w' => ∃ s0 s1, v = .agg #[s0, s1] ∧ Sl A w' s0 r.num ∧ Sl A w' s1 r.den ∧ Kp w w' := by
  unfold portref2_blocked at hm
  refine enter Try.func42 rfl Try.ntmps42 rfl ?_
  have hA0 := hA
  have hB := Nat.le_refl w.heap.size
  have hK : Tr w.heap.size A w A w := Tr.refl hA
  have hH : Hp w.heap.size A w [] := Hp.nil
  refine C_seq ?_
  refine C_region ?_
  refine V_box rfl rfl ?_
  intro b1 w2 h3
  have hk5 := h3.kp
  have h4 : El (α := staff_Load) A w2 b1 0 l := h3.el hA ⟨[.int .i64 l.calls], _, rfl, rfl, ⟨[.int .i64 l.length], _, rfl, rfl, rfl⟩⟩
  have ht6 := Kp.tr hk5 hA hB
  replace hH := Hp.kp hH hk5
  replace hK := Tr.trans hK ht6
  replace hB := Nat.le_trans hB ht6.ex.size
  replace hA := ht6.new
  refine V_allocH (B := w.heap.size) hH Try.zeroValue58 hB hA rfl ?_
  intro b7 w9 A10 hH11 ht12
  replace h4 := El.tr h4 ht12
  replace hK := Tr.trans hK ht12
  replace hB := Nat.le_trans hB ht12.ex.size
  replace hA := ht12.new
  replace hH : Hp w.heap.size A10 w9 (obC b7 [.slice none 0 0, .slice none 0 0] 58 :: []) := hH11
  refine V_to (fun _ _ => rfl) ?_
  refine C_seq ?_
  refine C_region ?_
  obtain ⟨h13, _⟩ := El_staff_Load h4
  refine V_y (Y_loadA h13 Try.isAgg23 Try.sizeOf23 rfl) rfl rfl rfl ?_
  obtain ⟨x14, hx14, hm⟩ := Option.bind_eq_some_iff.1 hm
  refine V_call Try.call38 rfl rfl rfl rfl (portref2_offered_c w9 hA l hx14) ?_
  rintro _ w19 ⟨v15, v17, rfl, h16, h18, hk20⟩
  have ht21 := Kp.tr hk20 hA hB
  replace hH := Hp.kp hH hk20
  replace h4 := El.tr h4 ht21
  replace hK := Tr.trans hK ht21
  replace hB := Nat.le_trans hB ht21.ex.size
  replace hA := ht21.new
  refine V_alloc Try.zeroValue58 rfl ?_
  intro b22 w23 h24
  have h29 : (v15).oneCell' = true := by obtain ⟨_, _, e, _⟩ := Sl.form h16; rw [e]; rfl
  have h32 : (v17).oneCell' = true := by obtain ⟨_, _, e, _⟩ := Sl.form h18; rw [e]; rfl
  refine V_storeNew h24 Try.sizeOf58 rfl rfl rfl rfl (by exact (List.forall_mem_cons.2 ⟨h29, (List.forall_mem_cons.2 ⟨h32, (fun _ h => nomatch h)⟩)⟩)) ?_
  intro w25 h26
  have hk34 := h26.kp
  have h33 : El (α := portref2_ratio) A10 w25 b22 0 x14 := h26.el hA ⟨[v15], _, rfl, ⟨_, rfl, h16⟩, ⟨_, rfl, h18⟩⟩
  have ht35 := Kp.tr hk34 hA hB
  replace hH := Hp.kp hH hk34
  replace h4 := El.tr h4 ht35
  replace h16 := Sl.tr h16 ht35
  replace h18 := Sl.tr h18 ht35
  replace hK := Tr.trans hK ht35
  replace hB := Nat.le_trans hB ht35.ex.size
  replace hA := ht35.new
  refine V_to (fun _ _ => rfl) ?_
  refine C_seq ?_
  refine C_region ?_
  obtain ⟨x36, hx36, hm⟩ := Option.bind_eq_some_iff.1 hm
  refine V_call Try.call46 rfl rfl rfl rfl (portref2_wholeOf_c w25 hA 1 hx36) ?_
  rintro v37 w39 ⟨_, rfl, h38, hk40⟩
  have ht41 := Kp.tr hk40 hA hB
  replace hH := Hp.kp hH hk40
  replace h33 := El.tr h33 ht41
  replace hK := Tr.trans hK ht41
  replace hB := Nat.le_trans hB ht41.ex.size
  replace hA := ht41.new
  obtain ⟨x42, hx42, hm⟩ := Option.bind_eq_some_iff.1 hm
  refine V_call Try.call46 rfl rfl rfl rfl (portref2_wholeOf_c w39 hA 1 hx42) ?_
  rintro v43 w45 ⟨_, rfl, h44, hk46⟩
  have ht47 := Kp.tr hk46 hA hB
  replace hH := Hp.kp hH hk46
  replace h33 := El.tr h33 ht47
  replace h38 := Sl.tr h38 ht47
  replace hK := Tr.trans hK ht47
  replace hB := Nat.le_trans hB ht47.ex.size
  replace hA := ht47.new
  refine V_y (Y_assign rfl) rfl rfl rfl ?_
  refine V_y (Y_assign rfl) rfl rfl rfl ?_
  refine V_to (fun _ _ => rfl) ?_
  refine C_seq ?_
  refine C_seq ?_
  refine C_region ?_
  refine V_y (Y_assign rfl) rfl rfl rfl ?_
  refine V_to (fun _ _ => rfl) ?_
  obtain ⟨o48, ho48, hm⟩ := Option.bind_eq_some_iff.1 hm
  refine C_cutG (ι := (((List UInt32) × (List UInt32) × Int) × Value × Value × (Nat → Prop))) (fun ⟨s49, v55, v57, A59⟩ => [(4, .pointer (some ⟨b7, 0, none⟩)), (6, v55), (7, v57)]) (fun ⟨s49, v55, v57, A59⟩ => fun w' => o48 = .fin s49 ∧ Sl A59 w' v55 s49.1 ∧ Sl A59 w' v57 s49.2.1 ∧ Hp w.heap.size A59 w' (obC b7 [.slice none 0 0, .slice none 0 0] 58 :: []) ∧ Tr w.heap.size A10 w45 A59 w') ?_ ?_
  · refine C_block ?_
    refine C_while ho48 (fun s61 a w' => ∃ i : (Value × Value × (Nat → Prop)), Has ⟨34, [], none⟩ a ([(1, .int .i64 n), (4, .pointer (some ⟨b7, 0, none⟩)), (5, .pointer (some ⟨b22, 0, none⟩)), (6, i.1), (7, i.2.1), (8, .int .i64 s61.2.2)]) ∧ Sl i.2.2 w' i.1 s61.1 ∧ Sl i.2.2 w' i.2.1 s61.2.1 ∧ Hp w.heap.size i.2.2 w' (obC b7 [.slice none 0 0, .slice none 0 0] 58 :: []) ∧ Tr w.heap.size A10 w45 i.2.2 w') (fun a ha => ⟨(v37, v43, A10), ha.sub ⟨rfl, rfl, rfl, rfl, rfl, rfl, trivial⟩, ⟨h38, h44, hH, Tr.refl hA⟩⟩) ?_
    rintro K s61 a w62 ⟨⟨v63, v65, A67⟩, ha117, h64, h66, hH68, hr50⟩ K75
    refine C_of ?_ ha117
    replace h33 := El.tr h33 hr50
    replace hK := Tr.trans hK hr50
    replace hB := Nat.le_trans hB hr50.ex.size
    replace hA := hr50.new
    replace hH : Hp w.heap.size A67 w62 (obC b7 [.slice none 0 0, .slice none 0 0] 58 :: []) := hH68
    obtain ⟨x69, h70, h71⟩ := K75
    refine C_seq ?_
    refine C_seq ?_
    refine C_region ?_
    refine V_y (Y_move rfl) rfl rfl rfl ?_
    refine V_y (Y_move rfl) rfl rfl rfl ?_
    refine V_y (Y_leq rfl rfl) rfl rfl rfl ?_
    refine V_to (fun _ _ => rfl) ?_
    refine C_cond rfl (fun hc76 => ?_) (fun hc76 => ?_)
    · rw [if_pos hc76] at h70
      refine C_skip_to (fun _ _ => rfl) ?_
      refine C_seq ?_
      refine C_block ?_
      refine C_seq ?_
      refine C_region ?_
      refine V_y (Y_move rfl) rfl rfl rfl ?_
      have h77 := El_portref2_ratio_0 h33
      refine V_y (Y_fieldAddr Try.underlying58 rfl Try.sizeOf56 (by decide) rfl) rfl rfl rfl ?_
      obtain ⟨v78, h79, h80⟩ := El.list h77
      refine V_y (Y_load h79 Try.isAgg56 rfl) rfl rfl rfl ?_
      obtain ⟨x81, hx81, h70⟩ := Option.bind_eq_some_iff.1 h70
      refine V_call Try.call43 rfl rfl rfl rfl (portref2_whole_times_c w62 hA s61.1 v63 h64 x14.num v78 h80 hx81) ?_
      rintro v82 w84 ⟨_, rfl, h83, hk85⟩
      have ht86 := Kp.tr hk85 hA hB
      replace hH := Hp.kp hH hk85
      replace h33 := El.tr h33 ht86
      replace h64 := Sl.tr h64 ht86
      replace h66 := Sl.tr h66 ht86
      replace h77 := El.tr h77 ht86
      replace h80 := Sl.tr h80 ht86
      replace hK := Tr.trans hK ht86
      replace hr50 := Tr.trans hr50 ht86
      replace hB := Nat.le_trans hB ht86.ex.size
      replace hA := ht86.new
      refine V_y (Y_assign rfl) rfl rfl rfl ?_
      refine V_to (fun _ _ => rfl) ?_
      refine C_region ?_
      refine V_y (Y_move rfl) rfl rfl rfl ?_
      have h87 := El_portref2_ratio_1 h33
      refine V_y (Y_fieldAddr Try.underlying58 rfl Try.sizeOf56 (by decide) rfl) rfl rfl rfl ?_
      obtain ⟨v88, h89, h90⟩ := El.list h87
      refine V_y (Y_load h89 Try.isAgg56 rfl) rfl rfl rfl ?_
      obtain ⟨x91, hx91, h70⟩ := Option.bind_eq_some_iff.1 h70
      refine V_call Try.call43 rfl rfl rfl rfl (portref2_whole_times_c w84 hA s61.2.1 v65 h66 x14.den v88 h90 hx91) ?_
      rintro v92 w94 ⟨_, rfl, h93, hk95⟩
      have ht96 := Kp.tr hk95 hA hB
      replace hH := Hp.kp hH hk95
      replace h33 := El.tr h33 ht96
      replace h83 := Sl.tr h83 ht96
      replace h66 := Sl.tr h66 ht96
      replace h87 := El.tr h87 ht96
      replace h90 := Sl.tr h90 ht96
      replace hK := Tr.trans hK ht96
      replace hr50 := Tr.trans hr50 ht96
      replace hB := Nat.le_trans hB ht96.ex.size
      replace hA := ht96.new
      refine V_y (Y_move rfl) rfl rfl rfl ?_
      obtain ⟨x97, hx97, h70⟩ := Option.bind_eq_some_iff.1 h70
      refine V_call Try.call46 rfl rfl rfl rfl (portref2_wholeOf_c w94 hA s61.2.2 hx97) ?_
      rintro v98 w100 ⟨_, rfl, h99, hk101⟩
      have ht102 := Kp.tr hk101 hA hB
      replace hH := Hp.kp hH hk101
      replace h33 := El.tr h33 ht102
      replace h83 := Sl.tr h83 ht102
      replace h66 := Sl.tr h66 ht102
      replace h87 := El.tr h87 ht102
      replace h90 := Sl.tr h90 ht102
      replace h93 := Sl.tr h93 ht102
      replace hK := Tr.trans hK ht102
      replace hr50 := Tr.trans hr50 ht102
      replace hB := Nat.le_trans hB ht102.ex.size
      replace hA := ht102.new
      obtain ⟨x103, hx103, h70⟩ := Option.bind_eq_some_iff.1 h70
      refine V_call Try.call43 rfl rfl rfl rfl (portref2_whole_times_c w100 hA x91 v92 h93 x97 v98 h99 hx103) ?_
      rintro v104 w106 ⟨_, rfl, h105, hk107⟩
      have ht108 := Kp.tr hk107 hA hB
      replace hH := Hp.kp hH hk107
      replace h33 := El.tr h33 ht108
      replace h83 := Sl.tr h83 ht108
      replace h66 := Sl.tr h66 ht108
      replace h87 := El.tr h87 ht108
      replace h90 := Sl.tr h90 ht108
      replace h93 := Sl.tr h93 ht108
      replace h99 := Sl.tr h99 ht108
      replace hK := Tr.trans hK ht108
      replace hr50 := Tr.trans hr50 ht108
      replace hB := Nat.le_trans hB ht108.ex.size
      replace hA := ht108.new
      refine V_y (Y_move rfl) rfl rfl rfl ?_
      obtain ⟨x109, hx109, h70⟩ := Option.bind_eq_some_iff.1 h70
      refine V_call Try.call49 rfl rfl rfl rfl (portref2_whole_plus_c w106 hA x103 v104 h105 x81 v82 h83 hx109) ?_
      rintro v110 w112 ⟨_, rfl, h111, hk113⟩
      have ht114 := Kp.tr hk113 hA hB
      replace hH := Hp.kp hH hk113
      replace h33 := El.tr h33 ht114
      replace h83 := Sl.tr h83 ht114
      replace h66 := Sl.tr h66 ht114
      replace h87 := El.tr h87 ht114
      replace h90 := Sl.tr h90 ht114
      replace h93 := Sl.tr h93 ht114
      replace h99 := Sl.tr h99 ht114
      replace h105 := Sl.tr h105 ht114
      replace hK := Tr.trans hK ht114
      replace hr50 := Tr.trans hr50 ht114
      replace hB := Nat.le_trans hB ht114.ex.size
      replace hA := ht114.new
      refine V_y (Y_assign rfl) rfl rfl rfl ?_
      refine V_to (fun _ _ => rfl) ?_
      refine C_region ?_
      refine V_y (Y_move rfl) rfl rfl rfl ?_
      refine V_y (Y_addI rfl rfl) rfl rfl rfl ?_
      refine V_y (Y_assign rfl) rfl rfl rfl ?_
      obtain rfl := Option.some.inj h70
      refine V_end (fun a ha115 => ?_)
      exact ⟨(x81, x109, w64 (s61.2.2 + 1)), h71, ⟨(v82, v110, A67), ha115.sub ⟨rfl, rfl, rfl, rfl, rfl, rfl, trivial⟩, ⟨h83, h111, hH, hr50⟩⟩⟩
    · rw [if_neg (nt hc76)] at h70
      obtain rfl := Option.some.inj h70
      refine C_exit (fun a ha116 => ?_)
      exact ⟨((s61.1, s61.2.1, s61.2.2), v63, v65, A67), ha116.sub ⟨rfl, rfl, rfl, trivial⟩, ⟨h71.symm, h64, h66, hH, hr50⟩⟩
  rintro ⟨s49, v55, v57, A59⟩ w52 ⟨rfl, h56, h58, hH60, hk53⟩ a ha54
  rw [Lp.andThen_fin] at hm
  replace hK := Tr.trans hK hk53
  replace hB := Nat.le_trans hB hk53.ex.size
  replace hA := hk53.new
  replace hH : Hp w.heap.size A59 w52 (obC b7 [.slice none 0 0, .slice none 0 0] 58 :: []) := hH60
  refine C_at (n := ⟨34, [], none⟩) (fun _ _ => rfl) ?_ ha54
  refine C_seq ?_
  refine C_region ?_
  refine V_y (Y_move rfl) rfl rfl rfl ?_
  refine V_y (Y_move rfl) rfl rfl rfl ?_
  obtain ⟨x118, hx118, hm⟩ := Option.bind_eq_some_iff.1 hm
  refine V_call Try.call45 rfl rfl rfl rfl (portref2_lowest_c w52 hA s49.1 v55 h56 s49.2.1 v57 h58 hx118) ?_
  rintro _ w123 ⟨v119, v121, rfl, h120, h122, hk124⟩
  have ht125 := Kp.tr hk124 hA hB
  replace hH := Hp.kp hH hk124
  replace h56 := Sl.tr h56 ht125
  replace h58 := Sl.tr h58 ht125
  replace hK := Tr.trans hK ht125
  replace hB := Nat.le_trans hB ht125.ex.size
  replace hA := ht125.new
  have h131 : (v119).oneCell' = true := by obtain ⟨_, _, e, _⟩ := Sl.form h120; rw [e]; rfl
  have h134 : (v121).oneCell' = true := by obtain ⟨_, _, e, _⟩ := Sl.form h122; rw [e]; rfl
  refine V_storeC (off := 0) (ds := [v119, v121]) hH (i := 0) rfl Try.sizeOf58 rfl (Nat.le_of_ble_eq_true rfl) (by exact (List.forall_mem_cons.2 ⟨h131, (List.forall_mem_cons.2 ⟨h134, (fun _ h => nomatch h)⟩)⟩)) rfl hB hA rfl rfl ?_
  intro w126 hH127 ht128
  replace h56 := Sl.tr h56 ht128
  replace h58 := Sl.tr h58 ht128
  replace h120 := Sl.tr h120 ht128
  replace h122 := Sl.tr h122 ht128
  replace hK := Tr.trans hK ht128
  replace hB := Nat.le_trans hB ht128.ex.size
  replace hA := ht128.new
  replace hH : Hp w.heap.size A59 w126 (obC b7 [v119, v121] 58 :: []) := hH127
  refine V_to (fun _ _ => rfl) ?_
  obtain rfl := Option.some.inj hm
  refine C_ret ?_
  try simp only [↓inBlock_ret, ↓then_ret]
  exact retQ rfl (Res.l1 Try.results42 (RL.cell rfl (loadVar_agg (Hp.part (off := 0) (n := 2) (ds := [v119, v121]) hH (i := 0) rfl rfl) Try.isAgg58 Try.sizeOf58))) ⟨v119, v121, rfl, (Sl.out h120 hA0 hK), (Sl.out h122 hA0 hK), hK.kp⟩

set_option maxRecDepth 4000 in
set_option maxHeartbeats 4000000 in
theorem portref2_whole_minus_c (w : World) {A : Nat → Prop} (hA : ∀ b, w.heap.size ≤ b → A b) (a_ : (List UInt32)) (v_a_ : Value) (h_a_ : Sl A w v_a_ a_) (b : (List UInt32)) (v_b : Value) (h_b : Sl A w v_b b) {r : (List UInt32)} (hm : portref2_whole_minus a_ b = some r) : Ret Try.prog 48 #[v_a_, v_b] w fun v w' => ∃ s0, v = s0 ∧ Sl A w' s0 r ∧ Kp w w' := by
  unfold portref2_whole_minus at hm
  refine enter Try.func48 rfl Try.ntmps48 rfl ?_
  have hA0 := hA
  have hB := Nat.le_refl w.heap.size
  have hK : Tr w.heap.size A w A w := Tr.refl hA
  have hH : Hp w.heap.size A w [] := Hp.nil
  refine C_seq ?_
  refine C_region ?_
  refine V_y (Y_assign rfl) rfl rfl rfl ?_
  refine V_to (fun _ _ => rfl) ?_
  refine C_seq ?_
  refine C_region ?_
  refine V_y (Y_move rfl) rfl rfl rfl ?_
  refine V_y (Y_lenSl h_a_ rfl Try.underlying56 rfl) rfl rfl rfl ?_
  obtain ⟨x5, hx5, hm⟩ := Option.bind_eq_some_iff.1 hm
  refine V_makeH (e := 77) (ti := Try.t77) hH hx5 (fun _ _ => rfl) Try.underlying56 Try_info77 rfl rfl rfl (by decide) (by decide) hB hA rfl rfl rfl ?_
  intro v6 w7 A8 hH9 ht10
  replace h_a_ := Sl.tr h_a_ ht10
  replace h_b := Sl.tr h_b ht10
  replace hK := Tr.trans hK ht10
  replace hB := Nat.le_trans hB ht10.ex.size
  replace hA := ht10.new
  replace hH : Hp w.heap.size A8 w7 (obS (α := UInt32) 77 v6 x5 :: []) := hH9
  refine V_y (Y_assign rfl) rfl rfl rfl ?_
  refine V_to (fun _ _ => rfl) ?_
  refine C_seq ?_
  refine C_region ?_
  refine V_y (Y_assign rfl) rfl rfl rfl ?_
  refine V_to (fun _ _ => rfl) ?_
  refine C_seq ?_
  refine C_seq ?_
  refine C_region ?_
  refine V_y (Y_move rfl) rfl rfl rfl ?_
  refine V_y (Y_lenSl h_a_ rfl Try.underlying56 rfl) rfl rfl rfl ?_
  refine V_y (Y_move rfl) rfl rfl rfl ?_
  refine V_to (fun _ _ => rfl) ?_
  have hn35 := Sl.le h_a_
  obtain ⟨o11, ho11, hm⟩ := Option.bind_eq_some_iff.1 hm
  refine C_cutG (ι := (((List UInt32) × Int) × Value × (Nat → Prop))) (fun ⟨s12, v18, A20⟩ => [(5, v18)]) (fun ⟨s12, v18, A20⟩ => fun w' => o11 = .fin s12 ∧ Hp w.heap.size A20 w' (obS (α := UInt32) 77 v18 s12.1 :: []) ∧ Tr w.heap.size A8 w7 A20 w') ?_ ?_
  · refine C_block ?_
    refine C_range ho11 (fun k14 s22 a w' => ∃ i : (Value × (Nat → Prop)), Has ⟨50, [], none⟩ a ([(0, v_a_), (1, v_b), (5, i.1), (6, .int .u64 s22.2), (14, .int .i64 (a_.length : Int)), (15, .int .i64 (k14 : Int))]) ∧ Hp w.heap.size i.2 w' (obS (α := UInt32) 77 i.1 s22.1 :: []) ∧ Tr w.heap.size A8 w7 i.2 w') (fun a ha => ⟨(v6, A8), ha.sub ⟨rfl, rfl, rfl, rfl, rfl, rfl, trivial⟩, ⟨hH, Tr.refl hA⟩⟩) ?_
    rintro K k14 s22 a w23 ⟨⟨v24, A26⟩, ha74, hH27, hr13⟩ hle31 K34 h33
    refine C_of ?_ ha74
    replace h_a_ := Sl.tr h_a_ hr13
    replace h_b := Sl.tr h_b hr13
    replace hK := Tr.trans hK hr13
    replace hB := Nat.le_trans hB hr13.ex.size
    replace hA := hr13.new
    replace hH : Hp w.heap.size A26 w23 (obS (α := UInt32) 77 v24 s22.1 :: []) := hH27
    refine C_seq (C_region (V_y (Y_lss rfl rfl) rfl rfl rfl (V_to (fun _ _ => rfl) ?_)))
    refine C_seq ?_
    refine C_cond rfl (fun hc36 => ?_) (fun hc36 => ?_)
    · have hlt32 := lt_of_dec hc36
      obtain ⟨x28, h29, h30⟩ := K34 hlt32
      refine C_skip_to (fun _ _ => rfl) ?_
      refine C_seq ?_
      refine C_block ?_
      refine C_seq ?_
      refine C_region ?_
      refine V_y (Y_move rfl) rfl rfl rfl ?_
      refine V_y (Y_assign rfl) rfl rfl rfl ?_
      refine V_to (fun _ _ => rfl) ?_
      refine C_seq ?_
      refine C_region ?_
      refine V_y (Y_move rfl) rfl rfl rfl ?_
      refine V_y (Y_move rfl) rfl rfl rfl ?_
      obtain ⟨x37, hx37, h29⟩ := Option.bind_eq_some_iff.1 h29
      refine V_indexAddr h_a_ hx37 Try.underlying56 Try.sizeOf77 rfl rfl rfl ?_
      intro b38 o39 h40
      refine V_y (Y_load (El.u32 h40) Try.isAgg77 rfl) rfl rfl rfl ?_
      refine V_y (Y_convI Try.underlying77 Try.underlying76 rfl) rfl rfl rfl ?_
      refine V_y (Y_move rfl) rfl rfl rfl ?_
      refine V_y (Y_assign rfl) rfl rfl rfl ?_
      refine V_y (Y_assign rfl) rfl rfl rfl ?_
      refine V_to (fun _ _ => rfl) ?_
      refine C_seq ?_
      refine C_seq ?_
      refine C_region ?_
      refine V_y (Y_move rfl) rfl rfl rfl ?_
      refine V_y (Y_move rfl) rfl rfl rfl ?_
      refine V_y (Y_lenSl h_b rfl Try.underlying56 rfl) rfl rfl rfl ?_
      refine V_y (Y_lss rfl rfl) rfl rfl rfl ?_
      refine V_to (fun _ _ => rfl) ?_
      obtain ⟨s42, ho41, h29⟩ := Option.bind_eq_some_iff.1 h29
      refine C_cutG (ι := Unit) (fun (_ : Unit) => [(0, v_a_), (1, v_b), (5, v24), (7, .int .i64 (k14 : Int)), (8, .int .u64 (IntKind.wrap .u64 (x37.toNat : Int))), (9, .int .u64 s42), (14, .int .i64 (a_.length : Int)), (15, .int .i64 (k14 : Int))]) (fun (_ : Unit) => fun w' => w23 = w') ?_ ?_
      · refine C_cond rfl (fun hc47 => ?_) (fun hc47 => ?_)
        · rw [if_pos hc47] at ho41
          refine C_region ?_
          refine V_y (Y_move rfl) rfl rfl rfl ?_
          refine V_y (Y_move rfl) rfl rfl rfl ?_
          refine V_y (Y_move rfl) rfl rfl rfl ?_
          obtain ⟨x48, hx48, ho41⟩ := Option.bind_eq_some_iff.1 ho41
          refine V_indexAddr h_b hx48 Try.underlying56 Try.sizeOf77 rfl rfl rfl ?_
          intro b49 o50 h51
          refine V_y (Y_load (El.u32 h51) Try.isAgg77 rfl) rfl rfl rfl ?_
          refine V_y (Y_convI Try.underlying77 Try.underlying76 rfl) rfl rfl rfl ?_
          refine V_y (Y_add rfl rfl) rfl rfl rfl ?_
          refine V_y (Y_assign rfl) rfl rfl rfl ?_
          obtain rfl := Option.some.inj ho41
          refine V_end (fun a ha52 => ?_)
          exact ⟨(), ha52.sub ⟨rfl, rfl, rfl, rfl, rfl, rfl, rfl, rfl, trivial⟩, rfl⟩
        · rw [if_neg (nt hc47)] at ho41
          obtain rfl := Option.some.inj ho41
          refine C_skip (fun a ha53 => ?_)
          exact ⟨(), ha53.sub ⟨rfl, rfl, rfl, rfl, rfl, rfl, rfl, rfl, trivial⟩, rfl⟩
      rintro _ _ rfl a ha46
      refine C_at (n := ⟨50, [], none⟩) (fun _ _ => rfl) ?_ ha46
      refine C_seq ?_
      refine C_region ?_
      refine V_y (Y_assign rfl) rfl rfl rfl ?_
      refine V_to (fun _ _ => rfl) ?_
      refine C_seq ?_
      refine C_seq ?_
      refine C_region ?_
      refine V_y (Y_move rfl) rfl rfl rfl ?_
      refine V_y (Y_move rfl) rfl rfl rfl ?_
      refine V_y (Y_lss rfl rfl) rfl rfl rfl ?_
      refine V_to (fun _ _ => rfl) ?_
      obtain ⟨s55, ho54, h29⟩ := Option.bind_eq_some_iff.1 h29
      refine C_cutG (ι := Unit) (fun (_ : Unit) => [(0, v_a_), (1, v_b), (5, v24), (6, .int .u64 s55.1), (7, .int .i64 (k14 : Int)), (8, .int .u64 s55.2), (9, .int .u64 s42), (14, .int .i64 (a_.length : Int)), (15, .int .i64 (k14 : Int))]) (fun (_ : Unit) => fun w' => w23 = w') ?_ ?_
      · refine C_cond rfl (fun hc60 => ?_) (fun hc60 => ?_)
        · rw [if_pos hc60] at ho54
          refine C_seq ?_
          refine C_region ?_
          refine V_y (Y_move rfl) rfl rfl rfl ?_
          refine V_y (Y_add rfl rfl) rfl rfl rfl ?_
          refine V_y (Y_assign rfl) rfl rfl rfl ?_
          refine V_to (fun _ _ => rfl) ?_
          refine C_region ?_
          refine V_y (Y_assign rfl) rfl rfl rfl ?_
          obtain rfl := Option.some.inj ho54
          refine V_end (fun a ha61 => ?_)
          exact ⟨(), ha61.sub ⟨rfl, rfl, rfl, rfl, rfl, rfl, rfl, rfl, rfl, trivial⟩, rfl⟩
        · rw [if_neg (nt hc60)] at ho54
          obtain rfl := Option.some.inj ho54
          refine C_skip (fun a ha62 => ?_)
          exact ⟨(), ha62.sub ⟨rfl, rfl, rfl, rfl, rfl, rfl, rfl, rfl, rfl, trivial⟩, rfl⟩
      rintro _ _ rfl a ha59
      refine C_at (n := ⟨50, [], none⟩) (fun _ _ => rfl) ?_ ha59
      refine C_region ?_
      refine V_y (Y_move rfl) rfl rfl rfl ?_
      refine V_y (Y_move rfl) rfl rfl rfl ?_
      refine V_y (Y_move rfl) rfl rfl rfl ?_
      refine V_y (Y_move rfl) rfl rfl rfl ?_
      refine V_y (Y_sub rfl rfl) rfl rfl rfl ?_
      refine V_y (Y_convU32 Try.underlying76 Try.underlying77 rfl) rfl rfl rfl ?_
      obtain ⟨x63, hx63, h29⟩ := Option.bind_eq_some_iff.1 h29
      refine V_indexAddrH (α := UInt32) (e := 77) (v := v24) (l := s22.1) hH (i := 0) rfl hx63 Try.underlying56 Try.sizeOf77 rfl rfl rfl ?_
      intro b64 o65 h66 hl67
      obtain ⟨x68, hx68, h29⟩ := Option.bind_eq_some_iff.1 h29
      refine V_storeH (α := UInt32) (e := 77) (v := v24) (l := s22.1) hH (i := 0) rfl hl67 hx68 rfl Try.sizeOf77 rfl hB hA rfl rfl ?_
      intro w69 hH70 ht71
      replace h_a_ := Sl.tr h_a_ ht71
      replace h_b := Sl.tr h_b ht71
      replace hK := Tr.trans hK ht71
      replace hr13 := Tr.trans hr13 ht71
      replace hB := Nat.le_trans hB ht71.ex.size
      replace hA := ht71.new
      replace hH : Hp w.heap.size A26 w69 (obS (α := UInt32) 77 v24 x68 :: []) := hH70
      refine V_to (fun _ _ => rfl) ?_
      refine C_region ?_
      refine V_y (Y_addI rfl rfl) rfl rfl rfl ?_
      refine V_y (Y_move rfl) rfl rfl rfl ?_
      obtain rfl := Option.some.inj h29
      refine V_end (fun a ha72 => ?_)
      exact ⟨(x68, s55.1), hlt32, h30, ⟨(v24, A26), ha72.sub ⟨rfl, rfl, rfl, rfl, rfl, (congrArg (fun z => some (Value.int .i64 z)) (w64_succ hlt32 hn35)), trivial⟩, ⟨hH, hr13⟩⟩⟩
    · refine C_exit (fun a ha73 => ?_)
      exact ⟨((s22.1, s22.2), v24, A26), ha73.sub ⟨rfl, trivial⟩, ⟨(h33 (eq_of_dec hle31 hc36)).symm, hH, hr13⟩⟩
  rintro ⟨s12, v18, A20⟩ w15 ⟨rfl, hH21, hk16⟩ a ha17
  rw [Lp.andThen_fin] at hm
  replace hK := Tr.trans hK hk16
  replace hB := Nat.le_trans hB hk16.ex.size
  replace hA := hk16.new
  replace hH : Hp w.heap.size A20 w15 (obS (α := UInt32) 77 v18 s12.1 :: []) := hH21
  refine C_at (n := ⟨50, [], none⟩) (fun _ _ => rfl) ?_ ha17
  refine C_seq ?_
  refine C_region ?_
  refine V_y (Y_move rfl) rfl rfl rfl ?_
  obtain ⟨A75, ht76, h77, hH78⟩ := Hp.freeze (α := UInt32) (v := v18) (l := s12.1) hH (i := 0) rfl hA
  replace hK := Tr.trans hK ht76
  replace hB := Nat.le_trans hB ht76.ex.size
  replace hA := ht76.new
  replace hH : Hp w.heap.size A75 w15 ([]) := hH78
  obtain ⟨x80, hx80, hm⟩ := Option.bind_eq_some_iff.1 hm
  refine V_call Try.call50 rfl rfl rfl rfl (portref2_whole_trim_c w15 s12.1 v18 h77 hx80) ?_
  rintro v81 _ ⟨_, rfl, h82, rfl⟩
  refine V_y (Y_assign rfl) rfl rfl rfl ?_
  refine V_to (fun _ _ => rfl) ?_
  obtain rfl := Option.some.inj hm
  refine C_ret ?_
  try simp only [↓inBlock_ret, ↓then_ret]
  exact retQ rfl (Res.one Try.results48 rfl) ⟨v81, rfl, (Sl.out h82 hA0 hK), hK.kp⟩

end Go.Proofs.Ytjjdbhfigpmciaa.W
