/-
  Written by program (gen.py) from the IR of the dump: each function computes its model.
-/
import Derived.Test.YtcbebdcofipcpaaGreatDoorLevelReadsW2
namespace Go.Proofs.YtcbebdcofipcpaaGreatDoor.W
open Go Go.RowKit Go.Pu Go.Gw Go.Proofs Go.Proofs.YtcbebdcofipcpaaGreatDoor.M
set_option linter.unusedVariables false
set_option linter.unusedSimpArgs false
variable {Dw : Prop}

set_option maxRecDepth 4000 in
set_option maxHeartbeats 4000000 in
theorem portref2_ReadPolicyOf_c (w : World) {A : Nat → Prop} (hA : ∀ b, w.heap.size ≤ b → A b) (hT : Fz Tryz_FR A w) (s : ByteArray) {r : (level_Policy × Int × Int)} (hm : portref2_ReadPolicyOf s = some r) : Ret Tryz.prog 5 #[.string s] w fun v w' => ∃ s0 s1, v = .tuple #[.agg #[s0, s1], .int .i64 r.2.1, .int .i64 r.2.2] ∧ Sl A w' s0 r.1.pauses ∧ Sl A w' s1 r.1.levels ∧ Kp False w w' := by
  unfold portref2_ReadPolicyOf at hm
  refine enter Tryz.func5 rfl Tryz.ntmps5 rfl ?_
  have hA0 := hA
  have hB := Nat.le_refl w.heap.size
  have hK : Tr False w.heap.size A w A w := Tr.refl (Dw := False) hA
  have hH : Hp w.heap.size A w [] := Hp.nil
  refine C_seq ?_
  refine C_region ?_
  refine V_allocH (Dw := False) (B := w.heap.size) hH Tryz.zeroValue25 hB hA rfl ?_
  intro b1 w2 A3 hH4 ht5
  replace hK := Tr.trans (Dw := False) hK ht5
  replace hB := Nat.le_trans hB ht5.ex.size
  replace hA := ht5.new
  replace hH : Hp w.heap.size A3 w2 (obC b1 [.slice none 0 0, .slice none 0 0] 25 :: []) := hH4
  refine V_y (Y_assign rfl) rfl rfl rfl ?_
  refine V_y (Y_assign rfl) rfl rfl rfl ?_
  refine V_to (fun _ _ => rfl) ?_
  refine C_seq ?_
  refine C_seq ?_
  refine C_region ?_
  refine V_y (Y_move rfl) rfl rfl rfl ?_
  refine V_y (Y_lenStr rfl Tryz.underlying9 rfl) rfl rfl rfl ?_
  refine V_y (Y_gtr rfl rfl) rfl rfl rfl ?_
  refine V_to (fun _ _ => rfl) ?_
  refine C_cond rfl (fun hc6 => ?_) (fun hc6 => ?_)
  · rw [if_pos hc6] at hm
    refine C_seq ?_
    refine C_region ?_
    refine V_y (Y_build Tryz.underlying25 Tryz.zeroValue25 (Tryz_places25 _ Tryz.underlying25) rfl (by with_unfolding_all rfl)) rfl rfl rfl ?_
    refine V_storeC (Dw := False) (off := 0) (ds := [.slice none 0 0, .slice none 0 0]) hH (i := 0) rfl Tryz.sizeOf25 rfl (Nat.le_of_ble_eq_true rfl) (by exact (List.forall_mem_cons.2 ⟨rfl, (List.forall_mem_cons.2 ⟨rfl, (fun _ h => nomatch h)⟩)⟩)) rfl hB hA rfl rfl ?_
    intro w7 hH8 ht9
    replace hK := Tr.trans (Dw := False) hK ht9
    replace hB := Nat.le_trans hB ht9.ex.size
    replace hA := ht9.new
    replace hH : Hp w.heap.size A3 w7 (obC b1 [.slice none 0 0, .slice none 0 0] 25 :: []) := hH8
    refine V_y (Y_assign rfl) rfl rfl rfl ?_
    refine V_y (Y_assign rfl) rfl rfl rfl ?_
    refine V_to (fun _ _ => rfl) ?_
    obtain rfl := Option.some.inj hm
    refine C_ret ?_
    try simp only [↓inBlock_ret, ↓then_ret]
    exact retQ rfl (Res.l3 Tryz.results5 (RL.cell rfl (loadVar_agg (Hp.part (off := 0) (n := 2) (ds := [.slice none 0 0, .slice none 0 0]) hH (i := 0) rfl rfl) Tryz.isAgg25 Tryz.sizeOf25)) (RL.tmp rfl) (RL.tmp rfl)) ⟨.slice none 0 0, .slice none 0 0, rfl, Sl.nil, Sl.nil, hK.kp⟩
  · rw [if_neg (nt hc6)] at hm
    refine C_skip_to (fun _ _ => rfl) ?_
    refine C_seq ?_
    refine C_region ?_
    refine V_allocH (Dw := False) (B := w.heap.size) hH Tryz.zeroValue25 hB hA rfl ?_
    intro b10 w11 A12 hH13 ht14
    replace hK := Tr.trans (Dw := False) hK ht14
    replace hB := Nat.le_trans hB ht14.ex.size
    replace hA := ht14.new
    replace hH : Hp w.heap.size A12 w11 (obC b10 [.slice none 0 0, .slice none 0 0] 25 :: obC b1 [.slice none 0 0, .slice none 0 0] 25 :: []) := hH13
    refine V_to (fun _ _ => rfl) ?_
    refine C_seq ?_
    refine C_region ?_
    refine V_y (Y_move rfl) rfl rfl rfl ?_
    obtain ⟨x15, hx15, hm⟩ := Option.bind_eq_some_iff.1 hm
    refine V_call Tryz.call10 rfl rfl rfl rfl (strings_SplitAfter_c (Dw := False) w11 hA (Fz.tr (Dw := False) hT hK) s (⟨#[10]⟩ : ByteArray) hx15) ?_
    rintro v16 w18 ⟨_, rfl, h17, hk19⟩
    have ht20 := Kp.tr (Dw := False) hk19 hA hB
    replace hH := Hp.kp (Dw := False) hH hk19
    replace hK := Tr.trans (Dw := False) hK ht20
    replace hB := Nat.le_trans hB ht20.ex.size
    replace hA := ht20.new
    refine V_y (Y_assign rfl) rfl rfl rfl ?_
    refine V_to (fun _ _ => rfl) ?_
    refine C_seq ?_
    refine C_seq ?_
    refine C_region ?_
    refine V_y (Y_move rfl) rfl rfl rfl ?_
    refine V_y (Y_lenSl h17 rfl Tryz.underlying35 rfl) rfl rfl rfl ?_
    refine V_y (Y_move rfl) rfl rfl rfl ?_
    refine V_to (fun _ _ => rfl) ?_
    replace hH : Hp w.heap.size A12 w18 (obS (α := Int) 3 (.slice none 0 0) ([] : (List Int)) :: obC b10 [.slice none 0 0, .slice none 0 0] 25 :: obC b1 [.slice none 0 0, .slice none 0 0] 25 :: []) := Hp.addNil (α := Int) (e := 3) hH
    replace hH : Hp w.heap.size A12 w18 (obGS gf_level_Level 46 (.slice none 0 0) ([] : (List level_Level)) :: obS (α := Int) 3 (.slice none 0 0) ([] : (List Int)) :: obC b10 [.slice none 0 0, .slice none 0 0] 25 :: obC b1 [.slice none 0 0, .slice none 0 0] 25 :: []) := Hp.addNilGS (f := gf_level_Level) (e := 46) hH
    have hn57 := Sl.le h17
    obtain ⟨o21, ho21, hm⟩ := Option.bind_eq_some_iff.1 hm
    refine C_cutG (ι := ((level_Policy × level_Policy) × Value × Value × Value × Value × (Nat → Prop))) (fun ⟨s22, v28, v30, v32, v34, A36⟩ => [(2, .pointer (some ⟨b1, 0, none⟩)), (5, .pointer (some ⟨b10, 0, none⟩))]) (fun ⟨s22, v28, v30, v32, v34, A36⟩ => fun w' => o21 = .fin s22 ∧ Sl A36 w' v32 s22.2.pauses ∧ Sl A36 w' v34 s22.2.levels ∧ Hp w.heap.size A36 w' (obGS gf_level_Level 46 v30 s22.1.levels :: obS (α := Int) 3 v28 s22.1.pauses :: obC b10 [v28, v30] 25 :: obC b1 [v32, v34] 25 :: []) ∧ Tr False w.heap.size A12 w18 A36 w') ?_ ?_
    · refine C_block ?_
      refine C_range ho21 (fun k24 s38 a w' => ∃ i : (Value × Value × Value × Value × (Nat → Prop)), Has ⟨202, [], none⟩ a ([(2, .pointer (some ⟨b1, 0, none⟩)), (5, .pointer (some ⟨b10, 0, none⟩)), (6, v16), (31, v16), (32, .int .i64 (x15.length : Int)), (33, .int .i64 (k24 : Int))]) ∧ Sl i.2.2.2.2 w' i.2.2.1 s38.2.pauses ∧ Sl i.2.2.2.2 w' i.2.2.2.1 s38.2.levels ∧ Hp w.heap.size i.2.2.2.2 w' (obGS gf_level_Level 46 i.2.1 s38.1.levels :: obS (α := Int) 3 i.1 s38.1.pauses :: obC b10 [i.1, i.2.1] 25 :: obC b1 [i.2.2.1, i.2.2.2.1] 25 :: []) ∧ Tr False w.heap.size A12 w18 i.2.2.2.2 w') (fun a ha => ⟨(.slice none 0 0, .slice none 0 0, .slice none 0 0, .slice none 0 0, A12), ha.sub ⟨rfl, rfl, rfl, rfl, rfl, rfl, trivial⟩, ⟨Sl.nil, Sl.nil, hH, Tr.refl (Dw := False) hA⟩⟩) ?_
      rintro K k24 s38 a w39 ⟨⟨v40, v42, v44, v46, A48⟩, ha355, h45, h47, hH49, hr23⟩ hle53 K56 h55
      refine C_of ?_ ha355
      replace h17 := Sl.tr (Dw := False) h17 hr23
      replace hK := Tr.trans (Dw := False) hK hr23
      replace hB := Nat.le_trans hB hr23.ex.size
      replace hA := hr23.new
      replace hH : Hp w.heap.size A48 w39 (obGS gf_level_Level 46 v42 s38.1.levels :: obS (α := Int) 3 v40 s38.1.pauses :: obC b10 [v40, v42] 25 :: obC b1 [v44, v46] 25 :: []) := hH49
      refine C_seq (C_region (V_y (Y_lss rfl rfl) rfl rfl rfl (V_to (fun _ _ => rfl) ?_)))
      refine C_seq ?_
      refine C_cond rfl (fun hc58 => ?_) (fun hc58 => ?_)
      · have hlt54 := lt_of_dec hc58
        obtain ⟨x50, h51, h52⟩ := K56 hlt54
        refine C_skip_to (fun _ _ => rfl) ?_
        refine C_seq ?_
        refine C_block ?_
        refine C_seq ?_
        refine C_region ?_
        refine V_y (Y_move rfl) rfl rfl rfl ?_
        obtain ⟨x59, hx59, h51⟩ := Option.bind_eq_some_iff.1 h51
        refine V_indexAddr h17 hx59 Tryz.underlying35 Tryz.sizeOf9 rfl rfl rfl ?_
        intro b60 o61 h62
        refine V_y (Y_load (El.str h62) Tryz.isAgg9 rfl) rfl rfl rfl ?_
        refine V_alloc Tryz.zeroValue3 rfl ?_
        intro b63 w65 h66
        refine V_storeNew h66 Tryz.sizeOf3 rfl rfl rfl rfl (by simp [Value.cells, Value.oneCell']) ?_
        intro w67 h68
        have hk70 := h68.kp (Dw := False)
        have h69 : El (α := Int) A48 w67 b63 0 (k24 : Int) := h68.el hA rfl
        have ht71 := Kp.tr (Dw := False) hk70 hA hB
        replace hH := Hp.kp (Dw := False) hH hk70
        replace h17 := Sl.tr (Dw := False) h17 ht71
        replace h62 := El.tr (Dw := False) h62 ht71
        replace h45 := Sl.tr (Dw := False) h45 ht71
        replace h47 := Sl.tr (Dw := False) h47 ht71
        replace hK := Tr.trans (Dw := False) hK ht71
        replace hr23 := Tr.trans (Dw := False) hr23 ht71
        replace hB := Nat.le_trans hB ht71.ex.size
        replace hA := ht71.new
        refine V_y (Y_assign rfl) rfl rfl rfl ?_
        refine V_to (fun _ _ => rfl) ?_
        refine C_seq ?_
        refine C_seq ?_
        refine C_region ?_
        refine V_y (Y_move rfl) rfl rfl rfl ?_
        refine V_y (Y_seql rfl rfl) rfl rfl rfl ?_
        refine V_y (Y_move rfl) rfl rfl rfl ?_
        refine V_cut 6 (fun _ : Unit => [(2, .pointer (some ⟨b1, 0, none⟩)), (5, .pointer (some ⟨b10, 0, none⟩)), (6, v16), (7, .pointer (some ⟨b63, 0, none⟩)), (8, .string x59), (31, v16), (32, .int .i64 (x15.length : Int)), (33, .int .i64 (k24 : Int)), (46, .bool ((strEq x59 (⟨#[]⟩ : ByteArray)) && ((k24 : Int) == (w64 ((x15.length : Int) - 1)))))]) (fun _ w' => w67 = w') ?_ ?_
        · simp only [List.take, List.drop]
          rcases Bool.eq_false_or_eq_true (strEq x59 (⟨#[]⟩ : ByteArray)) with hc72 | hc72
          · refine V_ge rfl rfl rfl hc72 ?_
            refine V_y (Y_load (El.int h69) Tryz.isAgg3 rfl) rfl rfl rfl ?_
            refine V_ge rfl rfl rfl hc72 ?_
            refine V_y (Y_move rfl) rfl rfl rfl ?_
            refine V_ge rfl rfl rfl hc72 ?_
            refine V_y (Y_lenSl h17 rfl Tryz.underlying35 rfl) rfl rfl rfl ?_
            refine V_ge rfl rfl rfl hc72 ?_
            refine V_y (Y_subI rfl rfl) rfl rfl rfl ?_
            refine V_ge rfl rfl rfl hc72 ?_
            refine V_y (Y_eql rfl rfl) rfl rfl rfl ?_
            refine V_y (Y_pick_te rfl hc72 rfl) rfl rfl rfl ?_
            exact V_end fun a ha => ⟨(), ha.sub ⟨rfl, rfl, rfl, rfl, rfl, rfl, rfl, rfl, (by rw [hc72]; rfl), trivial⟩, rfl⟩
          · refine V_gn rfl rfl rfl hc72 rfl rfl rfl ?_
            refine V_gn rfl rfl rfl hc72 rfl rfl rfl ?_
            refine V_gn rfl rfl rfl hc72 rfl rfl rfl ?_
            refine V_gn rfl rfl rfl hc72 rfl rfl rfl ?_
            refine V_gn rfl rfl rfl hc72 rfl rfl rfl ?_
            refine V_y (Y_pick_fe rfl hc72 rfl) rfl rfl rfl ?_
            exact V_end fun a ha => ⟨(), ha.sub ⟨rfl, rfl, rfl, rfl, rfl, rfl, rfl, rfl, (by rw [hc72]; rfl), trivial⟩, rfl⟩
        simp only [List.take, List.drop]
        rintro _ _ rfl
        refine V_y (Y_move rfl) rfl rfl rfl ?_
        refine V_cut 3 (fun _ : Unit => [(2, .pointer (some ⟨b1, 0, none⟩)), (5, .pointer (some ⟨b10, 0, none⟩)), (6, v16), (7, .pointer (some ⟨b63, 0, none⟩)), (8, .string x59), (31, v16), (32, .int .i64 (x15.length : Int)), (33, .int .i64 (k24 : Int)), (50, .bool (((strEq x59 (⟨#[]⟩ : ByteArray)) && ((k24 : Int) == (w64 ((x15.length : Int) - 1)))) && (decide ((0 : Int) < (k24 : Int)))))]) (fun _ w' => w67 = w') ?_ ?_
        · simp only [List.take, List.drop]
          rcases Bool.eq_false_or_eq_true (((strEq x59 (⟨#[]⟩ : ByteArray)) && ((k24 : Int) == (w64 ((x15.length : Int) - 1))))) with hc74 | hc74
          · refine V_ge rfl rfl rfl hc74 ?_
            refine V_y (Y_load (El.int h69) Tryz.isAgg3 rfl) rfl rfl rfl ?_
            refine V_ge rfl rfl rfl hc74 ?_
            refine V_y (Y_gtr rfl rfl) rfl rfl rfl ?_
            refine V_y (Y_pick_te rfl hc74 rfl) rfl rfl rfl ?_
            exact V_end fun a ha => ⟨(), ha.sub ⟨rfl, rfl, rfl, rfl, rfl, rfl, rfl, rfl, (by rw [hc74]; rfl), trivial⟩, rfl⟩
          · refine V_gn rfl rfl rfl hc74 rfl rfl rfl ?_
            refine V_gn rfl rfl rfl hc74 rfl rfl rfl ?_
            refine V_y (Y_pick_fe rfl hc74 rfl) rfl rfl rfl ?_
            exact V_end fun a ha => ⟨(), ha.sub ⟨rfl, rfl, rfl, rfl, rfl, rfl, rfl, rfl, (by rw [hc74]; rfl), trivial⟩, rfl⟩
        simp only [List.take, List.drop]
        rintro _ _ rfl
        refine V_to (fun _ _ => rfl) ?_
        refine C_cond rfl (fun hc76 => ?_) (fun hc76 => ?_)
        · rw [if_pos hc76] at h51
          obtain rfl := Option.some.inj h51
          refine C_exit (fun a ha77 => ?_)
          exact ⟨((s38.1, s38.2), v40, v42, v44, v46, A48), ha77.sub ⟨rfl, rfl, trivial⟩, ⟨h52.symm, h45, h47, hH, hr23⟩⟩
        · rw [if_neg (nt hc76)] at h51
          refine C_skip_to (fun _ _ => rfl) ?_
          refine C_seq ?_
          refine C_region ?_
          refine V_y (Y_makeFunc rfl rfl) rfl rfl rfl ?_
          refine V_y (Y_assign rfl) rfl rfl rfl ?_
          refine V_to (fun _ _ => rfl) ?_
          refine C_seq ?_
          refine C_region ?_
          refine V_y (Y_move rfl) rfl rfl rfl ?_
          obtain ⟨x78, hx78, h51⟩ := Option.bind_eq_some_iff.1 h51
          refine V_call Tryz.call12 rfl rfl rfl rfl (strings_CutSuffix_c w67 x59 (⟨#[10]⟩ : ByteArray) hx78) ?_
          rintro _ _ ⟨rfl, rfl⟩
          refine V_y (Y_move rfl) rfl rfl rfl ?_
          refine V_y (Y_extract rfl rfl) rfl rfl rfl ?_
          refine V_y (Y_extract rfl rfl) rfl rfl rfl ?_
          refine V_y (Y_assign rfl) rfl rfl rfl ?_
          refine V_y (Y_assign rfl) rfl rfl rfl ?_
          refine V_to (fun _ _ => rfl) ?_
          refine C_seq ?_
          refine C_seq ?_
          refine C_region ?_
          refine V_y (Y_move rfl) rfl rfl rfl ?_
          refine V_y (Y_not rfl) rfl rfl rfl ?_
          refine V_to (fun _ _ => rfl) ?_
          refine C_cond rfl (fun hc79 => ?_) (fun hc79 => ?_)
          · rw [if_pos hc79] at h51
            refine C_seq ?_
            refine C_region ?_
            refine V_y (Y_move rfl) rfl rfl rfl ?_
            obtain ⟨x80, hx80, h51⟩ := Option.bind_eq_some_iff.1 h51
            refine V_call Tryz.call11 rfl rfl rfl rfl (portref2_ReadPolicyOf_1_c (Dw := False) w67 hA (k24 : Int) b63 h69 hx80) ?_
            rintro _ w85 ⟨v81, v83, rfl, h82, h84, hk86⟩
            have ht87 := Kp.tr (Dw := False) hk86 hA hB
            replace hH := Hp.kp (Dw := False) hH hk86
            replace h17 := Sl.tr (Dw := False) h17 ht87
            replace h69 := El.tr (Dw := False) h69 ht87
            replace h45 := Sl.tr (Dw := False) h45 ht87
            replace h47 := Sl.tr (Dw := False) h47 ht87
            replace hK := Tr.trans (Dw := False) hK ht87
            replace hr23 := Tr.trans (Dw := False) hr23 ht87
            replace hB := Nat.le_trans hB ht87.ex.size
            replace hA := ht87.new
            refine V_y (Y_extract rfl rfl) rfl rfl rfl ?_
            refine V_y (Y_extract rfl rfl) rfl rfl rfl ?_
            refine V_y (Y_extract rfl rfl) rfl rfl rfl ?_
            have h93 : (v81).oneCell' = true := by obtain ⟨_, _, e, _⟩ := Sl.form h82; rw [e]; rfl
            have h96 : (v83).oneCell' = true := by obtain ⟨_, _, e, _⟩ := Sl.form h84; rw [e]; rfl
            refine V_storeC (Dw := False) (off := 0) (ds := [v81, v83]) hH (i := 3) rfl Tryz.sizeOf25 rfl (Nat.le_of_ble_eq_true rfl) (by exact (List.forall_mem_cons.2 ⟨h93, (List.forall_mem_cons.2 ⟨h96, (fun _ h => nomatch h)⟩)⟩)) rfl hB hA rfl rfl ?_
            intro w88 hH89 ht90
            replace h17 := Sl.tr (Dw := False) h17 ht90
            replace h69 := El.tr (Dw := False) h69 ht90
            replace h82 := Sl.tr (Dw := False) h82 ht90
            replace h84 := Sl.tr (Dw := False) h84 ht90
            replace h45 := Sl.tr (Dw := False) h45 ht90
            replace h47 := Sl.tr (Dw := False) h47 ht90
            replace hK := Tr.trans (Dw := False) hK ht90
            replace hr23 := Tr.trans (Dw := False) hr23 ht90
            replace hB := Nat.le_trans hB ht90.ex.size
            replace hA := ht90.new
            replace hH : Hp w.heap.size A48 w88 (obGS gf_level_Level 46 v42 s38.1.levels :: obS (α := Int) 3 v40 s38.1.pauses :: obC b10 [v40, v42] 25 :: obC b1 [v81, v83] 25 :: []) := hH89
            refine V_y (Y_assign rfl) rfl rfl rfl ?_
            refine V_y (Y_assign rfl) rfl rfl rfl ?_
            refine V_to (fun _ _ => rfl) ?_
            obtain rfl := Option.some.inj h51
            obtain rfl := (h52 : Lp.rt _ = _)
            rw [Lp.andThen_rt] at hm
            obtain rfl := Option.some.inj hm
            refine C_ret ?_
            try simp only [↓inBlock_ret, ↓then_ret]
            exact retQ rfl (Res.l3 Tryz.results5 (RL.cell rfl (loadVar_agg (Hp.part (off := 0) (n := 2) (ds := [v81, v83]) hH (i := 3) rfl rfl) Tryz.isAgg25 Tryz.sizeOf25)) (RL.tmp rfl) (RL.tmp rfl)) ⟨v81, v83, rfl, (Sl.out (Dw := False) h82 hA0 hK), (Sl.out (Dw := False) h84 hA0 hK), hK.kp⟩
          · rw [if_neg (nt hc79)] at h51
            refine C_skip_to (fun _ _ => rfl) ?_
            refine C_seq ?_
            refine C_seq ?_
            refine C_region ?_
            refine V_y (Y_load (El.int h69) Tryz.isAgg3 rfl) rfl rfl rfl ?_
            refine V_y (Y_eql rfl rfl) rfl rfl rfl ?_
            refine V_to (fun _ _ => rfl) ?_
            refine C_cond rfl (fun hc97 => ?_) (fun hc97 => ?_)
            · rw [if_pos hc97] at h51
              refine C_seq ?_
              refine C_region ?_
              refine V_y (Y_move rfl) rfl rfl rfl ?_
              obtain ⟨x98, hx98, h51⟩ := Option.bind_eq_some_iff.1 h51
              refine V_call Tryz.call13 rfl rfl rfl rfl (portref2_lineNumbers_c w67 hA (Fz.tr (Dw := False) hT hK) x78.1 18 hx98) ?_
              rintro _ w101 ⟨v99, rfl, h100, hk102⟩
              obtain ⟨A103, ht104, hH105⟩ := Hp.addOwnd (Dw := False) hH hB hA hk102 h100
              replace h17 := Sl.tr (Dw := False) h17 ht104
              replace h69 := El.tr (Dw := False) h69 ht104
              replace h45 := Sl.tr (Dw := False) h45 ht104
              replace h47 := Sl.tr (Dw := False) h47 ht104
              replace hK := Tr.trans (Dw := False) hK ht104
              replace hr23 := Tr.trans (Dw := False) hr23 ht104
              replace hB := Nat.le_trans hB ht104.ex.size
              replace hA := ht104.new
              replace hH : Hp w.heap.size A103 w101 (obS (α := Int) 3 v99 x98.2.1 :: obGS gf_level_Level 46 v42 s38.1.levels :: obS (α := Int) 3 v40 s38.1.pauses :: obC b10 [v40, v42] 25 :: obC b1 [v44, v46] 25 :: []) := hH105
              refine V_y (Y_move rfl) rfl rfl rfl ?_
              refine V_y (Y_extract rfl rfl) rfl rfl rfl ?_
              refine V_y (Y_extract rfl rfl) rfl rfl rfl ?_
              refine V_y (Y_extract rfl rfl) rfl rfl rfl ?_
              refine V_y (Y_assign rfl) rfl rfl rfl ?_
              refine V_y (Y_assign rfl) rfl rfl rfl ?_
              refine V_y (Y_assign rfl) rfl rfl rfl ?_
              refine V_to (fun _ _ => rfl) ?_
              refine C_seq ?_
              refine C_seq ?_
              refine C_region ?_
              refine V_y (Y_move rfl) rfl rfl rfl ?_
              refine V_y (Y_sneq rfl rfl) rfl rfl rfl ?_
              refine V_y (Y_move rfl) rfl rfl rfl ?_
              refine V_cut 3 (fun _ : Unit => [(2, .pointer (some ⟨b1, 0, none⟩)), (5, .pointer (some ⟨b10, 0, none⟩)), (6, v16), (9, .func (.func 11) #[] #[.pointer (some ⟨b63, 0, none⟩)]), (13, v99), (31, v16), (32, .int .i64 (x15.length : Int)), (33, .int .i64 (k24 : Int)), (77, .bool ((!(strEq x98.1 (⟨#[112, 97, 117, 115, 101]⟩ : ByteArray))) || (!x98.2.2)))]) (fun _ w' => w101 = w') ?_ ?_
              · simp only [List.take, List.drop]
                rcases Bool.eq_false_or_eq_true (!(strEq x98.1 (⟨#[112, 97, 117, 115, 101]⟩ : ByteArray))) with hc106 | hc106
                · refine V_gn rfl rfl rfl hc106 rfl rfl rfl ?_
                  refine V_gn rfl rfl rfl hc106 rfl rfl rfl ?_
                  refine V_y (Y_pick_te rfl hc106 rfl) rfl rfl rfl ?_
                  exact V_end fun a ha => ⟨(), ha.sub ⟨rfl, rfl, rfl, rfl, rfl, rfl, rfl, rfl, (by rw [hc106]; rfl), trivial⟩, rfl⟩
                · refine V_ge rfl rfl rfl hc106 ?_
                  refine V_y (Y_move rfl) rfl rfl rfl ?_
                  refine V_ge rfl rfl rfl hc106 ?_
                  refine V_y (Y_not rfl) rfl rfl rfl ?_
                  refine V_y (Y_pick_fe rfl hc106 rfl) rfl rfl rfl ?_
                  exact V_end fun a ha => ⟨(), ha.sub ⟨rfl, rfl, rfl, rfl, rfl, rfl, rfl, rfl, (by rw [hc106]; rfl), trivial⟩, rfl⟩
              simp only [List.take, List.drop]
              rintro _ _ rfl
              refine V_to (fun _ _ => rfl) ?_
              refine C_cond rfl (fun hc108 => ?_) (fun hc108 => ?_)
              · rw [if_pos hc108] at h51
                refine C_seq ?_
                refine C_region ?_
                refine V_y (Y_move rfl) rfl rfl rfl ?_
                obtain ⟨x109, hx109, h51⟩ := Option.bind_eq_some_iff.1 h51
                refine V_call Tryz.call11 rfl rfl rfl rfl (portref2_ReadPolicyOf_1_c (Dw := False) w101 hA (k24 : Int) b63 h69 hx109) ?_
                rintro _ w114 ⟨v110, v112, rfl, h111, h113, hk115⟩
                have ht116 := Kp.tr (Dw := False) hk115 hA hB
                replace hH := Hp.kp (Dw := False) hH hk115
                replace h17 := Sl.tr (Dw := False) h17 ht116
                replace h69 := El.tr (Dw := False) h69 ht116
                replace h45 := Sl.tr (Dw := False) h45 ht116
                replace h47 := Sl.tr (Dw := False) h47 ht116
                replace hK := Tr.trans (Dw := False) hK ht116
                replace hr23 := Tr.trans (Dw := False) hr23 ht116
                replace hB := Nat.le_trans hB ht116.ex.size
                replace hA := ht116.new
                refine V_y (Y_extract rfl rfl) rfl rfl rfl ?_
                refine V_y (Y_extract rfl rfl) rfl rfl rfl ?_
                refine V_y (Y_extract rfl rfl) rfl rfl rfl ?_
                have h122 : (v110).oneCell' = true := by obtain ⟨_, _, e, _⟩ := Sl.form h111; rw [e]; rfl
                have h125 : (v112).oneCell' = true := by obtain ⟨_, _, e, _⟩ := Sl.form h113; rw [e]; rfl
                refine V_storeC (Dw := False) (off := 0) (ds := [v110, v112]) hH (i := 4) rfl Tryz.sizeOf25 rfl (Nat.le_of_ble_eq_true rfl) (by exact (List.forall_mem_cons.2 ⟨h122, (List.forall_mem_cons.2 ⟨h125, (fun _ h => nomatch h)⟩)⟩)) rfl hB hA rfl rfl ?_
                intro w117 hH118 ht119
                replace h17 := Sl.tr (Dw := False) h17 ht119
                replace h69 := El.tr (Dw := False) h69 ht119
                replace h111 := Sl.tr (Dw := False) h111 ht119
                replace h113 := Sl.tr (Dw := False) h113 ht119
                replace h45 := Sl.tr (Dw := False) h45 ht119
                replace h47 := Sl.tr (Dw := False) h47 ht119
                replace hK := Tr.trans (Dw := False) hK ht119
                replace hr23 := Tr.trans (Dw := False) hr23 ht119
                replace hB := Nat.le_trans hB ht119.ex.size
                replace hA := ht119.new
                replace hH : Hp w.heap.size A103 w117 (obS (α := Int) 3 v99 x98.2.1 :: obGS gf_level_Level 46 v42 s38.1.levels :: obS (α := Int) 3 v40 s38.1.pauses :: obC b10 [v40, v42] 25 :: obC b1 [v110, v112] 25 :: []) := hH118
                refine V_y (Y_assign rfl) rfl rfl rfl ?_
                refine V_y (Y_assign rfl) rfl rfl rfl ?_
                refine V_to (fun _ _ => rfl) ?_
                obtain rfl := Option.some.inj h51
                obtain rfl := (h52 : Lp.rt _ = _)
                rw [Lp.andThen_rt] at hm
                obtain rfl := Option.some.inj hm
                refine C_ret ?_
                try simp only [↓inBlock_ret, ↓then_ret]
                exact retQ rfl (Res.l3 Tryz.results5 (RL.cell rfl (loadVar_agg (Hp.part (off := 0) (n := 2) (ds := [v110, v112]) hH (i := 4) rfl rfl) Tryz.isAgg25 Tryz.sizeOf25)) (RL.tmp rfl) (RL.tmp rfl)) ⟨v110, v112, rfl, (Sl.out (Dw := False) h111 hA0 hK), (Sl.out (Dw := False) h113 hA0 hK), hK.kp⟩
              · rw [if_neg (nt hc108)] at h51
                refine C_skip_to (fun _ _ => rfl) ?_
                refine C_seq ?_
                refine C_region ?_
                refine V_y (Y_move rfl) rfl rfl rfl ?_
                refine V_y (Y_fieldAddrC (off2 := 0) Tryz.underlying25 rfl Tryz.sizeOf22 (by decide) rfl rfl) rfl rfl rfl ?_
                have h131 : (v99).oneCell' = true := by obtain ⟨_, _, e, _⟩ := Sl.form (Hp.any (α := Int) (e := 3) (v := v99) (l := x98.2.1) hH (i := 0) rfl); rw [e]; rfl
                refine V_storeC (Dw := False) (off := 0) (ds := [v99, v42]) hH (i := 3) rfl Tryz.sizeOf22 (by show (v99 : Value).cells.size = _; rw [← Array.length_toList, Value.cells_one h131]; rfl) (Nat.le_of_ble_eq_true rfl) (by intro u hu; change u ∈ (v99 : Value).cells.toList at hu; rw [Value.cells_one h131] at hu; simp at hu; subst hu; assumption) (by show _ ++ (v99 : Value).cells.toList ++ _ = _; rw [Value.cells_one h131]; rfl) hB hA rfl rfl ?_
                intro w126 hH127 ht128
                replace h17 := Sl.tr (Dw := False) h17 ht128
                replace h45 := Sl.tr (Dw := False) h45 ht128
                replace h47 := Sl.tr (Dw := False) h47 ht128
                replace hK := Tr.trans (Dw := False) hK ht128
                replace hr23 := Tr.trans (Dw := False) hr23 ht128
                replace hB := Nat.le_trans hB ht128.ex.size
                replace hA := ht128.new
                replace hH : Hp w.heap.size A103 w126 (obS (α := Int) 3 v99 x98.2.1 :: obGS gf_level_Level 46 v42 s38.1.levels :: obS (α := Int) 3 v40 s38.1.pauses :: obC b10 [v99, v42] 25 :: obC b1 [v44, v46] 25 :: []) := hH127
                refine V_to (fun _ _ => rfl) ?_
                refine C_exit_to (fun _ _ => rfl) ?_
                refine C_region ?_
                refine V_y (Y_addI rfl rfl) rfl rfl rfl ?_
                refine V_y (Y_move rfl) rfl rfl rfl ?_
                obtain rfl := Option.some.inj h51
                refine V_end (fun a ha132 => ?_)
                replace hH : Hp w.heap.size A103 w126 (obC b1 [v44, v46] 25 :: obS (α := Int) 3 v99 x98.2.1 :: obGS gf_level_Level 46 v42 s38.1.levels :: obS (α := Int) 3 v40 s38.1.pauses :: obC b10 [v99, v42] 25 :: []) := Hp.front hH (i := 4) rfl
                replace hH : Hp w.heap.size A103 w126 (obC b10 [v99, v42] 25 :: obC b1 [v44, v46] 25 :: obS (α := Int) 3 v99 x98.2.1 :: obGS gf_level_Level 46 v42 s38.1.levels :: obS (α := Int) 3 v40 s38.1.pauses :: []) := Hp.front hH (i := 4) rfl
                replace hH : Hp w.heap.size A103 w126 (obS (α := Int) 3 v99 x98.2.1 :: obC b10 [v99, v42] 25 :: obC b1 [v44, v46] 25 :: obGS gf_level_Level 46 v42 s38.1.levels :: obS (α := Int) 3 v40 s38.1.pauses :: []) := Hp.front hH (i := 2) rfl
                replace hH : Hp w.heap.size A103 w126 (obGS gf_level_Level 46 v42 s38.1.levels :: obS (α := Int) 3 v99 x98.2.1 :: obC b10 [v99, v42] 25 :: obC b1 [v44, v46] 25 :: obS (α := Int) 3 v40 s38.1.pauses :: []) := Hp.front hH (i := 3) rfl
                replace hH : Hp w.heap.size A103 w126 (obGS gf_level_Level 46 v42 s38.1.levels :: obS (α := Int) 3 v99 x98.2.1 :: obC b10 [v99, v42] 25 :: obC b1 [v44, v46] 25 :: []) := Hp.drop hH (i := 4) rfl
                exact ⟨((⟨x98.2.1, s38.1.levels⟩ : level_Policy), s38.2), hlt54, h52, ⟨(v99, v42, v44, v46, A103), ha132.sub ⟨rfl, rfl, rfl, rfl, rfl, (congrArg (fun z => some (Value.int .i64 z)) (w64_succ hlt54 hn57)), trivial⟩, ⟨h45, h47, hH, hr23⟩⟩⟩
            · rw [if_neg (nt hc97)] at h51
              refine C_skip_to (fun _ _ => rfl) ?_
              refine C_seq ?_
              refine C_seq ?_
              refine C_region ?_
              refine V_y (Y_move rfl) rfl rfl rfl ?_
              obtain ⟨x133, hx133, h51⟩ := Option.bind_eq_some_iff.1 h51
              refine V_call Tryz.call14 rfl rfl rfl rfl (strings_CutPrefix_c w67 x78.1 (⟨#[108, 101, 118, 101, 108, 32]⟩ : ByteArray) hx133) ?_
              rintro _ _ ⟨rfl, rfl⟩
              refine V_y (Y_move rfl) rfl rfl rfl ?_
              refine V_y (Y_extract rfl rfl) rfl rfl rfl ?_
              refine V_y (Y_extract rfl rfl) rfl rfl rfl ?_
              refine V_y (Y_assign rfl) rfl rfl rfl ?_
              refine V_y (Y_assign rfl) rfl rfl rfl ?_
              refine V_to (fun _ _ => rfl) ?_
              refine C_seq ?_
              refine C_region ?_
              refine V_y (Y_move rfl) rfl rfl rfl ?_
              refine V_to (fun _ _ => rfl) ?_
              refine C_cond rfl (fun hc134 => ?_) (fun hc134 => ?_)
              · rw [if_pos hc134] at h51
                refine C_seq ?_
                refine C_seq ?_
                obtain ⟨s136, ho135, h51⟩ := Option.bind_eq_some_iff.1 h51
                refine C_cutG (ι := (Nat → Prop)) (fun (A141 : (Nat → Prop)) => [(2, .pointer (some ⟨b1, 0, none⟩)), (5, .pointer (some ⟨b10, 0, none⟩)), (6, v16), (9, .func (.func 11) #[] #[.pointer (some ⟨b63, 0, none⟩)]), (15, .string x133.1), (31, v16), (32, .int .i64 (x15.length : Int)), (33, .int .i64 (k24 : Int)), (96, .bool s136)]) (fun (A141 : (Nat → Prop)) => fun w' => Hp w.heap.size A141 w' (obGS gf_level_Level 46 v42 s38.1.levels :: obS (α := Int) 3 v40 s38.1.pauses :: obC b10 [v40, v42] 25 :: obC b1 [v44, v46] 25 :: []) ∧ Tr False w.heap.size A48 w67 A141 w') ?_ ?_
                · have hr137 : Tr False w.heap.size A48 w67 A48 w67 := Tr.refl (Dw := False) hA
                  refine C_region ?_
                  refine V_y (Y_move rfl) rfl rfl rfl ?_
                  refine V_y (Y_seql rfl rfl) rfl rfl rfl ?_
                  refine V_y (Y_move rfl) rfl rfl rfl ?_
                  rcases Bool.eq_false_or_eq_true (strEq x133.1 (⟨#[]⟩ : ByteArray)) with hc143 | hc143
                  · rw [if_pos hc143] at ho135
                    refine V_gn rfl rfl rfl hc143 rfl rfl rfl ?_
                    refine V_gn rfl rfl rfl hc143 rfl rfl rfl ?_
                    refine V_y (Y_pick_te rfl hc143 rfl) rfl rfl rfl ?_
                    obtain rfl := Option.some.inj ho135
                    refine V_end (fun a ha144 => ?_)
                    exact ⟨A48, ha144.sub ⟨rfl, rfl, rfl, rfl, rfl, rfl, rfl, rfl, rfl, trivial⟩, ⟨hH, hr137⟩⟩
                  · rw [if_neg (nt hc143)] at ho135
                    refine V_ge rfl rfl rfl hc143 ?_
                    refine V_y (Y_move rfl) rfl rfl rfl ?_
                    refine V_ge rfl rfl rfl hc143 ?_
                    obtain ⟨x145, hx145, ho135⟩ := Option.bind_eq_some_iff.1 ho135
                    refine V_call Tryz.call15 rfl rfl rfl rfl (strings_Contains_c (Dw := False) w67 hA x133.1 (⟨#[32]⟩ : ByteArray) hx145) ?_
                    rintro _ w146 ⟨rfl, hk147⟩
                    have ht148 := Kp.tr (Dw := False) hk147 hA hB
                    replace hH := Hp.kp (Dw := False) hH hk147
                    replace h17 := Sl.tr (Dw := False) h17 ht148
                    replace h69 := El.tr (Dw := False) h69 ht148
                    replace h45 := Sl.tr (Dw := False) h45 ht148
                    replace h47 := Sl.tr (Dw := False) h47 ht148
                    replace hK := Tr.trans (Dw := False) hK ht148
                    replace hr23 := Tr.trans (Dw := False) hr23 ht148
                    replace hr137 := Tr.trans (Dw := False) hr137 ht148
                    replace hB := Nat.le_trans hB ht148.ex.size
                    replace hA := ht148.new
                    refine V_y (Y_pick_fe rfl hc143 rfl) rfl rfl rfl ?_
                    obtain rfl := Option.some.inj ho135
                    refine V_end (fun a ha149 => ?_)
                    exact ⟨A48, ha149.sub ⟨rfl, rfl, rfl, rfl, rfl, rfl, rfl, rfl, rfl, trivial⟩, ⟨hH, hr137⟩⟩
                rintro A141 w138 ⟨hH142, hk139⟩ a ha140
                replace h17 := Sl.tr (Dw := False) h17 hk139
                replace h69 := El.tr (Dw := False) h69 hk139
                replace h45 := Sl.tr (Dw := False) h45 hk139
                replace h47 := Sl.tr (Dw := False) h47 hk139
                replace hK := Tr.trans (Dw := False) hK hk139
                replace hr23 := Tr.trans (Dw := False) hr23 hk139
                replace hB := Nat.le_trans hB hk139.ex.size
                replace hA := hk139.new
                replace hH : Hp w.heap.size A141 w138 (obGS gf_level_Level 46 v42 s38.1.levels :: obS (α := Int) 3 v40 s38.1.pauses :: obC b10 [v40, v42] 25 :: obC b1 [v44, v46] 25 :: []) := hH142
                refine C_at (n := ⟨202, [], none⟩) (fun _ _ => rfl) ?_ ha140
                refine C_cond rfl (fun hc150 => ?_) (fun hc150 => ?_)
                · rw [if_pos hc150] at h51
                  refine C_seq ?_
                  refine C_region ?_
                  refine V_y (Y_move rfl) rfl rfl rfl ?_
                  obtain ⟨x151, hx151, h51⟩ := Option.bind_eq_some_iff.1 h51
                  refine V_call Tryz.call11 rfl rfl rfl rfl (portref2_ReadPolicyOf_1_c (Dw := False) w138 hA (k24 : Int) b63 h69 hx151) ?_
                  rintro _ w156 ⟨v152, v154, rfl, h153, h155, hk157⟩
                  have ht158 := Kp.tr (Dw := False) hk157 hA hB
                  replace hH := Hp.kp (Dw := False) hH hk157
                  replace h17 := Sl.tr (Dw := False) h17 ht158
                  replace h69 := El.tr (Dw := False) h69 ht158
                  replace h45 := Sl.tr (Dw := False) h45 ht158
                  replace h47 := Sl.tr (Dw := False) h47 ht158
                  replace hK := Tr.trans (Dw := False) hK ht158
                  replace hr23 := Tr.trans (Dw := False) hr23 ht158
                  replace hB := Nat.le_trans hB ht158.ex.size
                  replace hA := ht158.new
                  refine V_y (Y_extract rfl rfl) rfl rfl rfl ?_
                  refine V_y (Y_extract rfl rfl) rfl rfl rfl ?_
                  refine V_y (Y_extract rfl rfl) rfl rfl rfl ?_
                  have h164 : (v152).oneCell' = true := by obtain ⟨_, _, e, _⟩ := Sl.form h153; rw [e]; rfl
                  have h167 : (v154).oneCell' = true := by obtain ⟨_, _, e, _⟩ := Sl.form h155; rw [e]; rfl
                  refine V_storeC (Dw := False) (off := 0) (ds := [v152, v154]) hH (i := 3) rfl Tryz.sizeOf25 rfl (Nat.le_of_ble_eq_true rfl) (by exact (List.forall_mem_cons.2 ⟨h164, (List.forall_mem_cons.2 ⟨h167, (fun _ h => nomatch h)⟩)⟩)) rfl hB hA rfl rfl ?_
                  intro w159 hH160 ht161
                  replace h17 := Sl.tr (Dw := False) h17 ht161
                  replace h69 := El.tr (Dw := False) h69 ht161
                  replace h153 := Sl.tr (Dw := False) h153 ht161
                  replace h155 := Sl.tr (Dw := False) h155 ht161
                  replace h45 := Sl.tr (Dw := False) h45 ht161
                  replace h47 := Sl.tr (Dw := False) h47 ht161
                  replace hK := Tr.trans (Dw := False) hK ht161
                  replace hr23 := Tr.trans (Dw := False) hr23 ht161
                  replace hB := Nat.le_trans hB ht161.ex.size
                  replace hA := ht161.new
                  replace hH : Hp w.heap.size A141 w159 (obGS gf_level_Level 46 v42 s38.1.levels :: obS (α := Int) 3 v40 s38.1.pauses :: obC b10 [v40, v42] 25 :: obC b1 [v152, v154] 25 :: []) := hH160
                  refine V_y (Y_assign rfl) rfl rfl rfl ?_
                  refine V_y (Y_assign rfl) rfl rfl rfl ?_
                  refine V_to (fun _ _ => rfl) ?_
                  obtain rfl := Option.some.inj h51
                  obtain rfl := (h52 : Lp.rt _ = _)
                  rw [Lp.andThen_rt] at hm
                  obtain rfl := Option.some.inj hm
                  refine C_ret ?_
                  try simp only [↓inBlock_ret, ↓then_ret]
                  exact retQ rfl (Res.l3 Tryz.results5 (RL.cell rfl (loadVar_agg (Hp.part (off := 0) (n := 2) (ds := [v152, v154]) hH (i := 3) rfl rfl) Tryz.isAgg25 Tryz.sizeOf25)) (RL.tmp rfl) (RL.tmp rfl)) ⟨v152, v154, rfl, (Sl.out (Dw := False) h153 hA0 hK), (Sl.out (Dw := False) h155 hA0 hK), hK.kp⟩
                · rw [if_neg (nt hc150)] at h51
                  refine C_skip_to (fun _ _ => rfl) ?_
                  refine C_seq ?_
                  refine C_region ?_
                  refine V_y (Y_fieldAddrC (off2 := 1) Tryz.underlying25 rfl Tryz.sizeOf23 (by decide) rfl rfl) rfl rfl rfl ?_
                  refine V_y (Y_load (Hp.cell (j := 1) hH (i := 2) rfl rfl) Tryz.isAgg23 rfl) rfl rfl rfl ?_
                  refine V_y (Y_move rfl) rfl rfl rfl ?_
                  refine V_y (Y_build Tryz.underlying46 Tryz.zeroValue46 (Tryz_places46 _ Tryz.underlying46) rfl (by with_unfolding_all rfl)) rfl rfl rfl ?_
                  refine V_buildSlice (Dw := False) (cells := #[.string x133.1, .slice none 0 0, .slice none 0 0]) (l := [(⟨x133.1, ⟨.slice none 0 0, rfl⟩, ⟨.slice none 0 0, rfl⟩⟩ : level_LevelV)]) (len := 1) Tryz.underlying23 Tryz.sizeOf46 Tryz.zeroValue46 rfl (by kernel_rfl) (show (1 * 3 : Nat) ≠ 0 by decide) (show (1 * 3 : Nat) ≤ 2 ^ 24 by decide) hA ⟨[.string x133.1, .slice none 0 0, .slice none 0 0], _, rfl, ⟨[.string x133.1], _, rfl, rfl, ⟨[.slice none 0 0], _, rfl, rfl, rfl⟩⟩, rfl⟩ rfl rfl ?_
                  intro v168 w169 hk171 h170
                  have ht172 := Kp.tr (Dw := False) hk171 hA hB
                  replace hH := Hp.kp (Dw := False) hH hk171
                  replace h17 := Sl.tr (Dw := False) h17 ht172
                  replace h45 := Sl.tr (Dw := False) h45 ht172
                  replace h47 := Sl.tr (Dw := False) h47 ht172
                  replace hK := Tr.trans (Dw := False) hK ht172
                  replace hr23 := Tr.trans (Dw := False) hr23 ht172
                  replace hB := Nat.le_trans hB ht172.ex.size
                  replace hA := ht172.new
                  obtain ⟨x173, hx173, h51⟩ := Option.bind_eq_some_iff.1 h51
                  refine V_appendGS (Dw := False) (f := gf_level_Level) (e := 46) (v := v42) (l := s38.1.levels) (ti := Tryz.t46) (bytes := 64) (lim := 2199023255552) hH (i := 0) rfl h170 (gf_level_Level_bare (y := (⟨x133.1, ⟨.slice none 0 0, rfl⟩, ⟨.slice none 0 0, rfl⟩⟩ : level_LevelV)) (x := (⟨x133.1, ([] : (List level_Test)), ([] : (List level_Target))⟩ : level_Level)) rfl rfl rfl rfl rfl) hx173 Tryz.underlying23 Tryz_info46 rfl rfl rfl rfl (by decide) (by decide) (by decide) hB hA rfl rfl rfl ?_
                  intro v174 w175 A176 hH177 ht178
                  replace h17 := Sl.tr (Dw := False) h17 ht178
                  replace h170 := Sl.tr (Dw := False) h170 ht178
                  replace h45 := Sl.tr (Dw := False) h45 ht178
                  replace h47 := Sl.tr (Dw := False) h47 ht178
                  replace hK := Tr.trans (Dw := False) hK ht178
                  replace hr23 := Tr.trans (Dw := False) hr23 ht178
                  replace hB := Nat.le_trans hB ht178.ex.size
                  replace hA := ht178.new
                  replace hH : Hp w.heap.size A176 w175 (obGS gf_level_Level 46 v174 x173 :: obS (α := Int) 3 v40 s38.1.pauses :: obC b10 [v40, v42] 25 :: obC b1 [v44, v46] 25 :: []) := hH177
                  refine V_y (Y_fieldAddrC (off2 := 1) Tryz.underlying25 rfl Tryz.sizeOf23 (by decide) rfl rfl) rfl rfl rfl ?_
                  have h184 : (v174).oneCell' = true := by obtain ⟨_, _, e, _⟩ := Sl.form (Hp.anyGS (f := gf_level_Level) (e := 46) (v := v174) (l := x173) hH (i := 0) rfl); rw [e]; rfl
                  refine V_storeC (Dw := False) (off := 1) (ds := [v40, v174]) hH (i := 2) rfl Tryz.sizeOf23 (by show (v174 : Value).cells.size = _; rw [← Array.length_toList, Value.cells_one h184]; rfl) (Nat.le_of_ble_eq_true rfl) (by intro u hu; change u ∈ (v174 : Value).cells.toList at hu; rw [Value.cells_one h184] at hu; simp at hu; subst hu; assumption) (by show _ ++ (v174 : Value).cells.toList ++ _ = _; rw [Value.cells_one h184]; rfl) hB hA rfl rfl ?_
                  intro w179 hH180 ht181
                  replace h17 := Sl.tr (Dw := False) h17 ht181
                  replace h170 := Sl.tr (Dw := False) h170 ht181
                  replace h45 := Sl.tr (Dw := False) h45 ht181
                  replace h47 := Sl.tr (Dw := False) h47 ht181
                  replace hK := Tr.trans (Dw := False) hK ht181
                  replace hr23 := Tr.trans (Dw := False) hr23 ht181
                  replace hB := Nat.le_trans hB ht181.ex.size
                  replace hA := ht181.new
                  replace hH : Hp w.heap.size A176 w179 (obGS gf_level_Level 46 v174 x173 :: obS (α := Int) 3 v40 s38.1.pauses :: obC b10 [v40, v174] 25 :: obC b1 [v44, v46] 25 :: []) := hH180
                  refine V_to (fun _ _ => rfl) ?_
                  refine C_exit_to (fun _ _ => rfl) ?_
                  refine C_region ?_
                  refine V_y (Y_addI rfl rfl) rfl rfl rfl ?_
                  refine V_y (Y_move rfl) rfl rfl rfl ?_
                  obtain rfl := Option.some.inj h51
                  refine V_end (fun a ha185 => ?_)
                  exact ⟨((⟨s38.1.pauses, x173⟩ : level_Policy), s38.2), hlt54, h52, ⟨(v40, v174, v44, v46, A176), ha185.sub ⟨rfl, rfl, rfl, rfl, rfl, (congrArg (fun z => some (Value.int .i64 z)) (w64_succ hlt54 hn57)), trivial⟩, ⟨h45, h47, hH, hr23⟩⟩⟩
              · rw [if_neg (nt hc134)] at h51
                refine C_skip_to (fun _ _ => rfl) ?_
                refine C_seq ?_
                refine C_seq ?_
                refine C_region ?_
                refine V_y (Y_fieldAddrC (off2 := 1) Tryz.underlying25 rfl Tryz.sizeOf23 (by decide) rfl rfl) rfl rfl rfl ?_
                refine V_y (Y_load (Hp.cell (j := 1) hH (i := 2) rfl rfl) Tryz.isAgg23 rfl) rfl rfl rfl ?_
                refine V_y (Y_lenSl (Hp.anyGS (f := gf_level_Level) (e := 46) (v := v42) (l := s38.1.levels) hH (i := 0) rfl) rfl Tryz.underlying23 rfl) rfl rfl rfl ?_
                refine V_y (Y_eql rfl rfl) rfl rfl rfl ?_
                refine V_to (fun _ _ => rfl) ?_
                refine C_cond rfl (fun hc186 => ?_) (fun hc186 => ?_)
                · rw [if_pos hc186] at h51
                  refine C_seq ?_
                  refine C_region ?_
                  refine V_y (Y_move rfl) rfl rfl rfl ?_
                  obtain ⟨x187, hx187, h51⟩ := Option.bind_eq_some_iff.1 h51
                  refine V_call Tryz.call11 rfl rfl rfl rfl (portref2_ReadPolicyOf_1_c (Dw := False) w67 hA (k24 : Int) b63 h69 hx187) ?_
                  rintro _ w192 ⟨v188, v190, rfl, h189, h191, hk193⟩
                  have ht194 := Kp.tr (Dw := False) hk193 hA hB
                  replace hH := Hp.kp (Dw := False) hH hk193
                  replace h17 := Sl.tr (Dw := False) h17 ht194
                  replace h69 := El.tr (Dw := False) h69 ht194
                  replace h45 := Sl.tr (Dw := False) h45 ht194
                  replace h47 := Sl.tr (Dw := False) h47 ht194
                  replace hK := Tr.trans (Dw := False) hK ht194
                  replace hr23 := Tr.trans (Dw := False) hr23 ht194
                  replace hB := Nat.le_trans hB ht194.ex.size
                  replace hA := ht194.new
                  refine V_y (Y_extract rfl rfl) rfl rfl rfl ?_
                  refine V_y (Y_extract rfl rfl) rfl rfl rfl ?_
                  refine V_y (Y_extract rfl rfl) rfl rfl rfl ?_
                  have h200 : (v188).oneCell' = true := by obtain ⟨_, _, e, _⟩ := Sl.form h189; rw [e]; rfl
                  have h203 : (v190).oneCell' = true := by obtain ⟨_, _, e, _⟩ := Sl.form h191; rw [e]; rfl
                  refine V_storeC (Dw := False) (off := 0) (ds := [v188, v190]) hH (i := 3) rfl Tryz.sizeOf25 rfl (Nat.le_of_ble_eq_true rfl) (by exact (List.forall_mem_cons.2 ⟨h200, (List.forall_mem_cons.2 ⟨h203, (fun _ h => nomatch h)⟩)⟩)) rfl hB hA rfl rfl ?_
                  intro w195 hH196 ht197
                  replace h17 := Sl.tr (Dw := False) h17 ht197
                  replace h69 := El.tr (Dw := False) h69 ht197
                  replace h189 := Sl.tr (Dw := False) h189 ht197
                  replace h191 := Sl.tr (Dw := False) h191 ht197
                  replace h45 := Sl.tr (Dw := False) h45 ht197
                  replace h47 := Sl.tr (Dw := False) h47 ht197
                  replace hK := Tr.trans (Dw := False) hK ht197
                  replace hr23 := Tr.trans (Dw := False) hr23 ht197
                  replace hB := Nat.le_trans hB ht197.ex.size
                  replace hA := ht197.new
                  replace hH : Hp w.heap.size A48 w195 (obGS gf_level_Level 46 v42 s38.1.levels :: obS (α := Int) 3 v40 s38.1.pauses :: obC b10 [v40, v42] 25 :: obC b1 [v188, v190] 25 :: []) := hH196
                  refine V_y (Y_assign rfl) rfl rfl rfl ?_
                  refine V_y (Y_assign rfl) rfl rfl rfl ?_
                  refine V_to (fun _ _ => rfl) ?_
                  obtain rfl := Option.some.inj h51
                  obtain rfl := (h52 : Lp.rt _ = _)
                  rw [Lp.andThen_rt] at hm
                  obtain rfl := Option.some.inj hm
                  refine C_ret ?_
                  try simp only [↓inBlock_ret, ↓then_ret]
                  exact retQ rfl (Res.l3 Tryz.results5 (RL.cell rfl (loadVar_agg (Hp.part (off := 0) (n := 2) (ds := [v188, v190]) hH (i := 3) rfl rfl) Tryz.isAgg25 Tryz.sizeOf25)) (RL.tmp rfl) (RL.tmp rfl)) ⟨v188, v190, rfl, (Sl.out (Dw := False) h189 hA0 hK), (Sl.out (Dw := False) h191 hA0 hK), hK.kp⟩
                · rw [if_neg (nt hc186)] at h51
                  refine C_skip_to (fun _ _ => rfl) ?_
                  refine C_seq ?_
                  refine C_region ?_
                  refine V_y (Y_fieldAddrC (off2 := 1) Tryz.underlying25 rfl Tryz.sizeOf23 (by decide) rfl rfl) rfl rfl rfl ?_
                  refine V_y (Y_load (Hp.cell (j := 1) hH (i := 2) rfl rfl) Tryz.isAgg23 rfl) rfl rfl rfl ?_
                  refine V_y (Y_fieldAddrC (off2 := 1) Tryz.underlying25 rfl Tryz.sizeOf23 (by decide) rfl rfl) rfl rfl rfl ?_
                  refine V_y (Y_load (Hp.cell (j := 1) hH (i := 2) rfl rfl) Tryz.isAgg23 rfl) rfl rfl rfl ?_
                  refine V_y (Y_lenSl (Hp.anyGS (f := gf_level_Level) (e := 46) (v := v42) (l := s38.1.levels) hH (i := 0) rfl) rfl Tryz.underlying23 rfl) rfl rfl rfl ?_
                  refine V_y (Y_subI rfl rfl) rfl rfl rfl ?_
                  obtain ⟨x204, hx204, h51⟩ := Option.bind_eq_some_iff.1 h51
                  refine V_indexAddrGS (f := gf_level_Level) (e := 46) (v := v42) (l := s38.1.levels) hH (i := 0) rfl hx204 Tryz.underlying23 Tryz.sizeOf46 rfl rfl rfl ?_
                  intro b205 o206 h207 hl208
                  refine V_y (Y_assign rfl) rfl rfl rfl ?_
                  refine V_to (fun _ _ => rfl) ?_
                  refine C_seq ?_
                  refine C_seq ?_
                  refine C_region ?_
                  refine V_y (Y_move rfl) rfl rfl rfl ?_
                  obtain ⟨x209, hx209, h51⟩ := Option.bind_eq_some_iff.1 h51
                  refine V_call Tryz.call16 rfl rfl rfl rfl (portref2_readTest_c w67 hA (Fz.tr (Dw := False) hT hK) x78.1 hx209) ?_
                  rintro _ w210 ⟨rfl, hk211⟩
                  have ht212 := Kp.tr (Dw := False) hk211 hA hB
                  replace hH := Hp.kp (Dw := False) hH hk211
                  replace h17 := Sl.tr (Dw := False) h17 ht212
                  replace h69 := El.tr (Dw := False) h69 ht212
                  replace h207 := El.kp (Dw := False) h207 hk211
                  replace h45 := Sl.tr (Dw := False) h45 ht212
                  replace h47 := Sl.tr (Dw := False) h47 ht212
                  replace hK := Tr.trans (Dw := False) hK ht212
                  replace hr23 := Tr.trans (Dw := False) hr23 ht212
                  replace hB := Nat.le_trans hB ht212.ex.size
                  replace hA := ht212.new
                  refine V_y (Y_move rfl) rfl rfl rfl ?_
                  refine V_y (Y_extract rfl rfl) rfl rfl rfl ?_
                  refine V_y (Y_extract rfl rfl) rfl rfl rfl ?_
                  refine V_alloc Tryz.zeroValue51 rfl ?_
                  intro b213 w214 h215
                  refine V_storeNew h215 Tryz.sizeOf51 rfl rfl rfl rfl (by exact (List.forall_mem_cons.2 ⟨rfl, (List.forall_mem_cons.2 ⟨rfl, (List.forall_mem_cons.2 ⟨rfl, (List.forall_mem_cons.2 ⟨rfl, (fun _ h => nomatch h)⟩)⟩)⟩)⟩)) ?_
                  intro w216 h217
                  have hk219 := h217.kp (Dw := False)
                  have h218 : El (α := level_Test) A48 w216 b213 0 x209.1 := h217.el hA ⟨[.int .i64 x209.1.field], _, rfl, rfl, ⟨[.int .i64 x209.1.value.kind], _, rfl, rfl, ⟨[.int .i64 x209.1.value.int], _, rfl, rfl, rfl⟩⟩⟩
                  have ht220 := Kp.tr (Dw := False) hk219 hA hB
                  replace hH := Hp.kp (Dw := False) hH hk219
                  replace h17 := Sl.tr (Dw := False) h17 ht220
                  replace h69 := El.tr (Dw := False) h69 ht220
                  replace h207 := El.kp (Dw := False) h207 hk219
                  replace h45 := Sl.tr (Dw := False) h45 ht220
                  replace h47 := Sl.tr (Dw := False) h47 ht220
                  replace hK := Tr.trans (Dw := False) hK ht220
                  replace hr23 := Tr.trans (Dw := False) hr23 ht220
                  replace hB := Nat.le_trans hB ht220.ex.size
                  replace hA := ht220.new
                  refine V_y (Y_assign rfl) rfl rfl rfl ?_
                  refine V_to (fun _ _ => rfl) ?_
                  refine C_seq ?_
                  refine C_region ?_
                  refine V_y (Y_move rfl) rfl rfl rfl ?_
                  refine V_to (fun _ _ => rfl) ?_
                  refine C_cond rfl (fun hc221 => ?_) (fun hc221 => ?_)
                  · rw [if_pos hc221] at h51
                    refine C_seq ?_
                    refine C_seq ?_
                    refine C_region ?_
                    refine V_y (Y_move rfl) rfl rfl rfl ?_
                    refine V_y (Y_nilCheck rfl) rfl rfl rfl ?_
                    have h222 := El_level_Level_2 h207
                    refine V_y (Y_fieldAddr Tryz.underlying46 rfl Tryz.sizeOf44 (by decide) rfl) rfl rfl rfl ?_
                    obtain ⟨v223, h224, h225⟩ := El.list h222
                    refine V_y (Y_load h224 Tryz.isAgg44 rfl) rfl rfl rfl ?_
                    refine V_y (Y_lenSl h225 rfl Tryz.underlying44 rfl) rfl rfl rfl ?_
                    refine V_y (Y_gtr rfl rfl) rfl rfl rfl ?_
                    refine V_to (fun _ _ => rfl) ?_
                    refine C_cond rfl (fun hc226 => ?_) (fun hc226 => ?_)
                    · rw [if_pos hc226] at h51
                      refine C_seq ?_
                      refine C_region ?_
                      refine V_y (Y_move rfl) rfl rfl rfl ?_
                      obtain ⟨x227, hx227, h51⟩ := Option.bind_eq_some_iff.1 h51
                      refine V_call Tryz.call11 rfl rfl rfl rfl (portref2_ReadPolicyOf_1_c (Dw := False) w216 hA (k24 : Int) b63 h69 hx227) ?_
                      rintro _ w232 ⟨v228, v230, rfl, h229, h231, hk233⟩
                      have ht234 := Kp.tr (Dw := False) hk233 hA hB
                      replace hH := Hp.kp (Dw := False) hH hk233
                      replace h17 := Sl.tr (Dw := False) h17 ht234
                      replace h69 := El.tr (Dw := False) h69 ht234
                      replace h207 := El.kp (Dw := False) h207 hk233
                      replace h218 := El.tr (Dw := False) h218 ht234
                      replace h45 := Sl.tr (Dw := False) h45 ht234
                      replace h47 := Sl.tr (Dw := False) h47 ht234
                      replace hK := Tr.trans (Dw := False) hK ht234
                      replace hr23 := Tr.trans (Dw := False) hr23 ht234
                      replace hB := Nat.le_trans hB ht234.ex.size
                      replace hA := ht234.new
                      refine V_y (Y_extract rfl rfl) rfl rfl rfl ?_
                      refine V_y (Y_extract rfl rfl) rfl rfl rfl ?_
                      refine V_y (Y_extract rfl rfl) rfl rfl rfl ?_
                      have h240 : (v228).oneCell' = true := by obtain ⟨_, _, e, _⟩ := Sl.form h229; rw [e]; rfl
                      have h243 : (v230).oneCell' = true := by obtain ⟨_, _, e, _⟩ := Sl.form h231; rw [e]; rfl
                      refine V_storeC (Dw := False) (off := 0) (ds := [v228, v230]) hH (i := 3) rfl Tryz.sizeOf25 rfl (Nat.le_of_ble_eq_true rfl) (by exact (List.forall_mem_cons.2 ⟨h240, (List.forall_mem_cons.2 ⟨h243, (fun _ h => nomatch h)⟩)⟩)) rfl hB hA rfl rfl ?_
                      intro w235 hH236 ht237
                      replace h17 := Sl.tr (Dw := False) h17 ht237
                      replace h69 := El.tr (Dw := False) h69 ht237
                      replace h218 := El.tr (Dw := False) h218 ht237
                      replace h229 := Sl.tr (Dw := False) h229 ht237
                      replace h231 := Sl.tr (Dw := False) h231 ht237
                      replace h45 := Sl.tr (Dw := False) h45 ht237
                      replace h47 := Sl.tr (Dw := False) h47 ht237
                      replace hK := Tr.trans (Dw := False) hK ht237
                      replace hr23 := Tr.trans (Dw := False) hr23 ht237
                      replace hB := Nat.le_trans hB ht237.ex.size
                      replace hA := ht237.new
                      replace hH : Hp w.heap.size A48 w235 (obGS gf_level_Level 46 v42 s38.1.levels :: obS (α := Int) 3 v40 s38.1.pauses :: obC b10 [v40, v42] 25 :: obC b1 [v228, v230] 25 :: []) := hH236
                      refine V_y (Y_assign rfl) rfl rfl rfl ?_
                      refine V_y (Y_assign rfl) rfl rfl rfl ?_
                      refine V_to (fun _ _ => rfl) ?_
                      obtain rfl := Option.some.inj h51
                      obtain rfl := (h52 : Lp.rt _ = _)
                      rw [Lp.andThen_rt] at hm
                      obtain rfl := Option.some.inj hm
                      refine C_ret ?_
                      try simp only [↓inBlock_ret, ↓then_ret]
                      exact retQ rfl (Res.l3 Tryz.results5 (RL.cell rfl (loadVar_agg (Hp.part (off := 0) (n := 2) (ds := [v228, v230]) hH (i := 3) rfl rfl) Tryz.isAgg25 Tryz.sizeOf25)) (RL.tmp rfl) (RL.tmp rfl)) ⟨v228, v230, rfl, (Sl.out (Dw := False) h229 hA0 hK), (Sl.out (Dw := False) h231 hA0 hK), hK.kp⟩
                    · rw [if_neg (nt hc226)] at h51
                      refine C_skip_to (fun _ _ => rfl) ?_
                      refine C_seq ?_
                      refine C_region_ch (Dw := False) A48 11 [(1, 0), (1, 1), (1, 2), (1, 3), (0, 4), (1, 5), (2, 6), (4, 7), (1, 8), (1, 9), (4, 10)] Tryz_mixed (by kernel_rfl) (fun w244 hk245 => ?_)
                      have ht246 := Kp.tr (Dw := False) hk245 hA hB
                      replace hH := Hp.kp (Dw := False) hH hk245
                      replace h17 := Sl.tr (Dw := False) h17 ht246
                      replace h207 := El.kp (Dw := False) h207 hk245
                      replace h218 := El.tr (Dw := False) h218 ht246
                      replace h45 := Sl.tr (Dw := False) h45 ht246
                      replace h47 := Sl.tr (Dw := False) h47 ht246
                      replace hK := Tr.trans (Dw := False) hK ht246
                      replace hr23 := Tr.trans (Dw := False) hr23 ht246
                      replace hB := Nat.le_trans hB ht246.ex.size
                      replace hA := ht246.new
                      refine CH_q2 (Dw := False) rfl ?_
                      refine VQ_y (fun w' hw' => Y_move rfl) rfl rfl rfl ?_
                      refine VQ_CH (Dw := False) ?_
                      refine CH_q2 (Dw := False) rfl ?_
                      refine VQ_y (fun w' hw' => Y_move rfl) rfl rfl rfl ?_
                      refine VQ_CH (Dw := False) ?_
                      refine CH_q2 (Dw := False) rfl ?_
                      refine VQ_y (fun w' hw' => Y_nilCheck rfl) rfl rfl rfl ?_
                      refine VQ_CH (Dw := False) ?_
                      refine CH_q2 (Dw := False) rfl ?_
                      have h247 := El_level_Level_1 h207
                      refine VQ_y (fun w' hw' => Y_fieldAddr Tryz.underlying46 rfl Tryz.sizeOf43 (by decide) rfl) rfl rfl rfl ?_
                      refine VQ_CH (Dw := False) ?_
                      refine CH_q1 (Dw := False) rfl ?_
                      obtain ⟨v248, h249, h250⟩ := El.list h247
                      refine VQ_y (fun w' hw' => Y_load ((World.cell?_of_block (hw'.block _ (World.block_lt_of_cell? _ _ h249))).trans h249) Tryz.isAgg43 rfl) rfl rfl rfl ?_
                      refine VQ_CH (Dw := False) ?_
                      refine CH_q2 (Dw := False) rfl ?_
                      obtain ⟨h251, _⟩ := El_level_Test h218
                      refine VQ_y (fun w' hw' => Y_loadA (At.same h251 (hw'.2 _ h218.2.1 h218.1)) Tryz.isAgg51 Tryz.sizeOf51 rfl) rfl rfl rfl ?_
                      refine VQ_CH (Dw := False) ?_
                      refine CH_l1 (Dw := False) (k := 0) rfl ?_
                      refine V_buildSlice (Dw := False) (cells := #[.int .i64 x209.1.field, .int .i64 x209.1.value.kind, .int .i64 x209.1.value.int, .string x209.1.value.text]) (l := ([x209.1] : List level_Test)) (len := 1) Tryz.underlying43 Tryz.sizeOf51 Tryz.zeroValue51 rfl (by kernel_rfl) (show (1 * 4 : Nat) ≠ 0 by decide) (show (1 * 4 : Nat) ≤ 2 ^ 24 by decide) hA ⟨[.int .i64 x209.1.field, .int .i64 x209.1.value.kind, .int .i64 x209.1.value.int, .string x209.1.value.text], _, rfl, ⟨[.int .i64 x209.1.field], _, rfl, rfl, ⟨[.int .i64 x209.1.value.kind], _, rfl, rfl, ⟨[.int .i64 x209.1.value.int], _, rfl, rfl, rfl⟩⟩⟩, rfl⟩ rfl rfl ?_
                      intro v252 w253 hk255 h254
                      have ht256 := Kp.tr (Dw := False) hk255 hA hB
                      replace hH := Hp.kp (Dw := False) hH hk255
                      replace h17 := Sl.tr (Dw := False) h17 ht256
                      replace h207 := El.kp (Dw := False) h207 hk255
                      replace h218 := El.tr (Dw := False) h218 ht256
                      replace h247 := El.kp (Dw := False) h247 hk255
                      replace h250 := Sl.kp (Dw := False) h250 hk255
                      replace h249 := cell_kp (Dw := False) h249 hk255
                      replace h45 := Sl.tr (Dw := False) h45 ht256
                      replace h47 := Sl.tr (Dw := False) h47 ht256
                      replace hK := Tr.trans (Dw := False) hK ht256
                      replace hr23 := Tr.trans (Dw := False) hr23 ht256
                      replace hB := Nat.le_trans hB ht256.ex.size
                      replace hA := ht256.new
                      refine V_CH (Dw := False) (hk255) ?_
                      refine CH_l1 (Dw := False) (k := 2) rfl ?_
                      obtain ⟨ys257, y258, hl259, hy260, hv261, hH⟩ := Hp.gsAt (f := gf_level_Level) (e := 46) (v := v42) (l := s38.1.levels) (p := fun z => z.tests) hH (i := 0) rfl hx204 hl208 (fun h => El_level_LevelV_1 h) h249
                      obtain ⟨hq262, hH⟩ := gf_level_Level_open (hH.front (i := 1) rfl)
                      replace hv261 : y258.tests.v = v248 := hv261
                      rw [hv261] at hH
                      replace hH : Hp w.heap.size A48 w253 (obS (α := level_Test) 51 v248 x204.tests :: obS (α := level_Target) 56 y258.targets.v x204.targets :: obS (α := level_LevelV) 46 v42 ys257 :: obYX gf_level_Level ys257 s38.1.levels (Int.toNat (w64 ((s38.1.levels.length : Int) - 1))) :: obS (α := Int) 3 v40 s38.1.pauses :: obC b10 [v40, v42] 25 :: obC b1 [v44, v46] 25 :: []) := hH
                      obtain ⟨x263, hx263, h51⟩ := Option.bind_eq_some_iff.1 h51
                      refine V_appendH (Dw := False) (e := 51) (v := v248) (l := x204.tests) (ti := Tryz.t51) (bytes := 40) (lim := 3518437208883) hH (i := 0) rfl h254 hx263 Tryz.underlying43 Tryz_info51 rfl rfl rfl rfl (by decide) (by decide) (by decide) hB hA rfl rfl rfl ?_
                      intro v264 w265 A266 hH267 ht268
                      replace h17 := Sl.tr (Dw := False) h17 ht268
                      replace h218 := El.tr (Dw := False) h218 ht268
                      replace h254 := Sl.tr (Dw := False) h254 ht268
                      replace h45 := Sl.tr (Dw := False) h45 ht268
                      replace h47 := Sl.tr (Dw := False) h47 ht268
                      replace hK := Tr.trans (Dw := False) hK ht268
                      replace hr23 := Tr.trans (Dw := False) hr23 ht268
                      replace hB := Nat.le_trans hB ht268.ex.size
                      replace hA := ht268.new
                      replace hH : Hp w.heap.size A266 w265 (obS (α := level_Test) 51 v264 x263 :: obS (α := level_Target) 56 y258.targets.v x204.targets :: obS (α := level_LevelV) 46 v42 ys257 :: obYX gf_level_Level ys257 s38.1.levels (Int.toNat (w64 ((s38.1.levels.length : Int) - 1))) :: obS (α := Int) 3 v40 s38.1.pauses :: obC b10 [v40, v42] 25 :: obC b1 [v44, v46] 25 :: []) := hH267
                      refine V_CHw (Dw := False) ?_
                      refine CH_q2 (Dw := False) rfl ?_
                      refine VQ_y (fun w' hw' => Y_nilCheck rfl) rfl rfl rfl ?_
                      refine VQ_CH (Dw := False) ?_
                      refine CH_q2 (Dw := False) rfl ?_
                      refine VQ_y (fun w' hw' => Y_fieldAddr Tryz.underlying46 rfl Tryz.sizeOf43 (by decide) rfl) rfl rfl rfl ?_
                      refine VQ_CH (Dw := False) ?_
                      refine CH_l1 (Dw := False) (k := 2) rfl ?_
                      replace hH : Hp w.heap.size A266 w265 (obYX gf_level_Level ys257 s38.1.levels (Int.toNat (w64 ((s38.1.levels.length : Int) - 1))) :: obS (α := level_Test) 51 v264 x263 :: obS (α := level_Target) 56 y258.targets.v x204.targets :: obS (α := level_LevelV) 46 v42 ys257 :: obS (α := Int) 3 v40 s38.1.pauses :: obC b10 [v40, v42] 25 :: obC b1 [v44, v46] 25 :: []) := Hp.front hH (i := 3) rfl
                      replace hH : Hp w.heap.size A266 w265 (obS (α := level_Target) 56 y258.targets.v x204.targets :: obYX gf_level_Level ys257 s38.1.levels (Int.toNat (w64 ((s38.1.levels.length : Int) - 1))) :: obS (α := level_Test) 51 v264 x263 :: obS (α := level_LevelV) 46 v42 ys257 :: obS (α := Int) 3 v40 s38.1.pauses :: obC b10 [v40, v42] 25 :: obC b1 [v44, v46] 25 :: []) := Hp.front hH (i := 2) rfl
                      replace hH : Hp w.heap.size A266 w265 (obS (α := level_Test) 51 v264 x263 :: obS (α := level_Target) 56 y258.targets.v x204.targets :: obYX gf_level_Level ys257 s38.1.levels (Int.toNat (w64 ((s38.1.levels.length : Int) - 1))) :: obS (α := level_LevelV) 46 v42 ys257 :: obS (α := Int) 3 v40 s38.1.pauses :: obC b10 [v40, v42] 25 :: obC b1 [v44, v46] 25 :: []) := Hp.front hH (i := 2) rfl
                      replace hH : Hp w.heap.size A266 w265 (obS (α := level_LevelV) 46 v42 ys257 :: obS (α := level_Test) 51 v264 x263 :: obS (α := level_Target) 56 y258.targets.v x204.targets :: obYX gf_level_Level ys257 s38.1.levels (Int.toNat (w64 ((s38.1.levels.length : Int) - 1))) :: obS (α := Int) 3 v40 s38.1.pauses :: obC b10 [v40, v42] 25 :: obC b1 [v44, v46] 25 :: []) := Hp.front hH (i := 3) rfl
                      have h271 : (v264).oneCell' = true := by obtain ⟨_, _, e, _⟩ := Sl.form (Hp.any (α := level_Test) (e := 51) (v := v264) (l := x263) hH (i := 1) rfl); rw [e]; rfl
                      obtain ⟨x272, hx272, h51⟩ := Option.bind_eq_some_iff.1 h51
                      refine V_storeGS (Dw := False) (f := gf_level_Level) (e := 46) (v := v42) (l := s38.1.levels) (ys := ys257) (yv := y258) (xv := x204) (yv' := { (y258 : level_LevelV) with tests := ⟨v264, h271⟩ }) (F := [obS (α := level_Test) 51 v264 x263, obS (α := level_Target) 56 y258.targets.v x204.targets]) (foff := 1) hH hl259 hl208 hx204 hy260 hx272 (fun _ h => by obtain ⟨_, _, rfl, rfl, ⟨_, _, rfl, rfl, rfl⟩⟩ := h; rw [Value.cells_one h271]; exact ⟨[_], _, rfl, rfl, ⟨[_], _, rfl, rfl, rfl⟩⟩) Tryz.sizeOf43 (by rw [← Array.length_toList, Value.cells_one h271]; rfl) (by intro u hu; rw [Value.cells_one h271] at hu; simp at hu; subst hu; exact h271) (by decide) hB hA (fun h => gf_level_Level_pack hq262 h) (congrArg (fun z => some (Value.pointer (some ⟨_, z, none⟩))) (by simp [Nat.add_assoc])) rfl ?_
                      intro w273 hH274 ht275
                      replace h17 := Sl.tr (Dw := False) h17 ht275
                      replace h218 := El.tr (Dw := False) h218 ht275
                      replace h254 := Sl.tr (Dw := False) h254 ht275
                      replace h45 := Sl.tr (Dw := False) h45 ht275
                      replace h47 := Sl.tr (Dw := False) h47 ht275
                      replace hK := Tr.trans (Dw := False) hK ht275
                      replace hr23 := Tr.trans (Dw := False) hr23 ht275
                      replace hB := Nat.le_trans hB ht275.ex.size
                      replace hA := ht275.new
                      replace hH : Hp w.heap.size A266 w273 (obGS gf_level_Level 46 v42 x272 :: obS (α := Int) 3 v40 s38.1.pauses :: obC b10 [v40, v42] 25 :: obC b1 [v44, v46] 25 :: []) := hH274
                      refine V_CHw (Dw := False) ?_
                      refine CH_tail (Dw := False) ?_
                      show V _ _ _ _ [] _ _
                      refine V_to (fun _ _ => rfl) ?_
                      refine C_exit_to (fun _ _ => rfl) ?_
                      refine C_region ?_
                      refine V_y (Y_addI rfl rfl) rfl rfl rfl ?_
                      refine V_y (Y_move rfl) rfl rfl rfl ?_
                      obtain rfl := Option.some.inj h51
                      refine V_end (fun a ha276 => ?_)
                      exact ⟨((⟨s38.1.pauses, x272⟩ : level_Policy), s38.2), hlt54, h52, ⟨(v40, v42, v44, v46, A266), ha276.sub ⟨rfl, rfl, rfl, rfl, rfl, (congrArg (fun z => some (Value.int .i64 z)) (w64_succ hlt54 hn57)), trivial⟩, ⟨h45, h47, hH, hr23⟩⟩⟩
                  · rw [if_neg (nt hc221)] at h51
                    refine C_skip_to (fun _ _ => rfl) ?_
                    refine C_seq ?_
                    refine C_region ?_
                    refine V_y (Y_move rfl) rfl rfl rfl ?_
                    obtain ⟨x277, hx277, h51⟩ := Option.bind_eq_some_iff.1 h51
                    refine V_call Tryz.call13 rfl rfl rfl rfl (portref2_lineNumbers_c w216 hA (Fz.tr (Dw := False) hT hK) x78.1 18 hx277) ?_
                    rintro _ w280 ⟨v278, rfl, h279, hk281⟩
                    obtain ⟨A282, ht283, hH284⟩ := Hp.addOwnd (Dw := False) hH hB hA hk281 h279
                    replace h17 := Sl.tr (Dw := False) h17 ht283
                    replace h69 := El.tr (Dw := False) h69 ht283
                    replace h45 := Sl.tr (Dw := False) h45 ht283
                    replace h47 := Sl.tr (Dw := False) h47 ht283
                    replace hK := Tr.trans (Dw := False) hK ht283
                    replace hr23 := Tr.trans (Dw := False) hr23 ht283
                    replace hB := Nat.le_trans hB ht283.ex.size
                    replace hA := ht283.new
                    replace hH : Hp w.heap.size A282 w280 (obS (α := Int) 3 v278 x277.2.1 :: obGS gf_level_Level 46 v42 s38.1.levels :: obS (α := Int) 3 v40 s38.1.pauses :: obC b10 [v40, v42] 25 :: obC b1 [v44, v46] 25 :: []) := hH284
                    refine V_y (Y_move rfl) rfl rfl rfl ?_
                    refine V_y (Y_extract rfl rfl) rfl rfl rfl ?_
                    refine V_y (Y_extract rfl rfl) rfl rfl rfl ?_
                    refine V_y (Y_extract rfl rfl) rfl rfl rfl ?_
                    refine V_y (Y_assign rfl) rfl rfl rfl ?_
                    refine V_y (Y_assign rfl) rfl rfl rfl ?_
                    refine V_y (Y_assign rfl) rfl rfl rfl ?_
                    refine V_to (fun _ _ => rfl) ?_
                    refine C_seq ?_
                    refine C_region ?_
                    obtain ⟨v285, h286, h287⟩ := El.list ((Fz.tr (Dw := False) hT hK)).2.2.2.2.1
                    refine V_y (Y_load h286 Tryz.isAgg35 rfl) rfl rfl rfl ?_
                    refine V_y (Y_move rfl) rfl rfl rfl ?_
                    obtain ⟨x288, hx288, h51⟩ := Option.bind_eq_some_iff.1 h51
                    refine V_call Tryz.call17 rfl rfl rfl rfl (slices_Index_Lstring_string_c w280 portref2_targetWords v285 h287 x277.1 hx288) ?_
                    rintro _ _ ⟨rfl, rfl⟩
                    refine V_y (Y_assign rfl) rfl rfl rfl ?_
                    refine V_to (fun _ _ => rfl) ?_
                    refine C_seq ?_
                    refine C_seq ?_
                    refine C_region ?_
                    refine V_y (Y_move rfl) rfl rfl rfl ?_
                    refine V_y (Y_not rfl) rfl rfl rfl ?_
                    refine V_y (Y_move rfl) rfl rfl rfl ?_
                    refine V_cut 3 (fun _ : Unit => [(2, .pointer (some ⟨b1, 0, none⟩)), (5, .pointer (some ⟨b10, 0, none⟩)), (6, v16), (9, .func (.func 11) #[] #[.pointer (some ⟨b63, 0, none⟩)]), (17, .pointer (some ⟨b205, o206, none⟩)), (21, v278), (23, .int .i64 x288), (31, v16), (32, .int .i64 (x15.length : Int)), (33, .int .i64 (k24 : Int)), (166, .bool ((!x277.2.2) || (decide (x288 < 1))))]) (fun _ w' => w280 = w') ?_ ?_
                    · simp only [List.take, List.drop]
                      rcases Bool.eq_false_or_eq_true (!x277.2.2) with hc289 | hc289
                      · refine V_gn rfl rfl rfl hc289 rfl rfl rfl ?_
                        refine V_gn rfl rfl rfl hc289 rfl rfl rfl ?_
                        refine V_y (Y_pick_te rfl hc289 rfl) rfl rfl rfl ?_
                        exact V_end fun a ha => ⟨(), ha.sub ⟨rfl, rfl, rfl, rfl, rfl, rfl, rfl, rfl, rfl, rfl, (by rw [hc289]; rfl), trivial⟩, rfl⟩
                      · refine V_ge rfl rfl rfl hc289 ?_
                        refine V_y (Y_move rfl) rfl rfl rfl ?_
                        refine V_ge rfl rfl rfl hc289 ?_
                        refine V_y (Y_lss rfl rfl) rfl rfl rfl ?_
                        refine V_y (Y_pick_fe rfl hc289 rfl) rfl rfl rfl ?_
                        exact V_end fun a ha => ⟨(), ha.sub ⟨rfl, rfl, rfl, rfl, rfl, rfl, rfl, rfl, rfl, rfl, (by rw [hc289]; rfl), trivial⟩, rfl⟩
                    simp only [List.take, List.drop]
                    rintro _ _ rfl
                    refine V_y (Y_move rfl) rfl rfl rfl ?_
                    refine V_cut 4 (fun _ : Unit => [(2, .pointer (some ⟨b1, 0, none⟩)), (5, .pointer (some ⟨b10, 0, none⟩)), (6, v16), (9, .func (.func 11) #[] #[.pointer (some ⟨b63, 0, none⟩)]), (17, .pointer (some ⟨b205, o206, none⟩)), (21, v278), (23, .int .i64 x288), (31, v16), (32, .int .i64 (x15.length : Int)), (33, .int .i64 (k24 : Int)), (171, .bool (((!x277.2.2) || (decide (x288 < 1))) || ((x277.2.1.length : Int) != 2)))]) (fun _ w' => w280 = w') ?_ ?_
                    · simp only [List.take, List.drop]
                      rcases Bool.eq_false_or_eq_true (((!x277.2.2) || (decide (x288 < 1)))) with hc291 | hc291
                      · refine V_gn rfl rfl rfl hc291 rfl rfl rfl ?_
                        refine V_gn rfl rfl rfl hc291 rfl rfl rfl ?_
                        refine V_gn rfl rfl rfl hc291 rfl rfl rfl ?_
                        refine V_y (Y_pick_te rfl hc291 rfl) rfl rfl rfl ?_
                        exact V_end fun a ha => ⟨(), ha.sub ⟨rfl, rfl, rfl, rfl, rfl, rfl, rfl, rfl, rfl, rfl, (by rw [hc291]; rfl), trivial⟩, rfl⟩
                      · refine V_ge rfl rfl rfl hc291 ?_
                        refine V_y (Y_move rfl) rfl rfl rfl ?_
                        refine V_ge rfl rfl rfl hc291 ?_
                        refine V_y (Y_lenSl (Hp.any (α := Int) (e := 3) (v := v278) (l := x277.2.1) hH (i := 0) rfl) rfl Tryz.underlying22 rfl) rfl rfl rfl ?_
                        refine V_ge rfl rfl rfl hc291 ?_
                        refine V_y (Y_neq rfl rfl) rfl rfl rfl ?_
                        refine V_y (Y_pick_fe rfl hc291 rfl) rfl rfl rfl ?_
                        exact V_end fun a ha => ⟨(), ha.sub ⟨rfl, rfl, rfl, rfl, rfl, rfl, rfl, rfl, rfl, rfl, (by rw [hc291]; rfl), trivial⟩, rfl⟩
                    simp only [List.take, List.drop]
                    rintro _ _ rfl
                    refine V_to (fun _ _ => rfl) ?_
                    refine C_cond rfl (fun hc293 => ?_) (fun hc293 => ?_)
                    · rw [if_pos hc293] at h51
                      refine C_seq ?_
                      refine C_region ?_
                      refine V_y (Y_move rfl) rfl rfl rfl ?_
                      obtain ⟨x294, hx294, h51⟩ := Option.bind_eq_some_iff.1 h51
                      refine V_call Tryz.call11 rfl rfl rfl rfl (portref2_ReadPolicyOf_1_c (Dw := False) w280 hA (k24 : Int) b63 h69 hx294) ?_
                      rintro _ w299 ⟨v295, v297, rfl, h296, h298, hk300⟩
                      have ht301 := Kp.tr (Dw := False) hk300 hA hB
                      replace hH := Hp.kp (Dw := False) hH hk300
                      replace h17 := Sl.tr (Dw := False) h17 ht301
                      replace h69 := El.tr (Dw := False) h69 ht301
                      replace h45 := Sl.tr (Dw := False) h45 ht301
                      replace h47 := Sl.tr (Dw := False) h47 ht301
                      replace hK := Tr.trans (Dw := False) hK ht301
                      replace hr23 := Tr.trans (Dw := False) hr23 ht301
                      replace hB := Nat.le_trans hB ht301.ex.size
                      replace hA := ht301.new
                      refine V_y (Y_extract rfl rfl) rfl rfl rfl ?_
                      refine V_y (Y_extract rfl rfl) rfl rfl rfl ?_
                      refine V_y (Y_extract rfl rfl) rfl rfl rfl ?_
                      have h307 : (v295).oneCell' = true := by obtain ⟨_, _, e, _⟩ := Sl.form h296; rw [e]; rfl
                      have h310 : (v297).oneCell' = true := by obtain ⟨_, _, e, _⟩ := Sl.form h298; rw [e]; rfl
                      refine V_storeC (Dw := False) (off := 0) (ds := [v295, v297]) hH (i := 4) rfl Tryz.sizeOf25 rfl (Nat.le_of_ble_eq_true rfl) (by exact (List.forall_mem_cons.2 ⟨h307, (List.forall_mem_cons.2 ⟨h310, (fun _ h => nomatch h)⟩)⟩)) rfl hB hA rfl rfl ?_
                      intro w302 hH303 ht304
                      replace h17 := Sl.tr (Dw := False) h17 ht304
                      replace h69 := El.tr (Dw := False) h69 ht304
                      replace h296 := Sl.tr (Dw := False) h296 ht304
                      replace h298 := Sl.tr (Dw := False) h298 ht304
                      replace h45 := Sl.tr (Dw := False) h45 ht304
                      replace h47 := Sl.tr (Dw := False) h47 ht304
                      replace hK := Tr.trans (Dw := False) hK ht304
                      replace hr23 := Tr.trans (Dw := False) hr23 ht304
                      replace hB := Nat.le_trans hB ht304.ex.size
                      replace hA := ht304.new
                      replace hH : Hp w.heap.size A282 w302 (obS (α := Int) 3 v278 x277.2.1 :: obGS gf_level_Level 46 v42 s38.1.levels :: obS (α := Int) 3 v40 s38.1.pauses :: obC b10 [v40, v42] 25 :: obC b1 [v295, v297] 25 :: []) := hH303
                      refine V_y (Y_assign rfl) rfl rfl rfl ?_
                      refine V_y (Y_assign rfl) rfl rfl rfl ?_
                      refine V_to (fun _ _ => rfl) ?_
                      obtain rfl := Option.some.inj h51
                      obtain rfl := (h52 : Lp.rt _ = _)
                      rw [Lp.andThen_rt] at hm
                      obtain rfl := Option.some.inj hm
                      refine C_ret ?_
                      try simp only [↓inBlock_ret, ↓then_ret]
                      exact retQ rfl (Res.l3 Tryz.results5 (RL.cell rfl (loadVar_agg (Hp.part (off := 0) (n := 2) (ds := [v295, v297]) hH (i := 4) rfl rfl) Tryz.isAgg25 Tryz.sizeOf25)) (RL.tmp rfl) (RL.tmp rfl)) ⟨v295, v297, rfl, (Sl.out (Dw := False) h296 hA0 hK), (Sl.out (Dw := False) h298 hA0 hK), hK.kp⟩
                    · rw [if_neg (nt hc293)] at h51
                      refine C_skip_to (fun _ _ => rfl) ?_
                      refine C_region_ch (Dw := False) A282 18 [(1, 0), (1, 1), (1, 2), (1, 3), (0, 4), (1, 5), (1, 6), (0, 7), (0, 8), (1, 9), (0, 10), (0, 11), (1, 12), (2, 13), (4, 14), (1, 15), (1, 16), (4, 17)] Tryz_mixed (by kernel_rfl) (fun w311 hk312 => ?_)
                      have ht313 := Kp.tr (Dw := False) hk312 hA hB
                      replace hH := Hp.kp (Dw := False) hH hk312
                      replace h17 := Sl.tr (Dw := False) h17 ht313
                      replace h45 := Sl.tr (Dw := False) h45 ht313
                      replace h47 := Sl.tr (Dw := False) h47 ht313
                      replace hK := Tr.trans (Dw := False) hK ht313
                      replace hr23 := Tr.trans (Dw := False) hr23 ht313
                      replace hB := Nat.le_trans hB ht313.ex.size
                      replace hA := ht313.new
                      refine CH_q2 (Dw := False) rfl ?_
                      refine VQ_y (fun w' hw' => Y_move rfl) rfl rfl rfl ?_
                      refine VQ_CH (Dw := False) ?_
                      refine CH_q2 (Dw := False) rfl ?_
                      refine VQ_y (fun w' hw' => Y_move rfl) rfl rfl rfl ?_
                      refine VQ_CH (Dw := False) ?_
                      refine CH_q2 (Dw := False) rfl ?_
                      refine VQ_y (fun w' hw' => Y_nilCheck rfl) rfl rfl rfl ?_
                      refine VQ_CH (Dw := False) ?_
                      refine CH_q2 (Dw := False) rfl ?_
                      have h314 := Hp.elGS (f := gf_level_Level) (e := 46) (v := v42) (l := s38.1.levels) hH (i := 1) rfl hx204 hl208
                      have h315 := El_level_Level_2 h314
                      refine VQ_y (fun w' hw' => Y_fieldAddr Tryz.underlying46 rfl Tryz.sizeOf44 (by decide) rfl) rfl rfl rfl ?_
                      refine VQ_CH (Dw := False) ?_
                      refine CH_q1 (Dw := False) rfl ?_
                      obtain ⟨v316, h317, h318⟩ := El.list h315
                      refine VQ_y (fun w' hw' => Y_load ((World.cell?_of_block (hw'.block _ (World.block_lt_of_cell? _ _ h317))).trans h317) Tryz.isAgg44 rfl) rfl rfl rfl ?_
                      refine VQ_CH (Dw := False) ?_
                      refine CH_q2 (Dw := False) rfl ?_
                      refine VQ_y (fun w' hw' => Y_move rfl) rfl rfl rfl ?_
                      refine VQ_CH (Dw := False) ?_
                      refine CH_q2 (Dw := False) rfl ?_
                      refine VQ_y (fun w' hw' => Y_move rfl) rfl rfl rfl ?_
                      refine VQ_CH (Dw := False) ?_
                      refine CH_q1 (Dw := False) rfl ?_
                      obtain ⟨x319, hx319, h51⟩ := Option.bind_eq_some_iff.1 h51
                      refine VQ_indexAddrH (α := Int) (e := 3) (v := v278) (l := x277.2.1) hH (i := 0) rfl hx319 Tryz.underlying22 Tryz.sizeOf3 rfl rfl rfl ?_
                      intro b320 o321 h322 hl323
                      refine VQ_CH (Dw := False) ?_
                      refine CH_q1 (Dw := False) rfl ?_
                      refine VQ_y (fun w' hw' => Y_load (El.int (El.kp (Dw := False) h322 hw')) Tryz.isAgg3 rfl) rfl rfl rfl ?_
                      refine VQ_CH (Dw := False) ?_
                      refine CH_q2 (Dw := False) rfl ?_
                      refine VQ_y (fun w' hw' => Y_move rfl) rfl rfl rfl ?_
                      refine VQ_CH (Dw := False) ?_
                      refine CH_q1 (Dw := False) rfl ?_
                      obtain ⟨x324, hx324, h51⟩ := Option.bind_eq_some_iff.1 h51
                      refine VQ_indexAddrH (α := Int) (e := 3) (v := v278) (l := x277.2.1) hH (i := 0) rfl hx324 Tryz.underlying22 Tryz.sizeOf3 rfl rfl rfl ?_
                      intro b325 o326 h327 hl328
                      refine VQ_CH (Dw := False) ?_
                      refine CH_q1 (Dw := False) rfl ?_
                      refine VQ_y (fun w' hw' => Y_load (El.int (El.kp (Dw := False) h327 hw')) Tryz.isAgg3 rfl) rfl rfl rfl ?_
                      refine VQ_CH (Dw := False) ?_
                      refine CH_q2 (Dw := False) rfl ?_
                      refine VQ_y (fun w' hw' => Y_build Tryz.underlying56 Tryz.zeroValue56 (Tryz_places56 _ Tryz.underlying56) rfl (by with_unfolding_all rfl)) rfl rfl rfl ?_
                      refine VQ_CH (Dw := False) ?_
                      refine CH_l1 (Dw := False) (k := 0) rfl ?_
                      refine V_buildSlice (Dw := False) (cells := #[.int .i64 x288, .int .i64 x319, .int .i64 x324]) (l := ([(⟨x288, x319, x324⟩ : level_Target)] : List level_Target)) (len := 1) Tryz.underlying44 Tryz.sizeOf56 Tryz.zeroValue56 rfl (by kernel_rfl) (show (1 * 3 : Nat) ≠ 0 by decide) (show (1 * 3 : Nat) ≤ 2 ^ 24 by decide) hA ⟨[.int .i64 x288, .int .i64 x319, .int .i64 x324], _, rfl, ⟨[.int .i64 x288], _, rfl, rfl, ⟨[.int .i64 x319], _, rfl, rfl, rfl⟩⟩, rfl⟩ rfl rfl ?_
                      intro v329 w330 hk332 h331
                      have ht333 := Kp.tr (Dw := False) hk332 hA hB
                      replace hH := Hp.kp (Dw := False) hH hk332
                      replace h17 := Sl.tr (Dw := False) h17 ht333
                      replace h314 := El.kp (Dw := False) h314 hk332
                      replace h315 := El.kp (Dw := False) h315 hk332
                      replace h318 := Sl.kp (Dw := False) h318 hk332
                      replace h317 := cell_kp (Dw := False) h317 hk332
                      replace h322 := El.kp (Dw := False) h322 hk332
                      replace h327 := El.kp (Dw := False) h327 hk332
                      replace h45 := Sl.tr (Dw := False) h45 ht333
                      replace h47 := Sl.tr (Dw := False) h47 ht333
                      replace hK := Tr.trans (Dw := False) hK ht333
                      replace hr23 := Tr.trans (Dw := False) hr23 ht333
                      replace hB := Nat.le_trans hB ht333.ex.size
                      replace hA := ht333.new
                      refine V_CH (Dw := False) (hk332) ?_
                      refine CH_l1 (Dw := False) (k := 2) rfl ?_
                      obtain ⟨ys334, y335, hl336, hy337, hv338, hH⟩ := Hp.gsAt (f := gf_level_Level) (e := 46) (v := v42) (l := s38.1.levels) (p := fun z => z.targets) hH (i := 1) rfl hx204 hl208 (fun h => El_level_LevelV_2 h) h317
                      obtain ⟨hq339, hH⟩ := gf_level_Level_open (hH.front (i := 1) rfl)
                      replace hv338 : y335.targets.v = v316 := hv338
                      rw [hv338] at hH
                      replace hH : Hp w.heap.size A282 w330 (obS (α := level_Test) 51 y335.tests.v x204.tests :: obS (α := level_Target) 56 v316 x204.targets :: obS (α := level_LevelV) 46 v42 ys334 :: obYX gf_level_Level ys334 s38.1.levels (Int.toNat (w64 ((s38.1.levels.length : Int) - 1))) :: obS (α := Int) 3 v278 x277.2.1 :: obS (α := Int) 3 v40 s38.1.pauses :: obC b10 [v40, v42] 25 :: obC b1 [v44, v46] 25 :: []) := hH
                      obtain ⟨x340, hx340, h51⟩ := Option.bind_eq_some_iff.1 h51
                      refine V_appendH (Dw := False) (e := 56) (v := v316) (l := x204.targets) (ti := Tryz.t56) (bytes := 24) (lim := 5864062014805) hH (i := 1) rfl h331 hx340 Tryz.underlying44 Tryz_info56 rfl rfl rfl rfl (by decide) (by decide) (by decide) hB hA rfl rfl rfl ?_
                      intro v341 w342 A343 hH344 ht345
                      replace h17 := Sl.tr (Dw := False) h17 ht345
                      replace h331 := Sl.tr (Dw := False) h331 ht345
                      replace h45 := Sl.tr (Dw := False) h45 ht345
                      replace h47 := Sl.tr (Dw := False) h47 ht345
                      replace hK := Tr.trans (Dw := False) hK ht345
                      replace hr23 := Tr.trans (Dw := False) hr23 ht345
                      replace hB := Nat.le_trans hB ht345.ex.size
                      replace hA := ht345.new
                      replace hH : Hp w.heap.size A343 w342 (obS (α := level_Test) 51 y335.tests.v x204.tests :: obS (α := level_Target) 56 v341 x340 :: obS (α := level_LevelV) 46 v42 ys334 :: obYX gf_level_Level ys334 s38.1.levels (Int.toNat (w64 ((s38.1.levels.length : Int) - 1))) :: obS (α := Int) 3 v278 x277.2.1 :: obS (α := Int) 3 v40 s38.1.pauses :: obC b10 [v40, v42] 25 :: obC b1 [v44, v46] 25 :: []) := hH344
                      refine V_CHw (Dw := False) ?_
                      refine CH_q2 (Dw := False) rfl ?_
                      refine VQ_y (fun w' hw' => Y_nilCheck rfl) rfl rfl rfl ?_
                      refine VQ_CH (Dw := False) ?_
                      refine CH_q2 (Dw := False) rfl ?_
                      refine VQ_y (fun w' hw' => Y_fieldAddr Tryz.underlying46 rfl Tryz.sizeOf44 (by decide) rfl) rfl rfl rfl ?_
                      refine VQ_CH (Dw := False) ?_
                      refine CH_l1 (Dw := False) (k := 2) rfl ?_
                      replace hH : Hp w.heap.size A343 w342 (obYX gf_level_Level ys334 s38.1.levels (Int.toNat (w64 ((s38.1.levels.length : Int) - 1))) :: obS (α := level_Test) 51 y335.tests.v x204.tests :: obS (α := level_Target) 56 v341 x340 :: obS (α := level_LevelV) 46 v42 ys334 :: obS (α := Int) 3 v278 x277.2.1 :: obS (α := Int) 3 v40 s38.1.pauses :: obC b10 [v40, v42] 25 :: obC b1 [v44, v46] 25 :: []) := Hp.front hH (i := 3) rfl
                      replace hH : Hp w.heap.size A343 w342 (obS (α := level_Target) 56 v341 x340 :: obYX gf_level_Level ys334 s38.1.levels (Int.toNat (w64 ((s38.1.levels.length : Int) - 1))) :: obS (α := level_Test) 51 y335.tests.v x204.tests :: obS (α := level_LevelV) 46 v42 ys334 :: obS (α := Int) 3 v278 x277.2.1 :: obS (α := Int) 3 v40 s38.1.pauses :: obC b10 [v40, v42] 25 :: obC b1 [v44, v46] 25 :: []) := Hp.front hH (i := 2) rfl
                      replace hH : Hp w.heap.size A343 w342 (obS (α := level_Test) 51 y335.tests.v x204.tests :: obS (α := level_Target) 56 v341 x340 :: obYX gf_level_Level ys334 s38.1.levels (Int.toNat (w64 ((s38.1.levels.length : Int) - 1))) :: obS (α := level_LevelV) 46 v42 ys334 :: obS (α := Int) 3 v278 x277.2.1 :: obS (α := Int) 3 v40 s38.1.pauses :: obC b10 [v40, v42] 25 :: obC b1 [v44, v46] 25 :: []) := Hp.front hH (i := 2) rfl
                      replace hH : Hp w.heap.size A343 w342 (obS (α := level_LevelV) 46 v42 ys334 :: obS (α := level_Test) 51 y335.tests.v x204.tests :: obS (α := level_Target) 56 v341 x340 :: obYX gf_level_Level ys334 s38.1.levels (Int.toNat (w64 ((s38.1.levels.length : Int) - 1))) :: obS (α := Int) 3 v278 x277.2.1 :: obS (α := Int) 3 v40 s38.1.pauses :: obC b10 [v40, v42] 25 :: obC b1 [v44, v46] 25 :: []) := Hp.front hH (i := 3) rfl
                      have h348 : (v341).oneCell' = true := by obtain ⟨_, _, e, _⟩ := Sl.form (Hp.any (α := level_Target) (e := 56) (v := v341) (l := x340) hH (i := 2) rfl); rw [e]; rfl
                      obtain ⟨x349, hx349, h51⟩ := Option.bind_eq_some_iff.1 h51
                      refine V_storeGS (Dw := False) (f := gf_level_Level) (e := 46) (v := v42) (l := s38.1.levels) (ys := ys334) (yv := y335) (xv := x204) (yv' := { (y335 : level_LevelV) with targets := ⟨v341, h348⟩ }) (F := [obS (α := level_Test) 51 y335.tests.v x204.tests, obS (α := level_Target) 56 v341 x340]) (foff := 2) hH hl336 hl208 hx204 hy337 hx349 (fun _ h => by obtain ⟨_, _, rfl, rfl, ⟨_, _, rfl, rfl, rfl⟩⟩ := h; rw [Value.cells_one h348]; exact ⟨[_], _, rfl, rfl, ⟨[_], _, rfl, rfl, rfl⟩⟩) Tryz.sizeOf44 (by rw [← Array.length_toList, Value.cells_one h348]; rfl) (by intro u hu; rw [Value.cells_one h348] at hu; simp at hu; subst hu; exact h348) (by decide) hB hA (fun h => gf_level_Level_pack hq339 h) (congrArg (fun z => some (Value.pointer (some ⟨_, z, none⟩))) (by simp [Nat.add_assoc])) rfl ?_
                      intro w350 hH351 ht352
                      replace h17 := Sl.tr (Dw := False) h17 ht352
                      replace h331 := Sl.tr (Dw := False) h331 ht352
                      replace h45 := Sl.tr (Dw := False) h45 ht352
                      replace h47 := Sl.tr (Dw := False) h47 ht352
                      replace hK := Tr.trans (Dw := False) hK ht352
                      replace hr23 := Tr.trans (Dw := False) hr23 ht352
                      replace hB := Nat.le_trans hB ht352.ex.size
                      replace hA := ht352.new
                      replace hH : Hp w.heap.size A343 w350 (obGS gf_level_Level 46 v42 x349 :: obS (α := Int) 3 v278 x277.2.1 :: obS (α := Int) 3 v40 s38.1.pauses :: obC b10 [v40, v42] 25 :: obC b1 [v44, v46] 25 :: []) := hH351
                      refine V_CHw (Dw := False) ?_
                      refine CH_tail (Dw := False) ?_
                      show V _ _ _ _ [] _ _
                      refine V_to (fun _ _ => rfl) ?_
                      refine C_region ?_
                      refine V_y (Y_addI rfl rfl) rfl rfl rfl ?_
                      refine V_y (Y_move rfl) rfl rfl rfl ?_
                      obtain rfl := Option.some.inj h51
                      refine V_end (fun a ha353 => ?_)
                      replace hH : Hp w.heap.size A343 w350 (obC b1 [v44, v46] 25 :: obGS gf_level_Level 46 v42 x349 :: obS (α := Int) 3 v278 x277.2.1 :: obS (α := Int) 3 v40 s38.1.pauses :: obC b10 [v40, v42] 25 :: []) := Hp.front hH (i := 4) rfl
                      replace hH : Hp w.heap.size A343 w350 (obC b10 [v40, v42] 25 :: obC b1 [v44, v46] 25 :: obGS gf_level_Level 46 v42 x349 :: obS (α := Int) 3 v278 x277.2.1 :: obS (α := Int) 3 v40 s38.1.pauses :: []) := Hp.front hH (i := 4) rfl
                      replace hH : Hp w.heap.size A343 w350 (obS (α := Int) 3 v40 s38.1.pauses :: obC b10 [v40, v42] 25 :: obC b1 [v44, v46] 25 :: obGS gf_level_Level 46 v42 x349 :: obS (α := Int) 3 v278 x277.2.1 :: []) := Hp.front hH (i := 4) rfl
                      replace hH : Hp w.heap.size A343 w350 (obGS gf_level_Level 46 v42 x349 :: obS (α := Int) 3 v40 s38.1.pauses :: obC b10 [v40, v42] 25 :: obC b1 [v44, v46] 25 :: obS (α := Int) 3 v278 x277.2.1 :: []) := Hp.front hH (i := 3) rfl
                      replace hH : Hp w.heap.size A343 w350 (obGS gf_level_Level 46 v42 x349 :: obS (α := Int) 3 v40 s38.1.pauses :: obC b10 [v40, v42] 25 :: obC b1 [v44, v46] 25 :: []) := Hp.drop hH (i := 4) rfl
                      exact ⟨((⟨s38.1.pauses, x349⟩ : level_Policy), s38.2), hlt54, h52, ⟨(v40, v42, v44, v46, A343), ha353.sub ⟨rfl, rfl, rfl, rfl, rfl, (congrArg (fun z => some (Value.int .i64 z)) (w64_succ hlt54 hn57)), trivial⟩, ⟨h45, h47, hH, hr23⟩⟩⟩
      · refine C_exit (fun a ha354 => ?_)
        exact ⟨((s38.1, s38.2), v40, v42, v44, v46, A48), ha354.sub ⟨rfl, rfl, trivial⟩, ⟨(h55 (eq_of_dec hle53 hc58)).symm, h45, h47, hH, hr23⟩⟩
    rintro ⟨s22, v28, v30, v32, v34, A36⟩ w25 ⟨rfl, h33, h35, hH37, hk26⟩ a ha27
    rw [Lp.andThen_fin] at hm
    replace hK := Tr.trans (Dw := False) hK hk26
    replace hB := Nat.le_trans hB hk26.ex.size
    replace hA := hk26.new
    replace hH : Hp w.heap.size A36 w25 (obGS gf_level_Level 46 v30 s22.1.levels :: obS (α := Int) 3 v28 s22.1.pauses :: obC b10 [v28, v30] 25 :: obC b1 [v32, v34] 25 :: []) := hH37
    refine C_at (n := ⟨202, [], none⟩) (fun _ _ => rfl) ?_ ha27
    refine C_seq ?_
    refine C_seq ?_
    refine C_region ?_
    refine V_y (Y_loadA (Hp.part (off := 0) (n := 2) (ds := [v28, v30]) hH (i := 2) rfl rfl) Tryz.isAgg25 Tryz.sizeOf25 rfl) rfl rfl rfl ?_
    obtain ⟨x356, hx356, hm⟩ := Option.bind_eq_some_iff.1 hm
    refine V_call Tryz.call18 rfl rfl rfl rfl (portref2_PolicyFault_c w25 (A := fun _ => True) (fun _ _ => trivial) s22.1 v28 (Hp.any (α := Int) (e := 3) (v := v28) (l := s22.1.pauses) hH (i := 1) rfl) v30 (Hp.anyGS (f := gf_level_Level) (e := 46) (v := v30) (l := s22.1.levels) hH (i := 0) rfl) hx356) ?_
    rintro _ w357 ⟨rfl, hk358⟩
    have ht359 := Kp.tr (Dw := False) hk358 hA hB
    replace hH := Hp.kp (Dw := False) hH hk358
    replace h33 := Sl.tr (Dw := False) h33 ht359
    replace h35 := Sl.tr (Dw := False) h35 ht359
    replace hK := Tr.trans (Dw := False) hK ht359
    replace hB := Nat.le_trans hB ht359.ex.size
    replace hA := ht359.new
    refine V_y (Y_assign rfl) rfl rfl rfl ?_
    refine V_to (fun _ _ => rfl) ?_
    refine C_seq ?_
    refine C_region ?_
    refine V_y (Y_move rfl) rfl rfl rfl ?_
    refine V_y (Y_neq rfl rfl) rfl rfl rfl ?_
    refine V_to (fun _ _ => rfl) ?_
    refine C_cond rfl (fun hc360 => ?_) (fun hc360 => ?_)
    · rw [if_pos hc360] at hm
      refine C_seq ?_
      refine C_region ?_
      refine V_y (Y_build Tryz.underlying25 Tryz.zeroValue25 (Tryz_places25 _ Tryz.underlying25) rfl (by with_unfolding_all rfl)) rfl rfl rfl ?_
      refine V_y (Y_move rfl) rfl rfl rfl ?_
      refine V_storeC (Dw := False) (off := 0) (ds := [.slice none 0 0, .slice none 0 0]) hH (i := 3) rfl Tryz.sizeOf25 rfl (Nat.le_of_ble_eq_true rfl) (by exact (List.forall_mem_cons.2 ⟨rfl, (List.forall_mem_cons.2 ⟨rfl, (fun _ h => nomatch h)⟩)⟩)) rfl hB hA rfl rfl ?_
      intro w361 hH362 ht363
      replace h33 := Sl.tr (Dw := False) h33 ht363
      replace h35 := Sl.tr (Dw := False) h35 ht363
      replace hK := Tr.trans (Dw := False) hK ht363
      replace hB := Nat.le_trans hB ht363.ex.size
      replace hA := ht363.new
      replace hH : Hp w.heap.size A36 w361 (obGS gf_level_Level 46 v30 s22.1.levels :: obS (α := Int) 3 v28 s22.1.pauses :: obC b10 [v28, v30] 25 :: obC b1 [.slice none 0 0, .slice none 0 0] 25 :: []) := hH362
      refine V_y (Y_assign rfl) rfl rfl rfl ?_
      refine V_y (Y_assign rfl) rfl rfl rfl ?_
      refine V_to (fun _ _ => rfl) ?_
      obtain rfl := Option.some.inj hm
      refine C_ret ?_
      try simp only [↓inBlock_ret, ↓then_ret]
      exact retQ rfl (Res.l3 Tryz.results5 (RL.cell rfl (loadVar_agg (Hp.part (off := 0) (n := 2) (ds := [.slice none 0 0, .slice none 0 0]) hH (i := 3) rfl rfl) Tryz.isAgg25 Tryz.sizeOf25)) (RL.tmp rfl) (RL.tmp rfl)) ⟨.slice none 0 0, .slice none 0 0, rfl, Sl.nil, Sl.nil, hK.kp⟩
    · rw [if_neg (nt hc360)] at hm
      refine C_skip_to (fun _ _ => rfl) ?_
      refine C_seq ?_
      refine C_region ?_
      refine V_y (Y_loadA (Hp.part (off := 0) (n := 2) (ds := [v28, v30]) hH (i := 2) rfl rfl) Tryz.isAgg25 Tryz.sizeOf25 rfl) rfl rfl rfl ?_
      obtain ⟨A364, ht365, h366, hH367⟩ := Hp.freeze (Dw := False) (α := Int) (v := v28) (l := s22.1.pauses) hH (i := 1) rfl hA
      replace h33 := Sl.tr (Dw := False) h33 ht365
      replace h35 := Sl.tr (Dw := False) h35 ht365
      replace hK := Tr.trans (Dw := False) hK ht365
      replace hB := Nat.le_trans hB ht365.ex.size
      replace hA := ht365.new
      replace hH : Hp w.heap.size A364 w357 (obGS gf_level_Level 46 v30 s22.1.levels :: obC b10 [v28, v30] 25 :: obC b1 [v32, v34] 25 :: []) := hH367
      obtain ⟨A369, ht370, h371, hH372⟩ := Hp.freezeGS (Dw := False) (f := gf_level_Level) (e := 46) (v := v30) (l := s22.1.levels) hH (i := 0) rfl hA
      replace h366 := Sl.tr (Dw := False) h366 ht370
      replace h33 := Sl.tr (Dw := False) h33 ht370
      replace h35 := Sl.tr (Dw := False) h35 ht370
      replace hK := Tr.trans (Dw := False) hK ht370
      replace hB := Nat.le_trans hB ht370.ex.size
      replace hA := ht370.new
      replace hH : Hp w.heap.size A369 w357 (obC b10 [v28, v30] 25 :: obC b1 [v32, v34] 25 :: []) := hH372
      have h379 : (v28).oneCell' = true := by obtain ⟨_, _, e, _⟩ := Sl.form h366; rw [e]; rfl
      have h382 : (v30).oneCell' = true := by obtain ⟨_, _, e, _⟩ := Sl.form h371; rw [e]; rfl
      refine V_storeC (Dw := False) (off := 0) (ds := [v28, v30]) hH (i := 1) rfl Tryz.sizeOf25 rfl (Nat.le_of_ble_eq_true rfl) (by exact (List.forall_mem_cons.2 ⟨h379, (List.forall_mem_cons.2 ⟨h382, (fun _ h => nomatch h)⟩)⟩)) rfl hB hA rfl rfl ?_
      intro w374 hH375 ht376
      replace h366 := Sl.tr (Dw := False) h366 ht376
      replace h371 := Sl.tr (Dw := False) h371 ht376
      replace h33 := Sl.tr (Dw := False) h33 ht376
      replace h35 := Sl.tr (Dw := False) h35 ht376
      replace hK := Tr.trans (Dw := False) hK ht376
      replace hB := Nat.le_trans hB ht376.ex.size
      replace hA := ht376.new
      replace hH : Hp w.heap.size A369 w374 (obC b10 [v28, v30] 25 :: obC b1 [v28, v30] 25 :: []) := hH375
      refine V_y (Y_assign rfl) rfl rfl rfl ?_
      refine V_y (Y_assign rfl) rfl rfl rfl ?_
      refine V_to (fun _ _ => rfl) ?_
      obtain rfl := Option.some.inj hm
      refine C_ret ?_
      try simp only [↓inBlock_ret, ↓then_ret]
      exact retQ rfl (Res.l3 Tryz.results5 (RL.cell rfl (loadVar_agg (Hp.part (off := 0) (n := 2) (ds := [v28, v30]) hH (i := 1) rfl rfl) Tryz.isAgg25 Tryz.sizeOf25)) (RL.tmp rfl) (RL.tmp rfl)) ⟨v28, v30, rfl, (Sl.out (Dw := False) h366 hA0 hK), (Sl.out (Dw := False) h371 hA0 hK), hK.kp⟩

set_option maxRecDepth 4000 in
set_option maxHeartbeats 4000000 in
theorem slices_Equal_Lint_int_c (w : World) {A : Nat → Prop} (hA : ∀ b, w.heap.size ≤ b → A b) (s1 : (List Int)) (v_s1 : Value) (h_s1 : Sl A w v_s1 s1) (s2 : (List Int)) (v_s2 : Value) (h_s2 : Sl A w v_s2 s2) {r : Bool} (hm : slices_Equal_Lint_int s1 s2 = some r) : Ret Tryz.prog 29 #[v_s1, v_s2] w fun v w' => v = .bool r ∧ Kp Dw w w' := by
  unfold slices_Equal_Lint_int at hm
  refine enter Tryz.func29 rfl Tryz.ntmps29 rfl ?_
  have hA0 := hA
  have hB := Nat.le_refl w.heap.size
  have hK : Tr Dw w.heap.size A w A w := Tr.refl (Dw := Dw) hA
  have hH : Hp w.heap.size A w [] := Hp.nil
  refine C_seq ?_
  refine C_region ?_
  refine V_y (Y_assign rfl) rfl rfl rfl ?_
  refine V_to (fun _ _ => rfl) ?_
  refine C_seq ?_
  refine C_seq ?_
  refine C_region ?_
  refine V_y (Y_move rfl) rfl rfl rfl ?_
  refine V_y (Y_lenSl h_s1 rfl Tryz.underlying22 rfl) rfl rfl rfl ?_
  refine V_y (Y_move rfl) rfl rfl rfl ?_
  refine V_y (Y_lenSl h_s2 rfl Tryz.underlying22 rfl) rfl rfl rfl ?_
  refine V_y (Y_neq rfl rfl) rfl rfl rfl ?_
  refine V_to (fun _ _ => rfl) ?_
  refine C_cond rfl (fun hc5 => ?_) (fun hc5 => ?_)
  · rw [if_pos hc5] at hm
    refine C_seq ?_
    refine C_region ?_
    refine V_y (Y_assign rfl) rfl rfl rfl ?_
    refine V_to (fun _ _ => rfl) ?_
    obtain rfl := Option.some.inj hm
    refine C_ret ?_
    try simp only [↓inBlock_ret, ↓then_ret]
    exact retQ rfl (Res.one Tryz.results29 rfl) ⟨rfl, hK.kp⟩
  · rw [if_neg (nt hc5)] at hm
    refine C_skip_to (fun _ _ => rfl) ?_
    refine C_seq ?_
    refine C_seq ?_
    refine C_region ?_
    refine V_y (Y_move rfl) rfl rfl rfl ?_
    refine V_y (Y_lenSl h_s1 rfl Tryz.underlying22 rfl) rfl rfl rfl ?_
    refine V_y (Y_move rfl) rfl rfl rfl ?_
    refine V_to (fun _ _ => rfl) ?_
    have hn27 := Sl.le h_s1
    obtain ⟨o6, ho6, hm⟩ := Option.bind_eq_some_iff.1 hm
    refine C_cutG (ι := (Unit × (Nat → Prop))) (fun ⟨s7, A13⟩ => []) (fun ⟨s7, A13⟩ => fun w' => o6 = .fin s7 ∧ Hp w.heap.size A13 w' ([]) ∧ Tr Dw w.heap.size A w A13 w') ?_ ?_
    · refine C_block ?_
      refine C_range ho6 (fun k9 _ a w' => ∃ i : (Nat → Prop), Has ⟨26, [], none⟩ a ([(0, v_s1), (1, v_s2), (12, .int .i64 (s1.length : Int)), (13, .int .i64 (k9 : Int))]) ∧ Hp w.heap.size i w' ([]) ∧ Tr Dw w.heap.size A w i w') (fun a ha => ⟨A, ha.sub ⟨rfl, rfl, rfl, rfl, trivial⟩, ⟨hH, Tr.refl (Dw := Dw) hA⟩⟩) ?_
      rintro K k9 _ a w17 ⟨A18, ha43, hH19, hr8⟩ hle23 K26 h25
      refine C_of ?_ ha43
      replace h_s1 := Sl.tr (Dw := Dw) h_s1 hr8
      replace h_s2 := Sl.tr (Dw := Dw) h_s2 hr8
      replace hK := Tr.trans (Dw := Dw) hK hr8
      replace hB := Nat.le_trans hB hr8.ex.size
      replace hA := hr8.new
      replace hH : Hp w.heap.size A18 w17 ([]) := hH19
      refine C_seq (C_region (V_y (Y_lss rfl rfl) rfl rfl rfl (V_to (fun _ _ => rfl) ?_)))
      refine C_seq ?_
      refine C_cond rfl (fun hc28 => ?_) (fun hc28 => ?_)
      · have hlt24 := lt_of_dec hc28
        obtain ⟨x20, h21, h22⟩ := K26 hlt24
        refine C_skip_to (fun _ _ => rfl) ?_
        refine C_seq ?_
        refine C_block ?_
        refine C_seq ?_
        refine C_region ?_
        refine V_y (Y_move rfl) rfl rfl rfl ?_
        refine V_y (Y_assign rfl) rfl rfl rfl ?_
        refine V_to (fun _ _ => rfl) ?_
        refine C_seq ?_
        refine C_region_q (Dw := Dw) Tryz_mixed (by kernel_rfl) ?_
        refine VQ_y (fun w' hw' => Y_move rfl) rfl rfl rfl ?_
        refine VQ_y (fun w' hw' => Y_move rfl) rfl rfl rfl ?_
        obtain ⟨x29, hx29, h21⟩ := Option.bind_eq_some_iff.1 h21
        refine VQ_indexAddr h_s1 hx29 Tryz.underlying22 Tryz.sizeOf3 rfl rfl rfl ?_
        intro b30 o31 h32
        refine VQ_y (fun w' hw' => Y_load (El.int (El.kp (Dw := Dw) h32 hw')) Tryz.isAgg3 rfl) rfl rfl rfl ?_
        refine VQ_y (fun w' hw' => Y_move rfl) rfl rfl rfl ?_
        refine VQ_y (fun w' hw' => Y_move rfl) rfl rfl rfl ?_
        obtain ⟨x33, hx33, h21⟩ := Option.bind_eq_some_iff.1 h21
        refine VQ_indexAddr h_s2 hx33 Tryz.underlying22 Tryz.sizeOf3 rfl rfl rfl ?_
        intro b34 o35 h36
        refine VQ_y (fun w' hw' => Y_load (El.int (El.kp (Dw := Dw) h36 hw')) Tryz.isAgg3 rfl) rfl rfl rfl ?_
        refine VQ_y (fun w' hw' => Y_neq rfl rfl) rfl rfl rfl ?_
        refine VQ_to (fun _ _ => rfl) (fun w37 hk38 => ?_)
        have ht39 := Kp.tr (Dw := Dw) hk38 hA hB
        replace hH := Hp.kp (Dw := Dw) hH hk38
        replace h_s1 := Sl.tr (Dw := Dw) h_s1 ht39
        replace h_s2 := Sl.tr (Dw := Dw) h_s2 ht39
        replace hK := Tr.trans (Dw := Dw) hK ht39
        replace hr8 := Tr.trans (Dw := Dw) hr8 ht39
        replace hB := Nat.le_trans hB ht39.ex.size
        replace hA := ht39.new
        refine C_cond rfl (fun hc40 => ?_) (fun hc40 => ?_)
        · rw [if_pos hc40] at h21
          refine C_seq ?_
          refine C_region ?_
          refine V_y (Y_assign rfl) rfl rfl rfl ?_
          refine V_to (fun _ _ => rfl) ?_
          obtain rfl := Option.some.inj h21
          obtain rfl := (h22 : Lp.rt _ = _)
          rw [Lp.andThen_rt] at hm
          obtain rfl := Option.some.inj hm
          refine C_ret ?_
          try simp only [↓inBlock_ret, ↓then_ret]
          exact retQ rfl (Res.one Tryz.results29 rfl) ⟨rfl, hK.kp⟩
        · rw [if_neg (nt hc40)] at h21
          refine C_skip_to (fun _ _ => rfl) ?_
          refine C_region ?_
          refine V_y (Y_addI rfl rfl) rfl rfl rfl ?_
          refine V_y (Y_move rfl) rfl rfl rfl ?_
          obtain rfl := Option.some.inj h21
          refine V_end (fun a ha41 => ?_)
          exact ⟨(), hlt24, h22, ⟨A18, ha41.sub ⟨rfl, rfl, rfl, (congrArg (fun z => some (Value.int .i64 z)) (w64_succ hlt24 hn27)), trivial⟩, ⟨hH, hr8⟩⟩⟩
      · refine C_exit (fun a ha42 => ?_)
        exact ⟨((), A18), ha42.sub trivial, ⟨(h25 (eq_of_dec hle23 hc28)).symm, hH, hr8⟩⟩
    rintro ⟨s7, A13⟩ w10 ⟨rfl, hH14, hk11⟩ a ha12
    rw [Lp.andThen_fin] at hm
    replace hK := Tr.trans (Dw := Dw) hK hk11
    replace hB := Nat.le_trans hB hk11.ex.size
    replace hA := hk11.new
    replace hH : Hp w.heap.size A13 w10 ([]) := hH14
    refine C_at (n := ⟨26, [], none⟩) (fun _ _ => rfl) ?_ ha12
    refine C_seq ?_
    refine C_region ?_
    refine V_y (Y_assign rfl) rfl rfl rfl ?_
    refine V_to (fun _ _ => rfl) ?_
    obtain rfl := Option.some.inj hm
    refine C_ret ?_
    try simp only [↓inBlock_ret, ↓then_ret]
    exact retQ rfl (Res.one Tryz.results29 rfl) ⟨rfl, hK.kp⟩

set_option maxRecDepth 4000 in
set_option maxHeartbeats 4000000 in
theorem slices_EqualFunc_Llevel_Level_Llevel_Level_level_Level_level_Level_c (w : World) {A : Nat → Prop} (hA : ∀ b, w.heap.size ≤ b → A b) (s1 : (List level_Level)) (v_s1 : Value) (h_s1 : Sl A w v_s1 s1) (s2 : (List level_Level)) (v_s2 : Value) (h_s2 : Sl A w v_s2 s2) (eq : level_Level → level_Level → Option Bool) (eq_f : FuncId) (eq_a eq_c : Array Value) (eq_call : ∀ (args : Array Value) (w : World), (callFunc eq_f args).run Tryz.prog w = .ok (.enter eq_f args) w) (eq_spec : ∀ (w1 : World) (A1 : Nat → Prop), Tr Dw w.heap.size A w A1 w1 → (∀ b, w1.heap.size ≤ b → A1 b) → ∀ (y0 : level_Level) (v1 : Value) (h2 : Sl A1 w1 v1 y0.tests) (v3 : Value) (h4 : Sl A1 w1 v3 y0.targets) (y1 : level_Level) (v5 : Value) (h6 : Sl A1 w1 v5 y1.tests) (v7 : Value) (h8 : Sl A1 w1 v7 y1.targets) (r : Bool), eq y0 y1 = some r → Ret Tryz.prog eq_f (eq_a ++ #[.agg #[.string y0.name, v1, v3], .agg #[.string y1.name, v5, v7]] ++ eq_c) w1 fun v w' => v = .bool r ∧ Kp Dw w1 w') {r : Bool} (hm : slices_EqualFunc_Llevel_Level_Llevel_Level_level_Level_level_Level s1 s2 eq = some r) : Ret Tryz.prog 41 #[v_s1, v_s2, .func (.func eq_f) eq_a eq_c] w fun v w' => v = .bool r ∧ Kp Dw w w' := by
  unfold slices_EqualFunc_Llevel_Level_Llevel_Level_level_Level_level_Level at hm
  refine enter Tryz.func41 rfl Tryz.ntmps41 rfl ?_
  have hA0 := hA
  have hB := Nat.le_refl w.heap.size
  have hK : Tr Dw w.heap.size A w A w := Tr.refl (Dw := Dw) hA
  have hH : Hp w.heap.size A w [] := Hp.nil
  refine C_seq ?_
  refine C_region ?_
  refine V_y (Y_assign rfl) rfl rfl rfl ?_
  refine V_to (fun _ _ => rfl) ?_
  refine C_seq ?_
  refine C_seq ?_
  refine C_region ?_
  refine V_y (Y_move rfl) rfl rfl rfl ?_
  refine V_y (Y_lenSl h_s1 rfl Tryz.underlying23 rfl) rfl rfl rfl ?_
  refine V_y (Y_move rfl) rfl rfl rfl ?_
  refine V_y (Y_lenSl h_s2 rfl Tryz.underlying23 rfl) rfl rfl rfl ?_
  refine V_y (Y_neq rfl rfl) rfl rfl rfl ?_
  refine V_to (fun _ _ => rfl) ?_
  refine C_cond rfl (fun hc5 => ?_) (fun hc5 => ?_)
  · rw [if_pos hc5] at hm
    refine C_seq ?_
    refine C_region ?_
    refine V_y (Y_assign rfl) rfl rfl rfl ?_
    refine V_to (fun _ _ => rfl) ?_
    obtain rfl := Option.some.inj hm
    refine C_ret ?_
    try simp only [↓inBlock_ret, ↓then_ret]
    exact retQ rfl (Res.one Tryz.results41 rfl) ⟨rfl, hK.kp⟩
  · rw [if_neg (nt hc5)] at hm
    refine C_skip_to (fun _ _ => rfl) ?_
    refine C_seq ?_
    refine C_seq ?_
    refine C_region ?_
    refine V_y (Y_move rfl) rfl rfl rfl ?_
    refine V_y (Y_lenSl h_s1 rfl Tryz.underlying23 rfl) rfl rfl rfl ?_
    refine V_y (Y_move rfl) rfl rfl rfl ?_
    refine V_to (fun _ _ => rfl) ?_
    have hn27 := Sl.le h_s1
    obtain ⟨o6, ho6, hm⟩ := Option.bind_eq_some_iff.1 hm
    refine C_cutG (ι := (Unit × (Nat → Prop))) (fun ⟨s7, A13⟩ => []) (fun ⟨s7, A13⟩ => fun w' => o6 = .fin s7 ∧ Hp w.heap.size A13 w' ([]) ∧ Tr Dw w.heap.size A w A13 w') ?_ ?_
    · refine C_block ?_
      refine C_range ho6 (fun k9 _ a w' => ∃ i : (Nat → Prop), Has ⟨32, [], none⟩ a ([(1, v_s2), (2, .func (.func eq_f) eq_a eq_c), (15, v_s1), (16, .int .i64 (s1.length : Int)), (17, .int .i64 (k9 : Int))]) ∧ Hp w.heap.size i w' ([]) ∧ Tr Dw w.heap.size A w i w') (fun a ha => ⟨A, ha.sub ⟨rfl, rfl, rfl, rfl, rfl, trivial⟩, ⟨hH, Tr.refl (Dw := Dw) hA⟩⟩) ?_
      rintro K k9 _ a w17 ⟨A18, ha93, hH19, hr8⟩ hle23 K26 h25
      refine C_of ?_ ha93
      replace h_s2 := Sl.tr (Dw := Dw) h_s2 hr8
      replace h_s1 := Sl.tr (Dw := Dw) h_s1 hr8
      replace hK := Tr.trans (Dw := Dw) hK hr8
      replace hB := Nat.le_trans hB hr8.ex.size
      replace hA := hr8.new
      replace hH : Hp w.heap.size A18 w17 ([]) := hH19
      refine C_seq (C_region (V_y (Y_lss rfl rfl) rfl rfl rfl (V_to (fun _ _ => rfl) ?_)))
      refine C_seq ?_
      refine C_cond rfl (fun hc28 => ?_) (fun hc28 => ?_)
      · have hlt24 := lt_of_dec hc28
        obtain ⟨x20, h21, h22⟩ := K26 hlt24
        refine C_skip_to (fun _ _ => rfl) ?_
        refine C_seq ?_
        refine C_block ?_
        refine C_seq ?_
        refine C_region ?_
        refine V_y (Y_move rfl) rfl rfl rfl ?_
        obtain ⟨x29, hx29, h21⟩ := Option.bind_eq_some_iff.1 h21
        refine V_indexAddr h_s1 hx29 Tryz.underlying23 Tryz.sizeOf46 rfl rfl rfl ?_
        intro b30 o31 h32
        obtain ⟨v33, v35, h37, h34, h36⟩ := El_level_Level h32
        refine V_y (Y_loadA h37 Tryz.isAgg46 Tryz.sizeOf46 rfl) rfl rfl rfl ?_
        refine V_alloc Tryz.zeroValue46 rfl ?_
        intro b38 w39 h40
        refine V_y (Y_assign rfl) rfl rfl rfl ?_
        have h45 : (v33).oneCell' = true := by obtain ⟨_, _, e, _⟩ := Sl.form h34; rw [e]; rfl
        have h48 : (v35).oneCell' = true := by obtain ⟨_, _, e, _⟩ := Sl.form h36; rw [e]; rfl
        refine V_storeNew h40 Tryz.sizeOf46 rfl rfl rfl rfl (by exact (List.forall_mem_cons.2 ⟨rfl, (List.forall_mem_cons.2 ⟨h45, (List.forall_mem_cons.2 ⟨h48, (fun _ h => nomatch h)⟩)⟩)⟩)) ?_
        intro w41 h42
        have hk50 := h42.kp (Dw := Dw)
        have h49 : El (α := level_Level) A18 w41 b38 0 x29 := h42.el hA ⟨[.string x29.name], _, rfl, rfl, ⟨[v33], _, rfl, ⟨_, rfl, h34⟩, ⟨_, rfl, h36⟩⟩⟩
        have ht51 := Kp.tr (Dw := Dw) hk50 hA hB
        replace hH := Hp.kp (Dw := Dw) hH hk50
        replace h_s2 := Sl.tr (Dw := Dw) h_s2 ht51
        replace h_s1 := Sl.tr (Dw := Dw) h_s1 ht51
        replace h32 := El.tr (Dw := Dw) h32 ht51
        replace h34 := Sl.tr (Dw := Dw) h34 ht51
        replace h36 := Sl.tr (Dw := Dw) h36 ht51
        replace hK := Tr.trans (Dw := Dw) hK ht51
        replace hr8 := Tr.trans (Dw := Dw) hr8 ht51
        replace hB := Nat.le_trans hB ht51.ex.size
        replace hA := ht51.new
        refine V_to (fun _ _ => rfl) ?_
        refine C_seq ?_
        refine C_region ?_
        refine V_y (Y_move rfl) rfl rfl rfl ?_
        refine V_y (Y_move rfl) rfl rfl rfl ?_
        obtain ⟨x52, hx52, h21⟩ := Option.bind_eq_some_iff.1 h21
        refine V_indexAddr h_s2 hx52 Tryz.underlying23 Tryz.sizeOf46 rfl rfl rfl ?_
        intro b53 o54 h55
        obtain ⟨v56, v58, h60, h57, h59⟩ := El_level_Level h55
        refine V_y (Y_loadA h60 Tryz.isAgg46 Tryz.sizeOf46 rfl) rfl rfl rfl ?_
        refine V_alloc Tryz.zeroValue46 rfl ?_
        intro b61 w62 h63
        have h69 : (v56).oneCell' = true := by obtain ⟨_, _, e, _⟩ := Sl.form h57; rw [e]; rfl
        have h72 : (v58).oneCell' = true := by obtain ⟨_, _, e, _⟩ := Sl.form h59; rw [e]; rfl
        refine V_storeNew h63 Tryz.sizeOf46 rfl rfl rfl rfl (by exact (List.forall_mem_cons.2 ⟨rfl, (List.forall_mem_cons.2 ⟨h69, (List.forall_mem_cons.2 ⟨h72, (fun _ h => nomatch h)⟩)⟩)⟩)) ?_
        intro w65 h66
        have hk74 := h66.kp (Dw := Dw)
        have h73 : El (α := level_Level) A18 w65 b61 0 x52 := h66.el hA ⟨[.string x52.name], _, rfl, rfl, ⟨[v56], _, rfl, ⟨_, rfl, h57⟩, ⟨_, rfl, h59⟩⟩⟩
        have ht75 := Kp.tr (Dw := Dw) hk74 hA hB
        replace hH := Hp.kp (Dw := Dw) hH hk74
        replace h_s2 := Sl.tr (Dw := Dw) h_s2 ht75
        replace h_s1 := Sl.tr (Dw := Dw) h_s1 ht75
        replace h49 := El.tr (Dw := Dw) h49 ht75
        replace h55 := El.tr (Dw := Dw) h55 ht75
        replace h57 := Sl.tr (Dw := Dw) h57 ht75
        replace h59 := Sl.tr (Dw := Dw) h59 ht75
        replace hK := Tr.trans (Dw := Dw) hK ht75
        replace hr8 := Tr.trans (Dw := Dw) hr8 ht75
        replace hB := Nat.le_trans hB ht75.ex.size
        replace hA := ht75.new
        refine V_to (fun _ _ => rfl) ?_
        refine C_seq ?_
        refine C_region ?_
        refine V_y (Y_move rfl) rfl rfl rfl ?_
        obtain ⟨v76, v78, h80, h77, h79⟩ := El_level_Level h49
        refine V_y (Y_loadA h80 Tryz.isAgg46 Tryz.sizeOf46 rfl) rfl rfl rfl ?_
        obtain ⟨v81, v83, h85, h82, h84⟩ := El_level_Level h73
        refine V_y (Y_loadA h85 Tryz.isAgg46 Tryz.sizeOf46 rfl) rfl rfl rfl ?_
        obtain ⟨x86, hx86, h21⟩ := Option.bind_eq_some_iff.1 h21
        refine V_call eq_call rfl rfl rfl rfl (eq_spec w65 _ hK hA x29 v76 h77 v78 h79 x52 v81 h82 v83 h84 _ hx86) ?_
        rintro _ w87 ⟨rfl, hk88⟩
        have ht89 := Kp.tr (Dw := Dw) hk88 hA hB
        replace hH := Hp.kp (Dw := Dw) hH hk88
        replace h_s2 := Sl.tr (Dw := Dw) h_s2 ht89
        replace h_s1 := Sl.tr (Dw := Dw) h_s1 ht89
        replace h49 := El.tr (Dw := Dw) h49 ht89
        replace h73 := El.tr (Dw := Dw) h73 ht89
        replace h77 := Sl.tr (Dw := Dw) h77 ht89
        replace h79 := Sl.tr (Dw := Dw) h79 ht89
        replace h82 := Sl.tr (Dw := Dw) h82 ht89
        replace h84 := Sl.tr (Dw := Dw) h84 ht89
        replace hK := Tr.trans (Dw := Dw) hK ht89
        replace hr8 := Tr.trans (Dw := Dw) hr8 ht89
        replace hB := Nat.le_trans hB ht89.ex.size
        replace hA := ht89.new
        refine V_y (Y_not rfl) rfl rfl rfl ?_
        refine V_to (fun _ _ => rfl) ?_
        refine C_cond rfl (fun hc90 => ?_) (fun hc90 => ?_)
        · rw [if_pos hc90] at h21
          refine C_seq ?_
          refine C_region ?_
          refine V_y (Y_assign rfl) rfl rfl rfl ?_
          refine V_to (fun _ _ => rfl) ?_
          obtain rfl := Option.some.inj h21
          obtain rfl := (h22 : Lp.rt _ = _)
          rw [Lp.andThen_rt] at hm
          obtain rfl := Option.some.inj hm
          refine C_ret ?_
          try simp only [↓inBlock_ret, ↓then_ret]
          exact retQ rfl (Res.one Tryz.results41 rfl) ⟨rfl, hK.kp⟩
        · rw [if_neg (nt hc90)] at h21
          refine C_skip_to (fun _ _ => rfl) ?_
          refine C_region ?_
          refine V_y (Y_addI rfl rfl) rfl rfl rfl ?_
          refine V_y (Y_move rfl) rfl rfl rfl ?_
          obtain rfl := Option.some.inj h21
          refine V_end (fun a ha91 => ?_)
          exact ⟨(), hlt24, h22, ⟨A18, ha91.sub ⟨rfl, rfl, rfl, rfl, (congrArg (fun z => some (Value.int .i64 z)) (w64_succ hlt24 hn27)), trivial⟩, ⟨hH, hr8⟩⟩⟩
      · refine C_exit (fun a ha92 => ?_)
        exact ⟨((), A18), ha92.sub trivial, ⟨(h25 (eq_of_dec hle23 hc28)).symm, hH, hr8⟩⟩
    rintro ⟨s7, A13⟩ w10 ⟨rfl, hH14, hk11⟩ a ha12
    rw [Lp.andThen_fin] at hm
    replace hK := Tr.trans (Dw := Dw) hK hk11
    replace hB := Nat.le_trans hB hk11.ex.size
    replace hA := hk11.new
    replace hH : Hp w.heap.size A13 w10 ([]) := hH14
    refine C_at (n := ⟨32, [], none⟩) (fun _ _ => rfl) ?_ ha12
    refine C_seq ?_
    refine C_region ?_
    refine V_y (Y_assign rfl) rfl rfl rfl ?_
    refine V_to (fun _ _ => rfl) ?_
    obtain rfl := Option.some.inj hm
    refine C_ret ?_
    try simp only [↓inBlock_ret, ↓then_ret]
    exact retQ rfl (Res.one Tryz.results41 rfl) ⟨rfl, hK.kp⟩

set_option maxRecDepth 4000 in
set_option maxHeartbeats 4000000 in
theorem slices_Equal_Llevel_Test_level_Test_c (w : World) {A : Nat → Prop} (hA : ∀ b, w.heap.size ≤ b → A b) (s1 : (List level_Test)) (v_s1 : Value) (h_s1 : Sl A w v_s1 s1) (s2 : (List level_Test)) (v_s2 : Value) (h_s2 : Sl A w v_s2 s2) {r : Bool} (hm : slices_Equal_Llevel_Test_level_Test s1 s2 = some r) : Ret Tryz.prog 43 #[v_s1, v_s2] w fun v w' => v = .bool r ∧ Kp Dw w w' := by
  unfold slices_Equal_Llevel_Test_level_Test at hm
  refine enter Tryz.func43 rfl Tryz.ntmps43 rfl ?_
  have hA0 := hA
  have hB := Nat.le_refl w.heap.size
  have hK : Tr Dw w.heap.size A w A w := Tr.refl (Dw := Dw) hA
  have hH : Hp w.heap.size A w [] := Hp.nil
  refine C_seq ?_
  refine C_region ?_
  refine V_y (Y_assign rfl) rfl rfl rfl ?_
  refine V_to (fun _ _ => rfl) ?_
  refine C_seq ?_
  refine C_seq ?_
  refine C_region ?_
  refine V_y (Y_move rfl) rfl rfl rfl ?_
  refine V_y (Y_lenSl h_s1 rfl Tryz.underlying43 rfl) rfl rfl rfl ?_
  refine V_y (Y_move rfl) rfl rfl rfl ?_
  refine V_y (Y_lenSl h_s2 rfl Tryz.underlying43 rfl) rfl rfl rfl ?_
  refine V_y (Y_neq rfl rfl) rfl rfl rfl ?_
  refine V_to (fun _ _ => rfl) ?_
  refine C_cond rfl (fun hc5 => ?_) (fun hc5 => ?_)
  · rw [if_pos hc5] at hm
    refine C_seq ?_
    refine C_region ?_
    refine V_y (Y_assign rfl) rfl rfl rfl ?_
    refine V_to (fun _ _ => rfl) ?_
    obtain rfl := Option.some.inj hm
    refine C_ret ?_
    try simp only [↓inBlock_ret, ↓then_ret]
    exact retQ rfl (Res.one Tryz.results43 rfl) ⟨rfl, hK.kp⟩
  · rw [if_neg (nt hc5)] at hm
    refine C_skip_to (fun _ _ => rfl) ?_
    refine C_seq ?_
    refine C_seq ?_
    refine C_region ?_
    refine V_y (Y_move rfl) rfl rfl rfl ?_
    refine V_y (Y_lenSl h_s1 rfl Tryz.underlying43 rfl) rfl rfl rfl ?_
    refine V_y (Y_move rfl) rfl rfl rfl ?_
    refine V_to (fun _ _ => rfl) ?_
    have hn27 := Sl.le h_s1
    obtain ⟨o6, ho6, hm⟩ := Option.bind_eq_some_iff.1 hm
    refine C_cutG (ι := (Unit × (Nat → Prop))) (fun ⟨s7, A13⟩ => []) (fun ⟨s7, A13⟩ => fun w' => o6 = .fin s7 ∧ Hp w.heap.size A13 w' ([]) ∧ Tr Dw w.heap.size A w A13 w') ?_ ?_
    · refine C_block ?_
      refine C_range ho6 (fun k9 _ a w' => ∃ i : (Nat → Prop), Has ⟨26, [], none⟩ a ([(0, v_s1), (1, v_s2), (12, .int .i64 (s1.length : Int)), (13, .int .i64 (k9 : Int))]) ∧ Hp w.heap.size i w' ([]) ∧ Tr Dw w.heap.size A w i w') (fun a ha => ⟨A, ha.sub ⟨rfl, rfl, rfl, rfl, trivial⟩, ⟨hH, Tr.refl (Dw := Dw) hA⟩⟩) ?_
      rintro K k9 _ a w17 ⟨A18, ha45, hH19, hr8⟩ hle23 K26 h25
      refine C_of ?_ ha45
      replace h_s1 := Sl.tr (Dw := Dw) h_s1 hr8
      replace h_s2 := Sl.tr (Dw := Dw) h_s2 hr8
      replace hK := Tr.trans (Dw := Dw) hK hr8
      replace hB := Nat.le_trans hB hr8.ex.size
      replace hA := hr8.new
      replace hH : Hp w.heap.size A18 w17 ([]) := hH19
      refine C_seq (C_region (V_y (Y_lss rfl rfl) rfl rfl rfl (V_to (fun _ _ => rfl) ?_)))
      refine C_seq ?_
      refine C_cond rfl (fun hc28 => ?_) (fun hc28 => ?_)
      · have hlt24 := lt_of_dec hc28
        obtain ⟨x20, h21, h22⟩ := K26 hlt24
        refine C_skip_to (fun _ _ => rfl) ?_
        refine C_seq ?_
        refine C_block ?_
        refine C_seq ?_
        refine C_region ?_
        refine V_y (Y_move rfl) rfl rfl rfl ?_
        refine V_y (Y_assign rfl) rfl rfl rfl ?_
        refine V_to (fun _ _ => rfl) ?_
        refine C_seq ?_
        refine C_region_q (Dw := Dw) Tryz_mixed (by kernel_rfl) ?_
        refine VQ_y (fun w' hw' => Y_move rfl) rfl rfl rfl ?_
        refine VQ_y (fun w' hw' => Y_move rfl) rfl rfl rfl ?_
        obtain ⟨x29, hx29, h21⟩ := Option.bind_eq_some_iff.1 h21
        refine VQ_indexAddr h_s1 hx29 Tryz.underlying43 Tryz.sizeOf51 rfl rfl rfl ?_
        intro b30 o31 h32
        obtain ⟨h33, _⟩ := El_level_Test h32
        refine VQ_y (fun w' hw' => Y_loadA (At.kp (Dw := Dw) h33 hw' h32.2.1) Tryz.isAgg51 Tryz.sizeOf51 rfl) rfl rfl rfl ?_
        refine VQ_y (fun w' hw' => Y_move rfl) rfl rfl rfl ?_
        refine VQ_y (fun w' hw' => Y_move rfl) rfl rfl rfl ?_
        obtain ⟨x34, hx34, h21⟩ := Option.bind_eq_some_iff.1 h21
        refine VQ_indexAddr h_s2 hx34 Tryz.underlying43 Tryz.sizeOf51 rfl rfl rfl ?_
        intro b35 o36 h37
        obtain ⟨h38, _⟩ := El_level_Test h37
        refine VQ_y (fun w' hw' => Y_loadA (At.kp (Dw := Dw) h38 hw' h37.2.1) Tryz.isAgg51 Tryz.sizeOf51 rfl) rfl rfl rfl ?_
        refine VQ_y (fun w' hw' => Y_neqA (fun w => Tryz_eqt51_10000 x29.field x29.value.kind x29.value.int x29.value.text x34.field x34.value.kind x34.value.int x34.value.text w) Tryz_eqg51 rfl rfl) rfl rfl rfl ?_
        refine VQ_to (fun _ _ => rfl) (fun w39 hk40 => ?_)
        have ht41 := Kp.tr (Dw := Dw) hk40 hA hB
        replace hH := Hp.kp (Dw := Dw) hH hk40
        replace h_s1 := Sl.tr (Dw := Dw) h_s1 ht41
        replace h_s2 := Sl.tr (Dw := Dw) h_s2 ht41
        replace hK := Tr.trans (Dw := Dw) hK ht41
        replace hr8 := Tr.trans (Dw := Dw) hr8 ht41
        replace hB := Nat.le_trans hB ht41.ex.size
        replace hA := ht41.new
        refine C_cond rfl (fun hc42 => ?_) (fun hc42 => ?_)
        · rw [if_pos hc42] at h21
          refine C_seq ?_
          refine C_region ?_
          refine V_y (Y_assign rfl) rfl rfl rfl ?_
          refine V_to (fun _ _ => rfl) ?_
          obtain rfl := Option.some.inj h21
          obtain rfl := (h22 : Lp.rt _ = _)
          rw [Lp.andThen_rt] at hm
          obtain rfl := Option.some.inj hm
          refine C_ret ?_
          try simp only [↓inBlock_ret, ↓then_ret]
          exact retQ rfl (Res.one Tryz.results43 rfl) ⟨rfl, hK.kp⟩
        · rw [if_neg (nt hc42)] at h21
          refine C_skip_to (fun _ _ => rfl) ?_
          refine C_region ?_
          refine V_y (Y_addI rfl rfl) rfl rfl rfl ?_
          refine V_y (Y_move rfl) rfl rfl rfl ?_
          obtain rfl := Option.some.inj h21
          refine V_end (fun a ha43 => ?_)
          exact ⟨(), hlt24, h22, ⟨A18, ha43.sub ⟨rfl, rfl, rfl, (congrArg (fun z => some (Value.int .i64 z)) (w64_succ hlt24 hn27)), trivial⟩, ⟨hH, hr8⟩⟩⟩
      · refine C_exit (fun a ha44 => ?_)
        exact ⟨((), A18), ha44.sub trivial, ⟨(h25 (eq_of_dec hle23 hc28)).symm, hH, hr8⟩⟩
    rintro ⟨s7, A13⟩ w10 ⟨rfl, hH14, hk11⟩ a ha12
    rw [Lp.andThen_fin] at hm
    replace hK := Tr.trans (Dw := Dw) hK hk11
    replace hB := Nat.le_trans hB hk11.ex.size
    replace hA := hk11.new
    replace hH : Hp w.heap.size A13 w10 ([]) := hH14
    refine C_at (n := ⟨26, [], none⟩) (fun _ _ => rfl) ?_ ha12
    refine C_seq ?_
    refine C_region ?_
    refine V_y (Y_assign rfl) rfl rfl rfl ?_
    refine V_to (fun _ _ => rfl) ?_
    obtain rfl := Option.some.inj hm
    refine C_ret ?_
    try simp only [↓inBlock_ret, ↓then_ret]
    exact retQ rfl (Res.one Tryz.results43 rfl) ⟨rfl, hK.kp⟩

set_option maxRecDepth 4000 in
set_option maxHeartbeats 4000000 in
theorem slices_Equal_Llevel_Target_level_Target_c (w : World) {A : Nat → Prop} (hA : ∀ b, w.heap.size ≤ b → A b) (s1 : (List level_Target)) (v_s1 : Value) (h_s1 : Sl A w v_s1 s1) (s2 : (List level_Target)) (v_s2 : Value) (h_s2 : Sl A w v_s2 s2) {r : Bool} (hm : slices_Equal_Llevel_Target_level_Target s1 s2 = some r) : Ret Tryz.prog 44 #[v_s1, v_s2] w fun v w' => v = .bool r ∧ Kp Dw w w' := by
  unfold slices_Equal_Llevel_Target_level_Target at hm
  refine enter Tryz.func44 rfl Tryz.ntmps44 rfl ?_
  have hA0 := hA
  have hB := Nat.le_refl w.heap.size
  have hK : Tr Dw w.heap.size A w A w := Tr.refl (Dw := Dw) hA
  have hH : Hp w.heap.size A w [] := Hp.nil
  refine C_seq ?_
  refine C_region ?_
  refine V_y (Y_assign rfl) rfl rfl rfl ?_
  refine V_to (fun _ _ => rfl) ?_
  refine C_seq ?_
  refine C_seq ?_
  refine C_region ?_
  refine V_y (Y_move rfl) rfl rfl rfl ?_
  refine V_y (Y_lenSl h_s1 rfl Tryz.underlying44 rfl) rfl rfl rfl ?_
  refine V_y (Y_move rfl) rfl rfl rfl ?_
  refine V_y (Y_lenSl h_s2 rfl Tryz.underlying44 rfl) rfl rfl rfl ?_
  refine V_y (Y_neq rfl rfl) rfl rfl rfl ?_
  refine V_to (fun _ _ => rfl) ?_
  refine C_cond rfl (fun hc5 => ?_) (fun hc5 => ?_)
  · rw [if_pos hc5] at hm
    refine C_seq ?_
    refine C_region ?_
    refine V_y (Y_assign rfl) rfl rfl rfl ?_
    refine V_to (fun _ _ => rfl) ?_
    obtain rfl := Option.some.inj hm
    refine C_ret ?_
    try simp only [↓inBlock_ret, ↓then_ret]
    exact retQ rfl (Res.one Tryz.results44 rfl) ⟨rfl, hK.kp⟩
  · rw [if_neg (nt hc5)] at hm
    refine C_skip_to (fun _ _ => rfl) ?_
    refine C_seq ?_
    refine C_seq ?_
    refine C_region ?_
    refine V_y (Y_move rfl) rfl rfl rfl ?_
    refine V_y (Y_lenSl h_s1 rfl Tryz.underlying44 rfl) rfl rfl rfl ?_
    refine V_y (Y_move rfl) rfl rfl rfl ?_
    refine V_to (fun _ _ => rfl) ?_
    have hn27 := Sl.le h_s1
    obtain ⟨o6, ho6, hm⟩ := Option.bind_eq_some_iff.1 hm
    refine C_cutG (ι := (Unit × (Nat → Prop))) (fun ⟨s7, A13⟩ => []) (fun ⟨s7, A13⟩ => fun w' => o6 = .fin s7 ∧ Hp w.heap.size A13 w' ([]) ∧ Tr Dw w.heap.size A w A13 w') ?_ ?_
    · refine C_block ?_
      refine C_range ho6 (fun k9 _ a w' => ∃ i : (Nat → Prop), Has ⟨26, [], none⟩ a ([(0, v_s1), (1, v_s2), (12, .int .i64 (s1.length : Int)), (13, .int .i64 (k9 : Int))]) ∧ Hp w.heap.size i w' ([]) ∧ Tr Dw w.heap.size A w i w') (fun a ha => ⟨A, ha.sub ⟨rfl, rfl, rfl, rfl, trivial⟩, ⟨hH, Tr.refl (Dw := Dw) hA⟩⟩) ?_
      rintro K k9 _ a w17 ⟨A18, ha45, hH19, hr8⟩ hle23 K26 h25
      refine C_of ?_ ha45
      replace h_s1 := Sl.tr (Dw := Dw) h_s1 hr8
      replace h_s2 := Sl.tr (Dw := Dw) h_s2 hr8
      replace hK := Tr.trans (Dw := Dw) hK hr8
      replace hB := Nat.le_trans hB hr8.ex.size
      replace hA := hr8.new
      replace hH : Hp w.heap.size A18 w17 ([]) := hH19
      refine C_seq (C_region (V_y (Y_lss rfl rfl) rfl rfl rfl (V_to (fun _ _ => rfl) ?_)))
      refine C_seq ?_
      refine C_cond rfl (fun hc28 => ?_) (fun hc28 => ?_)
      · have hlt24 := lt_of_dec hc28
        obtain ⟨x20, h21, h22⟩ := K26 hlt24
        refine C_skip_to (fun _ _ => rfl) ?_
        refine C_seq ?_
        refine C_block ?_
        refine C_seq ?_
        refine C_region ?_
        refine V_y (Y_move rfl) rfl rfl rfl ?_
        refine V_y (Y_assign rfl) rfl rfl rfl ?_
        refine V_to (fun _ _ => rfl) ?_
        refine C_seq ?_
        refine C_region_q (Dw := Dw) Tryz_mixed (by kernel_rfl) ?_
        refine VQ_y (fun w' hw' => Y_move rfl) rfl rfl rfl ?_
        refine VQ_y (fun w' hw' => Y_move rfl) rfl rfl rfl ?_
        obtain ⟨x29, hx29, h21⟩ := Option.bind_eq_some_iff.1 h21
        refine VQ_indexAddr h_s1 hx29 Tryz.underlying44 Tryz.sizeOf56 rfl rfl rfl ?_
        intro b30 o31 h32
        obtain ⟨h33, _⟩ := El_level_Target h32
        refine VQ_y (fun w' hw' => Y_loadA (At.kp (Dw := Dw) h33 hw' h32.2.1) Tryz.isAgg56 Tryz.sizeOf56 rfl) rfl rfl rfl ?_
        refine VQ_y (fun w' hw' => Y_move rfl) rfl rfl rfl ?_
        refine VQ_y (fun w' hw' => Y_move rfl) rfl rfl rfl ?_
        obtain ⟨x34, hx34, h21⟩ := Option.bind_eq_some_iff.1 h21
        refine VQ_indexAddr h_s2 hx34 Tryz.underlying44 Tryz.sizeOf56 rfl rfl rfl ?_
        intro b35 o36 h37
        obtain ⟨h38, _⟩ := El_level_Target h37
        refine VQ_y (fun w' hw' => Y_loadA (At.kp (Dw := Dw) h38 hw' h37.2.1) Tryz.isAgg56 Tryz.sizeOf56 rfl) rfl rfl rfl ?_
        refine VQ_y (fun w' hw' => Y_neqA (fun w => Tryz_eqt56_10000 x29.kind x29.minutes x29.calendar x34.kind x34.minutes x34.calendar w) Tryz_eqg56 rfl rfl) rfl rfl rfl ?_
        refine VQ_to (fun _ _ => rfl) (fun w39 hk40 => ?_)
        have ht41 := Kp.tr (Dw := Dw) hk40 hA hB
        replace hH := Hp.kp (Dw := Dw) hH hk40
        replace h_s1 := Sl.tr (Dw := Dw) h_s1 ht41
        replace h_s2 := Sl.tr (Dw := Dw) h_s2 ht41
        replace hK := Tr.trans (Dw := Dw) hK ht41
        replace hr8 := Tr.trans (Dw := Dw) hr8 ht41
        replace hB := Nat.le_trans hB ht41.ex.size
        replace hA := ht41.new
        refine C_cond rfl (fun hc42 => ?_) (fun hc42 => ?_)
        · rw [if_pos hc42] at h21
          refine C_seq ?_
          refine C_region ?_
          refine V_y (Y_assign rfl) rfl rfl rfl ?_
          refine V_to (fun _ _ => rfl) ?_
          obtain rfl := Option.some.inj h21
          obtain rfl := (h22 : Lp.rt _ = _)
          rw [Lp.andThen_rt] at hm
          obtain rfl := Option.some.inj hm
          refine C_ret ?_
          try simp only [↓inBlock_ret, ↓then_ret]
          exact retQ rfl (Res.one Tryz.results44 rfl) ⟨rfl, hK.kp⟩
        · rw [if_neg (nt hc42)] at h21
          refine C_skip_to (fun _ _ => rfl) ?_
          refine C_region ?_
          refine V_y (Y_addI rfl rfl) rfl rfl rfl ?_
          refine V_y (Y_move rfl) rfl rfl rfl ?_
          obtain rfl := Option.some.inj h21
          refine V_end (fun a ha43 => ?_)
          exact ⟨(), hlt24, h22, ⟨A18, ha43.sub ⟨rfl, rfl, rfl, (congrArg (fun z => some (Value.int .i64 z)) (w64_succ hlt24 hn27)), trivial⟩, ⟨hH, hr8⟩⟩⟩
      · refine C_exit (fun a ha44 => ?_)
        exact ⟨((), A18), ha44.sub trivial, ⟨(h25 (eq_of_dec hle23 hc28)).symm, hH, hr8⟩⟩
    rintro ⟨s7, A13⟩ w10 ⟨rfl, hH14, hk11⟩ a ha12
    rw [Lp.andThen_fin] at hm
    replace hK := Tr.trans (Dw := Dw) hK hk11
    replace hB := Nat.le_trans hB hk11.ex.size
    replace hA := hk11.new
    replace hH : Hp w.heap.size A13 w10 ([]) := hH14
    refine C_at (n := ⟨26, [], none⟩) (fun _ _ => rfl) ?_ ha12
    refine C_seq ?_
    refine C_region ?_
    refine V_y (Y_assign rfl) rfl rfl rfl ?_
    refine V_to (fun _ _ => rfl) ?_
    obtain rfl := Option.some.inj hm
    refine C_ret ?_
    try simp only [↓inBlock_ret, ↓then_ret]
    exact retQ rfl (Res.one Tryz.results44 rfl) ⟨rfl, hK.kp⟩

set_option maxRecDepth 4000 in
set_option maxHeartbeats 4000000 in
theorem portref2_Alike_8_c (w : World) {A : Nat → Prop} (hA : ∀ b, w.heap.size ≤ b → A b) (a_ : level_Level) (v_a_0 : Value) (h_a_0 : Sl A w v_a_0 a_.tests) (v_a_1 : Value) (h_a_1 : Sl A w v_a_1 a_.targets) (b : level_Level) (v_b0 : Value) (h_b0 : Sl A w v_b0 b.tests) (v_b1 : Value) (h_b1 : Sl A w v_b1 b.targets) {r : Bool} (hm : portref2_Alike_8 a_ b = some r) : Ret Tryz.prog 42 #[.agg #[.string a_.name, v_a_0, v_a_1], .agg #[.string b.name, v_b0, v_b1]] w fun v w' => v = .bool r ∧ Kp Dw w w' := by
  unfold portref2_Alike_8 at hm
  refine enter Tryz.func42 rfl Tryz.ntmps42 rfl ?_
  have hA0 := hA
  have hB := Nat.le_refl w.heap.size
  have hK : Tr Dw w.heap.size A w A w := Tr.refl (Dw := Dw) hA
  have hH : Hp w.heap.size A w [] := Hp.nil
  refine C_seq ?_
  refine C_region ?_
  refine V_box rfl rfl ?_
  intro b9 w10 h11
  have hk13 := h11.kp (Dw := Dw)
  have h12 : El (α := level_Level) A w10 b9 0 a_ := h11.el hA ⟨[.string a_.name], _, rfl, rfl, ⟨[v_a_0], _, rfl, ⟨_, rfl, h_a_0⟩, ⟨_, rfl, h_a_1⟩⟩⟩
  have ht14 := Kp.tr (Dw := Dw) hk13 hA hB
  replace hH := Hp.kp (Dw := Dw) hH hk13
  replace h_a_0 := Sl.tr (Dw := Dw) h_a_0 ht14
  replace h_a_1 := Sl.tr (Dw := Dw) h_a_1 ht14
  replace h_b0 := Sl.tr (Dw := Dw) h_b0 ht14
  replace h_b1 := Sl.tr (Dw := Dw) h_b1 ht14
  replace hK := Tr.trans (Dw := Dw) hK ht14
  replace hB := Nat.le_trans hB ht14.ex.size
  replace hA := ht14.new
  refine V_box rfl rfl ?_
  intro b15 w17 h18
  have hk20 := h18.kp (Dw := Dw)
  have h19 : El (α := level_Level) A w17 b15 0 b := h18.el hA ⟨[.string b.name], _, rfl, rfl, ⟨[v_b0], _, rfl, ⟨_, rfl, h_b0⟩, ⟨_, rfl, h_b1⟩⟩⟩
  have ht21 := Kp.tr (Dw := Dw) hk20 hA hB
  replace hH := Hp.kp (Dw := Dw) hH hk20
  replace h_a_0 := Sl.tr (Dw := Dw) h_a_0 ht21
  replace h_a_1 := Sl.tr (Dw := Dw) h_a_1 ht21
  replace h_b0 := Sl.tr (Dw := Dw) h_b0 ht21
  replace h_b1 := Sl.tr (Dw := Dw) h_b1 ht21
  replace h12 := El.tr (Dw := Dw) h12 ht21
  replace hK := Tr.trans (Dw := Dw) hK ht21
  replace hB := Nat.le_trans hB ht21.ex.size
  replace hA := ht21.new
  refine V_y (Y_assign rfl) rfl rfl rfl ?_
  refine V_to (fun _ _ => rfl) ?_
  refine C_seq ?_
  obtain ⟨s23, ho22, hm⟩ := Option.bind_eq_some_iff.1 hm
  refine C_cutG (ι := (Nat → Prop)) (fun (A28 : (Nat → Prop)) => [(4, .bool s23)]) (fun (A28 : (Nat → Prop)) => fun w' => Hp w.heap.size A28 w' ([]) ∧ Tr Dw w.heap.size A w17 A28 w') ?_ ?_
  · have hr24 : Tr Dw w.heap.size A w17 A w17 := Tr.refl (Dw := Dw) hA
    refine C_region ?_
    have h30 := El_level_Level_0 h12
    refine V_y (Y_fieldAddr Tryz.underlying46 rfl Tryz.sizeOf9 (by decide) rfl) rfl rfl rfl ?_
    refine V_y (Y_load (El.str h30) Tryz.isAgg9 rfl) rfl rfl rfl ?_
    have h31 := El_level_Level_0 h19
    refine V_y (Y_fieldAddr Tryz.underlying46 rfl Tryz.sizeOf9 (by decide) rfl) rfl rfl rfl ?_
    refine V_y (Y_load (El.str h31) Tryz.isAgg9 rfl) rfl rfl rfl ?_
    refine V_y (Y_seql rfl rfl) rfl rfl rfl ?_
    refine V_y (Y_move rfl) rfl rfl rfl ?_
    rcases Bool.eq_false_or_eq_true (strEq a_.name b.name) with hc32 | hc32
    · rw [if_pos hc32] at ho22
      refine V_ge rfl rfl rfl hc32 ?_
      have h33 := El_level_Level_1 h12
      refine V_y (Y_fieldAddr Tryz.underlying46 rfl Tryz.sizeOf43 (by decide) rfl) rfl rfl rfl ?_
      refine V_ge rfl rfl rfl hc32 ?_
      obtain ⟨v34, h35, h36⟩ := El.list h33
      refine V_y (Y_load h35 Tryz.isAgg43 rfl) rfl rfl rfl ?_
      refine V_ge rfl rfl rfl hc32 ?_
      have h37 := El_level_Level_1 h19
      refine V_y (Y_fieldAddr Tryz.underlying46 rfl Tryz.sizeOf43 (by decide) rfl) rfl rfl rfl ?_
      refine V_ge rfl rfl rfl hc32 ?_
      obtain ⟨v38, h39, h40⟩ := El.list h37
      refine V_y (Y_load h39 Tryz.isAgg43 rfl) rfl rfl rfl ?_
      refine V_ge rfl rfl rfl hc32 ?_
      obtain ⟨x41, hx41, ho22⟩ := Option.bind_eq_some_iff.1 ho22
      refine V_call Tryz.call43 rfl rfl rfl rfl (slices_Equal_Llevel_Test_level_Test_c (Dw := Dw) w17 hA a_.tests v34 h36 b.tests v38 h40 hx41) ?_
      rintro _ w42 ⟨rfl, hk43⟩
      have ht44 := Kp.tr (Dw := Dw) hk43 hA hB
      replace hH := Hp.kp (Dw := Dw) hH hk43
      replace h12 := El.tr (Dw := Dw) h12 ht44
      replace h19 := El.tr (Dw := Dw) h19 ht44
      replace h30 := El.tr (Dw := Dw) h30 ht44
      replace h31 := El.tr (Dw := Dw) h31 ht44
      replace h33 := El.tr (Dw := Dw) h33 ht44
      replace h36 := Sl.tr (Dw := Dw) h36 ht44
      replace h37 := El.tr (Dw := Dw) h37 ht44
      replace h40 := Sl.tr (Dw := Dw) h40 ht44
      replace hK := Tr.trans (Dw := Dw) hK ht44
      replace hr24 := Tr.trans (Dw := Dw) hr24 ht44
      replace hB := Nat.le_trans hB ht44.ex.size
      replace hA := ht44.new
      refine V_y (Y_pick_te rfl hc32 rfl) rfl rfl rfl ?_
      refine V_y (Y_move rfl) rfl rfl rfl ?_
      rcases Bool.eq_false_or_eq_true (x41) with hc45 | hc45
      · rw [if_pos hc45] at ho22
        refine V_ge rfl rfl rfl hc45 ?_
        have h46 := El_level_Level_2 h12
        refine V_y (Y_fieldAddr Tryz.underlying46 rfl Tryz.sizeOf44 (by decide) rfl) rfl rfl rfl ?_
        refine V_ge rfl rfl rfl hc45 ?_
        obtain ⟨v47, h48, h49⟩ := El.list h46
        refine V_y (Y_load h48 Tryz.isAgg44 rfl) rfl rfl rfl ?_
        refine V_ge rfl rfl rfl hc45 ?_
        have h50 := El_level_Level_2 h19
        refine V_y (Y_fieldAddr Tryz.underlying46 rfl Tryz.sizeOf44 (by decide) rfl) rfl rfl rfl ?_
        refine V_ge rfl rfl rfl hc45 ?_
        obtain ⟨v51, h52, h53⟩ := El.list h50
        refine V_y (Y_load h52 Tryz.isAgg44 rfl) rfl rfl rfl ?_
        refine V_ge rfl rfl rfl hc45 ?_
        obtain ⟨x54, hx54, ho22⟩ := Option.bind_eq_some_iff.1 ho22
        refine V_call Tryz.call44 rfl rfl rfl rfl (slices_Equal_Llevel_Target_level_Target_c (Dw := Dw) w42 hA a_.targets v47 h49 b.targets v51 h53 hx54) ?_
        rintro _ w55 ⟨rfl, hk56⟩
        have ht57 := Kp.tr (Dw := Dw) hk56 hA hB
        replace hH := Hp.kp (Dw := Dw) hH hk56
        replace h12 := El.tr (Dw := Dw) h12 ht57
        replace h19 := El.tr (Dw := Dw) h19 ht57
        replace h30 := El.tr (Dw := Dw) h30 ht57
        replace h31 := El.tr (Dw := Dw) h31 ht57
        replace h33 := El.tr (Dw := Dw) h33 ht57
        replace h36 := Sl.tr (Dw := Dw) h36 ht57
        replace h37 := El.tr (Dw := Dw) h37 ht57
        replace h40 := Sl.tr (Dw := Dw) h40 ht57
        replace h46 := El.tr (Dw := Dw) h46 ht57
        replace h49 := Sl.tr (Dw := Dw) h49 ht57
        replace h50 := El.tr (Dw := Dw) h50 ht57
        replace h53 := Sl.tr (Dw := Dw) h53 ht57
        replace hK := Tr.trans (Dw := Dw) hK ht57
        replace hr24 := Tr.trans (Dw := Dw) hr24 ht57
        replace hB := Nat.le_trans hB ht57.ex.size
        replace hA := ht57.new
        refine V_y (Y_pick_te rfl hc45 rfl) rfl rfl rfl ?_
        refine V_y (Y_assign rfl) rfl rfl rfl ?_
        obtain rfl := Option.some.inj ho22
        refine V_end (fun a ha58 => ?_)
        exact ⟨A, ha58.sub ⟨rfl, trivial⟩, ⟨hH, hr24⟩⟩
      · rw [if_neg (nt hc45)] at ho22
        refine V_gn rfl rfl rfl hc45 rfl rfl rfl ?_
        refine V_gn rfl rfl rfl hc45 rfl rfl rfl ?_
        refine V_gn rfl rfl rfl hc45 rfl rfl rfl ?_
        refine V_gn rfl rfl rfl hc45 rfl rfl rfl ?_
        refine V_gn rfl rfl rfl hc45 rfl rfl rfl ?_
        refine V_y (Y_pick_fe rfl hc45 rfl) rfl rfl rfl ?_
        refine V_y (Y_assign rfl) rfl rfl rfl ?_
        obtain rfl := Option.some.inj ho22
        refine V_end (fun a ha59 => ?_)
        exact ⟨A, ha59.sub ⟨rfl, trivial⟩, ⟨hH, hr24⟩⟩
    · rw [if_neg (nt hc32)] at ho22
      refine V_gn rfl rfl rfl hc32 rfl rfl rfl ?_
      refine V_gn rfl rfl rfl hc32 rfl rfl rfl ?_
      refine V_gn rfl rfl rfl hc32 rfl rfl rfl ?_
      refine V_gn rfl rfl rfl hc32 rfl rfl rfl ?_
      refine V_gn rfl rfl rfl hc32 rfl rfl rfl ?_
      refine V_y (Y_pick_fe rfl hc32 rfl) rfl rfl rfl ?_
      refine V_y (Y_move rfl) rfl rfl rfl ?_
      rcases Bool.eq_false_or_eq_true (false) with hc60 | hc60
      · rw [if_pos hc60] at ho22
        refine V_ge rfl rfl rfl hc60 ?_
        have h61 := El_level_Level_2 h12
        refine V_y (Y_fieldAddr Tryz.underlying46 rfl Tryz.sizeOf44 (by decide) rfl) rfl rfl rfl ?_
        refine V_ge rfl rfl rfl hc60 ?_
        obtain ⟨v62, h63, h64⟩ := El.list h61
        refine V_y (Y_load h63 Tryz.isAgg44 rfl) rfl rfl rfl ?_
        refine V_ge rfl rfl rfl hc60 ?_
        have h65 := El_level_Level_2 h19
        refine V_y (Y_fieldAddr Tryz.underlying46 rfl Tryz.sizeOf44 (by decide) rfl) rfl rfl rfl ?_
        refine V_ge rfl rfl rfl hc60 ?_
        obtain ⟨v66, h67, h68⟩ := El.list h65
        refine V_y (Y_load h67 Tryz.isAgg44 rfl) rfl rfl rfl ?_
        refine V_ge rfl rfl rfl hc60 ?_
        obtain ⟨x69, hx69, ho22⟩ := Option.bind_eq_some_iff.1 ho22
        refine V_call Tryz.call44 rfl rfl rfl rfl (slices_Equal_Llevel_Target_level_Target_c (Dw := Dw) w17 hA a_.targets v62 h64 b.targets v66 h68 hx69) ?_
        rintro _ w70 ⟨rfl, hk71⟩
        have ht72 := Kp.tr (Dw := Dw) hk71 hA hB
        replace hH := Hp.kp (Dw := Dw) hH hk71
        replace h12 := El.tr (Dw := Dw) h12 ht72
        replace h19 := El.tr (Dw := Dw) h19 ht72
        replace h30 := El.tr (Dw := Dw) h30 ht72
        replace h31 := El.tr (Dw := Dw) h31 ht72
        replace h61 := El.tr (Dw := Dw) h61 ht72
        replace h64 := Sl.tr (Dw := Dw) h64 ht72
        replace h65 := El.tr (Dw := Dw) h65 ht72
        replace h68 := Sl.tr (Dw := Dw) h68 ht72
        replace hK := Tr.trans (Dw := Dw) hK ht72
        replace hr24 := Tr.trans (Dw := Dw) hr24 ht72
        replace hB := Nat.le_trans hB ht72.ex.size
        replace hA := ht72.new
        refine V_y (Y_pick_te rfl hc60 rfl) rfl rfl rfl ?_
        refine V_y (Y_assign rfl) rfl rfl rfl ?_
        obtain rfl := Option.some.inj ho22
        refine V_end (fun a ha73 => ?_)
        exact ⟨A, ha73.sub ⟨rfl, trivial⟩, ⟨hH, hr24⟩⟩
      · rw [if_neg (nt hc60)] at ho22
        refine V_gn rfl rfl rfl hc60 rfl rfl rfl ?_
        refine V_gn rfl rfl rfl hc60 rfl rfl rfl ?_
        refine V_gn rfl rfl rfl hc60 rfl rfl rfl ?_
        refine V_gn rfl rfl rfl hc60 rfl rfl rfl ?_
        refine V_gn rfl rfl rfl hc60 rfl rfl rfl ?_
        refine V_y (Y_pick_fe rfl hc60 rfl) rfl rfl rfl ?_
        refine V_y (Y_assign rfl) rfl rfl rfl ?_
        obtain rfl := Option.some.inj ho22
        refine V_end (fun a ha74 => ?_)
        exact ⟨A, ha74.sub ⟨rfl, trivial⟩, ⟨hH, hr24⟩⟩
  rintro A28 w25 ⟨hH29, hk26⟩ a ha27
  replace hK := Tr.trans (Dw := Dw) hK hk26
  replace hB := Nat.le_trans hB hk26.ex.size
  replace hA := hk26.new
  replace hH : Hp w.heap.size A28 w25 ([]) := hH29
  refine C_at (n := ⟨24, [], none⟩) (fun _ _ => rfl) ?_ ha27
  obtain rfl := Option.some.inj hm
  refine C_ret ?_
  try simp only [↓inBlock_ret, ↓then_ret]
  exact retQ rfl (Res.one Tryz.results42 rfl) ⟨rfl, hK.kp⟩

end Go.Proofs.YtcbebdcofipcpaaGreatDoor.W
