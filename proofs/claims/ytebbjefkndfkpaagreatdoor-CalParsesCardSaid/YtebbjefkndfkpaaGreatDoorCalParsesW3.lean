/-
  Written by program (gen.py) from the IR of the dump: each function computes its model.
-/
import Derived.Test.YtebbjefkndfkpaaGreatDoorCalParsesW2
namespace Go.Proofs.YtebbjefkndfkpaaGreatDoor.W
open Go Go.RowKit Go.Pu Go.Gw Go.Proofs Go.Proofs.YtebbjefkndfkpaaGreatDoor.M
set_option linter.unusedVariables false
set_option linter.unusedSimpArgs false
variable {Dw : Prop}

set_option maxRecDepth 4000 in
set_option maxHeartbeats 4000000 in
theorem portref2_ReadCalendarOf_c (w : World) {A : Nat → Prop} (hA : ∀ b, w.heap.size ≤ b → A b) (hT : Fz Tryz_FR A w) (s : ByteArray) {r : (cal_Calendar × Int × Int)} (hm : portref2_ReadCalendarOf s = some r) : Ret Tryz.prog 5 #[.string s] w fun v w' => ∃ s0 s1 s2, v = .tuple #[.agg #[.int .i64 r.1.zone.offset, s0, s1, s2], .int .i64 r.2.1, .int .i64 r.2.2] ∧ Sl A w' s0 r.1.zone.changes ∧ Sl A w' s1 r.1.week ∧ Sl A w' s2 r.1.specials ∧ Kp False w w' := by
  unfold portref2_ReadCalendarOf at hm
  refine enter Tryz.func5 rfl Tryz.ntmps5 rfl ?_
  have hA0 := hA
  have hB := Nat.le_refl w.heap.size
  have hK : Tr False w.heap.size A w A w := Tr.refl (Dw := False) hA
  have hH : Hp w.heap.size A w [] := Hp.nil
  refine C_seq ?_
  refine C_region ?_
  refine V_allocH (Dw := False) (B := w.heap.size) hH Tryz.zeroValue28 hB hA rfl ?_
  intro b1 w2 A3 hH4 ht5
  replace hK := Tr.trans (Dw := False) hK ht5
  replace hB := Nat.le_trans hB ht5.ex.size
  replace hA := ht5.new
  replace hH : Hp w.heap.size A3 w2 (obC b1 [.int .i64 0, .slice none 0 0, .slice none 0 0, .slice none 0 0] 28 :: []) := hH4
  refine V_y (Y_assign rfl) rfl rfl rfl ?_
  refine V_y (Y_assign rfl) rfl rfl rfl ?_
  refine V_to (fun _ _ => rfl) ?_
  refine C_seq ?_
  refine C_seq ?_
  refine C_region ?_
  refine V_y (Y_move rfl) rfl rfl rfl ?_
  refine V_y (Y_lenStr rfl Tryz.underlying9 rfl) rfl rfl rfl ?_
  refine V_y (Y_gtr rfl rfl) rfl rfl rfl ?_
  refine V_to (fun _ _ => rfl) ?_
  refine C_cond rfl (fun hc6 => ?_) (fun hc6 => ?_)
  · rw [if_pos hc6] at hm
    refine C_seq ?_
    refine C_region ?_
    refine V_y (Y_build (cells := #[.int .i64 0, .slice none 0 0, .slice none 0 0, .slice none 0 0]) Tryz.underlying28 Tryz.zeroValue28 (Tryz_places28 _ Tryz.underlying28) rfl (by with_unfolding_all rfl)) rfl rfl rfl ?_
    refine V_storeC (Dw := False) (off := 0) (ds := [.int .i64 0, .slice none 0 0, .slice none 0 0, .slice none 0 0]) hH (i := 0) rfl Tryz.sizeOf28 rfl (Nat.le_of_ble_eq_true rfl) (by exact (List.forall_mem_cons.2 ⟨rfl, (List.forall_mem_cons.2 ⟨rfl, (List.forall_mem_cons.2 ⟨rfl, (List.forall_mem_cons.2 ⟨rfl, (fun _ h => nomatch h)⟩)⟩)⟩)⟩)) rfl hB hA rfl rfl ?_
    intro w7 hH8 ht9
    replace hK := Tr.trans (Dw := False) hK ht9
    replace hB := Nat.le_trans hB ht9.ex.size
    replace hA := ht9.new
    replace hH : Hp w.heap.size A3 w7 (obC b1 [.int .i64 0, .slice none 0 0, .slice none 0 0, .slice none 0 0] 28 :: []) := hH8
    refine V_y (Y_assign rfl) rfl rfl rfl ?_
    refine V_y (Y_assign rfl) rfl rfl rfl ?_
    refine V_to (fun _ _ => rfl) ?_
    obtain rfl := Option.some.inj hm
    refine C_ret ?_
    try simp only [↓inBlock_ret, ↓then_ret]
    exact retQ rfl (Res.l3 Tryz.results5 (RL.cell rfl (loadVar_agg (Hp.part (off := 0) (n := 4) (ds := [.int .i64 0, .slice none 0 0, .slice none 0 0, .slice none 0 0]) hH (i := 0) rfl rfl) Tryz.isAgg28 Tryz.sizeOf28)) (RL.tmp rfl) (RL.tmp rfl)) ⟨.slice none 0 0, .slice none 0 0, .slice none 0 0, rfl, Sl.nil, Sl.nil, Sl.nil, hK.kp⟩
  · rw [if_neg (nt hc6)] at hm
    refine C_skip_to (fun _ _ => rfl) ?_
    refine C_seq ?_
    refine C_region ?_
    refine V_allocH (Dw := False) (B := w.heap.size) hH Tryz.zeroValue28 hB hA rfl ?_
    intro b10 w11 A12 hH13 ht14
    replace hK := Tr.trans (Dw := False) hK ht14
    replace hB := Nat.le_trans hB ht14.ex.size
    replace hA := ht14.new
    replace hH : Hp w.heap.size A12 w11 (obC b10 [.int .i64 0, .slice none 0 0, .slice none 0 0, .slice none 0 0] 28 :: obC b1 [.int .i64 0, .slice none 0 0, .slice none 0 0, .slice none 0 0] 28 :: []) := hH13
    refine V_to (fun _ _ => rfl) ?_
    refine C_seq ?_
    refine C_region ?_
    refine V_buildOwnH (Dw := False) (l := ([(⟨#[122, 111, 110, 101]⟩ : ByteArray), (⟨#[99, 104, 97, 110, 103, 101]⟩ : ByteArray), (⟨#[115, 104, 105, 102, 116]⟩ : ByteArray), (⟨#[100, 97, 121]⟩ : ByteArray)] : List ByteArray)) (len := 4) hH Tryz.underlying39 Tryz.sizeOf9 Tryz.zeroValue9 rfl (by with_unfolding_all rfl) (show (4 * 1 : Nat) ≠ 0 by decide) (show (4 * 1 : Nat) ≤ 2 ^ 24 by decide) hB hA ⟨[.string (⟨#[122, 111, 110, 101]⟩ : ByteArray)], _, rfl, rfl, ⟨[.string (⟨#[99, 104, 97, 110, 103, 101]⟩ : ByteArray)], _, rfl, rfl, ⟨[.string (⟨#[115, 104, 105, 102, 116]⟩ : ByteArray)], _, rfl, rfl, ⟨[.string (⟨#[100, 97, 121]⟩ : ByteArray)], _, rfl, rfl, rfl⟩⟩⟩⟩ rfl rfl ?_
    intro v15 w17 A20 hH22 ht21
    replace hK := Tr.trans (Dw := False) hK ht21
    replace hB := Nat.le_trans hB ht21.ex.size
    replace hA := ht21.new
    replace hH : Hp w.heap.size A20 w17 (obS (α := ByteArray) 9 v15 ([(⟨#[122, 111, 110, 101]⟩ : ByteArray), (⟨#[99, 104, 97, 110, 103, 101]⟩ : ByteArray), (⟨#[115, 104, 105, 102, 116]⟩ : ByteArray), (⟨#[100, 97, 121]⟩ : ByteArray)] : List ByteArray) :: obC b10 [.int .i64 0, .slice none 0 0, .slice none 0 0, .slice none 0 0] 28 :: obC b1 [.int .i64 0, .slice none 0 0, .slice none 0 0, .slice none 0 0] 28 :: []) := hH22
    refine V_y (Y_assign rfl) rfl rfl rfl ?_
    refine V_to (fun _ _ => rfl) ?_
    refine C_seq ?_
    refine C_region ?_
    refine V_y (Y_assign rfl) rfl rfl rfl ?_
    refine V_to (fun _ _ => rfl) ?_
    refine C_seq ?_
    refine C_region ?_
    refine V_y (Y_move rfl) rfl rfl rfl ?_
    obtain ⟨x23, hx23, hm⟩ := Option.bind_eq_some_iff.1 hm
    refine V_call Tryz.call10 rfl rfl rfl rfl (strings_SplitAfter_c (Dw := False) w17 hA (Fz.tr (Dw := False) hT hK) s (⟨#[10]⟩ : ByteArray) hx23) ?_
    rintro v24 w26 ⟨_, rfl, h25, hk27⟩
    have ht28 := Kp.tr (Dw := False) hk27 hA hB
    replace hH := Hp.kp (Dw := False) hH hk27
    replace hK := Tr.trans (Dw := False) hK ht28
    replace hB := Nat.le_trans hB ht28.ex.size
    replace hA := ht28.new
    refine V_y (Y_assign rfl) rfl rfl rfl ?_
    refine V_to (fun _ _ => rfl) ?_
    refine C_seq ?_
    refine C_seq ?_
    refine C_region ?_
    refine V_y (Y_move rfl) rfl rfl rfl ?_
    refine V_y (Y_lenSl h25 rfl Tryz.underlying39 rfl) rfl rfl rfl ?_
    refine V_y (Y_move rfl) rfl rfl rfl ?_
    refine V_to (fun _ _ => rfl) ?_
    replace hH : Hp w.heap.size A20 w26 (obS (α := cal_Change) 49 (.slice none 0 0) ([] : (List cal_Change)) :: obS (α := ByteArray) 9 v15 ([(⟨#[122, 111, 110, 101]⟩ : ByteArray), (⟨#[99, 104, 97, 110, 103, 101]⟩ : ByteArray), (⟨#[115, 104, 105, 102, 116]⟩ : ByteArray), (⟨#[100, 97, 121]⟩ : ByteArray)] : List ByteArray) :: obC b10 [.int .i64 0, .slice none 0 0, .slice none 0 0, .slice none 0 0] 28 :: obC b1 [.int .i64 0, .slice none 0 0, .slice none 0 0, .slice none 0 0] 28 :: []) := Hp.addNil (α := cal_Change) (e := 49) hH
    replace hH : Hp w.heap.size A20 w26 (obS (α := cal_Shift) 51 (.slice none 0 0) ([] : (List cal_Shift)) :: obS (α := cal_Change) 49 (.slice none 0 0) ([] : (List cal_Change)) :: obS (α := ByteArray) 9 v15 ([(⟨#[122, 111, 110, 101]⟩ : ByteArray), (⟨#[99, 104, 97, 110, 103, 101]⟩ : ByteArray), (⟨#[115, 104, 105, 102, 116]⟩ : ByteArray), (⟨#[100, 97, 121]⟩ : ByteArray)] : List ByteArray) :: obC b10 [.int .i64 0, .slice none 0 0, .slice none 0 0, .slice none 0 0] 28 :: obC b1 [.int .i64 0, .slice none 0 0, .slice none 0 0, .slice none 0 0] 28 :: []) := Hp.addNil (α := cal_Shift) (e := 51) hH
    replace hH : Hp w.heap.size A20 w26 (obS (α := cal_Special) 53 (.slice none 0 0) ([] : (List cal_Special)) :: obS (α := cal_Shift) 51 (.slice none 0 0) ([] : (List cal_Shift)) :: obS (α := cal_Change) 49 (.slice none 0 0) ([] : (List cal_Change)) :: obS (α := ByteArray) 9 v15 ([(⟨#[122, 111, 110, 101]⟩ : ByteArray), (⟨#[99, 104, 97, 110, 103, 101]⟩ : ByteArray), (⟨#[115, 104, 105, 102, 116]⟩ : ByteArray), (⟨#[100, 97, 121]⟩ : ByteArray)] : List ByteArray) :: obC b10 [.int .i64 0, .slice none 0 0, .slice none 0 0, .slice none 0 0] 28 :: obC b1 [.int .i64 0, .slice none 0 0, .slice none 0 0, .slice none 0 0] 28 :: []) := Hp.addNil (α := cal_Special) (e := 53) hH
    have hn73 := Sl.le h25
    obtain ⟨o29, ho29, hm⟩ := Option.bind_eq_some_iff.1 hm
    refine C_cutG (ι := ((Int × cal_Calendar × cal_Calendar) × Value × Value × Value × Value × Value × Value × (Nat → Prop))) (fun ⟨s30, v36, v38, v40, v42, v44, v46, A48⟩ => [(2, .pointer (some ⟨b1, 0, none⟩)), (5, .pointer (some ⟨b10, 0, none⟩))]) (fun ⟨s30, v36, v38, v40, v42, v44, v46, A48⟩ => fun w' => o29 = .fin s30 ∧ Sl A48 w' v42 s30.2.2.zone.changes ∧ Sl A48 w' v44 s30.2.2.week ∧ Sl A48 w' v46 s30.2.2.specials ∧ Hp w.heap.size A48 w' (obS (α := cal_Special) 53 v40 s30.2.1.specials :: obS (α := cal_Shift) 51 v38 s30.2.1.week :: obS (α := cal_Change) 49 v36 s30.2.1.zone.changes :: obS (α := ByteArray) 9 v15 ([(⟨#[122, 111, 110, 101]⟩ : ByteArray), (⟨#[99, 104, 97, 110, 103, 101]⟩ : ByteArray), (⟨#[115, 104, 105, 102, 116]⟩ : ByteArray), (⟨#[100, 97, 121]⟩ : ByteArray)] : List ByteArray) :: obC b10 [.int .i64 s30.2.1.zone.offset, v36, v38, v40] 28 :: obC b1 [.int .i64 s30.2.2.zone.offset, v42, v44, v46] 28 :: []) ∧ Tr False w.heap.size A20 w26 A48 w') ?_ ?_
    · refine C_block ?_
      refine C_range ho29 (fun k32 s50 a w' => ∃ i : (Value × Value × Value × Value × Value × Value × (Nat → Prop)), Has ⟨211, [], none⟩ a ([(2, .pointer (some ⟨b1, 0, none⟩)), (5, .pointer (some ⟨b10, 0, none⟩)), (6, v15), (7, .int .i64 s50.1), (8, v24), (28, v24), (29, .int .i64 (x23.length : Int)), (30, .int .i64 (k32 : Int))]) ∧ Sl i.2.2.2.2.2.2 w' i.2.2.2.1 s50.2.2.zone.changes ∧ Sl i.2.2.2.2.2.2 w' i.2.2.2.2.1 s50.2.2.week ∧ Sl i.2.2.2.2.2.2 w' i.2.2.2.2.2.1 s50.2.2.specials ∧ Hp w.heap.size i.2.2.2.2.2.2 w' (obS (α := cal_Special) 53 i.2.2.1 s50.2.1.specials :: obS (α := cal_Shift) 51 i.2.1 s50.2.1.week :: obS (α := cal_Change) 49 i.1 s50.2.1.zone.changes :: obS (α := ByteArray) 9 v15 ([(⟨#[122, 111, 110, 101]⟩ : ByteArray), (⟨#[99, 104, 97, 110, 103, 101]⟩ : ByteArray), (⟨#[115, 104, 105, 102, 116]⟩ : ByteArray), (⟨#[100, 97, 121]⟩ : ByteArray)] : List ByteArray) :: obC b10 [.int .i64 s50.2.1.zone.offset, i.1, i.2.1, i.2.2.1] 28 :: obC b1 [.int .i64 s50.2.2.zone.offset, i.2.2.2.1, i.2.2.2.2.1, i.2.2.2.2.2.1] 28 :: []) ∧ Tr False w.heap.size A20 w26 i.2.2.2.2.2.2 w') (fun a ha => ⟨(.slice none 0 0, .slice none 0 0, .slice none 0 0, .slice none 0 0, .slice none 0 0, .slice none 0 0, A20), ha.sub ⟨rfl, rfl, rfl, rfl, rfl, rfl, rfl, rfl, trivial⟩, ⟨Sl.nil, Sl.nil, Sl.nil, hH, Tr.refl (Dw := False) hA⟩⟩) ?_
      rintro K k32 s50 a w51 ⟨⟨v52, v54, v56, v58, v60, v62, A64⟩, ha432, h59, h61, h63, hH65, hr31⟩ hle69 K72 h71
      refine C_of ?_ ha432
      replace h25 := Sl.tr (Dw := False) h25 hr31
      replace hK := Tr.trans (Dw := False) hK hr31
      replace hB := Nat.le_trans hB hr31.ex.size
      replace hA := hr31.new
      replace hH : Hp w.heap.size A64 w51 (obS (α := cal_Special) 53 v56 s50.2.1.specials :: obS (α := cal_Shift) 51 v54 s50.2.1.week :: obS (α := cal_Change) 49 v52 s50.2.1.zone.changes :: obS (α := ByteArray) 9 v15 ([(⟨#[122, 111, 110, 101]⟩ : ByteArray), (⟨#[99, 104, 97, 110, 103, 101]⟩ : ByteArray), (⟨#[115, 104, 105, 102, 116]⟩ : ByteArray), (⟨#[100, 97, 121]⟩ : ByteArray)] : List ByteArray) :: obC b10 [.int .i64 s50.2.1.zone.offset, v52, v54, v56] 28 :: obC b1 [.int .i64 s50.2.2.zone.offset, v58, v60, v62] 28 :: []) := hH65
      refine C_seq (C_region (V_y (Y_lss rfl rfl) rfl rfl rfl (V_to (fun _ _ => rfl) ?_)))
      refine C_seq ?_
      refine C_cond rfl (fun hc74 => ?_) (fun hc74 => ?_)
      · have hlt70 := lt_of_dec hc74
        obtain ⟨x66, h67, h68⟩ := K72 hlt70
        refine C_skip_to (fun _ _ => rfl) ?_
        refine C_seq ?_
        refine C_block ?_
        refine C_seq ?_
        refine C_region ?_
        refine V_y (Y_move rfl) rfl rfl rfl ?_
        obtain ⟨x75, hx75, h67⟩ := Option.bind_eq_some_iff.1 h67
        refine V_indexAddr h25 hx75 Tryz.underlying39 Tryz.sizeOf9 rfl rfl rfl ?_
        intro b76 o77 h78
        refine V_y (Y_load (El.str h78) Tryz.isAgg9 rfl) rfl rfl rfl ?_
        refine V_alloc Tryz.zeroValue3 rfl ?_
        intro b79 w80 h81
        refine V_storeNew h81 Tryz.sizeOf3 rfl rfl rfl rfl (by simp [Value.cells, Value.oneCell']) ?_
        intro w82 h83
        have hk85 := h83.kp (Dw := False)
        have h84 : El (α := Int) A64 w82 b79 0 (k32 : Int) := h83.el hA rfl
        have ht86 := Kp.tr (Dw := False) hk85 hA hB
        replace hH := Hp.kp (Dw := False) hH hk85
        replace h25 := Sl.tr (Dw := False) h25 ht86
        replace h78 := El.tr (Dw := False) h78 ht86
        replace h59 := Sl.tr (Dw := False) h59 ht86
        replace h61 := Sl.tr (Dw := False) h61 ht86
        replace h63 := Sl.tr (Dw := False) h63 ht86
        replace hK := Tr.trans (Dw := False) hK ht86
        replace hr31 := Tr.trans (Dw := False) hr31 ht86
        replace hB := Nat.le_trans hB ht86.ex.size
        replace hA := ht86.new
        refine V_y (Y_assign rfl) rfl rfl rfl ?_
        refine V_to (fun _ _ => rfl) ?_
        refine C_seq ?_
        refine C_seq ?_
        refine C_region ?_
        refine V_y (Y_move rfl) rfl rfl rfl ?_
        refine V_y (Y_seql rfl rfl) rfl rfl rfl ?_
        refine V_y (Y_move rfl) rfl rfl rfl ?_
        refine V_cut 6 (fun _ : Unit => [(2, .pointer (some ⟨b1, 0, none⟩)), (5, .pointer (some ⟨b10, 0, none⟩)), (6, v15), (7, .int .i64 s50.1), (8, v24), (9, .pointer (some ⟨b79, 0, none⟩)), (10, .string x75), (28, v24), (29, .int .i64 (x23.length : Int)), (30, .int .i64 (k32 : Int)), (43, .bool ((strEq x75 (⟨#[]⟩ : ByteArray)) && ((k32 : Int) == (w64 ((x23.length : Int) - 1)))))]) (fun _ w' => w82 = w') ?_ ?_
        · simp only [List.take, List.drop]
          rcases Bool.eq_false_or_eq_true (strEq x75 (⟨#[]⟩ : ByteArray)) with hc87 | hc87
          · refine V_ge rfl rfl rfl hc87 ?_
            refine V_y (Y_load (El.int h84) Tryz.isAgg3 rfl) rfl rfl rfl ?_
            refine V_ge rfl rfl rfl hc87 ?_
            refine V_y (Y_move rfl) rfl rfl rfl ?_
            refine V_ge rfl rfl rfl hc87 ?_
            refine V_y (Y_lenSl h25 rfl Tryz.underlying39 rfl) rfl rfl rfl ?_
            refine V_ge rfl rfl rfl hc87 ?_
            refine V_y (Y_subI rfl rfl) rfl rfl rfl ?_
            refine V_ge rfl rfl rfl hc87 ?_
            refine V_y (Y_eql rfl rfl) rfl rfl rfl ?_
            refine V_y (Y_pick_te rfl hc87 rfl) rfl rfl rfl ?_
            exact V_end fun a ha => ⟨(), ha.sub ⟨rfl, rfl, rfl, rfl, rfl, rfl, rfl, rfl, rfl, rfl, (by rw [hc87]; rfl), trivial⟩, rfl⟩
          · refine V_gn rfl rfl rfl hc87 rfl rfl rfl ?_
            refine V_gn rfl rfl rfl hc87 rfl rfl rfl ?_
            refine V_gn rfl rfl rfl hc87 rfl rfl rfl ?_
            refine V_gn rfl rfl rfl hc87 rfl rfl rfl ?_
            refine V_gn rfl rfl rfl hc87 rfl rfl rfl ?_
            refine V_y (Y_pick_fe rfl hc87 rfl) rfl rfl rfl ?_
            exact V_end fun a ha => ⟨(), ha.sub ⟨rfl, rfl, rfl, rfl, rfl, rfl, rfl, rfl, rfl, rfl, (by rw [hc87]; rfl), trivial⟩, rfl⟩
        simp only [List.take, List.drop]
        rintro _ _ rfl
        refine V_y (Y_move rfl) rfl rfl rfl ?_
        refine V_cut 3 (fun _ : Unit => [(2, .pointer (some ⟨b1, 0, none⟩)), (5, .pointer (some ⟨b10, 0, none⟩)), (6, v15), (7, .int .i64 s50.1), (8, v24), (9, .pointer (some ⟨b79, 0, none⟩)), (10, .string x75), (28, v24), (29, .int .i64 (x23.length : Int)), (30, .int .i64 (k32 : Int)), (47, .bool (((strEq x75 (⟨#[]⟩ : ByteArray)) && ((k32 : Int) == (w64 ((x23.length : Int) - 1)))) && (decide ((0 : Int) < (k32 : Int)))))]) (fun _ w' => w82 = w') ?_ ?_
        · simp only [List.take, List.drop]
          rcases Bool.eq_false_or_eq_true (((strEq x75 (⟨#[]⟩ : ByteArray)) && ((k32 : Int) == (w64 ((x23.length : Int) - 1))))) with hc89 | hc89
          · refine V_ge rfl rfl rfl hc89 ?_
            refine V_y (Y_load (El.int h84) Tryz.isAgg3 rfl) rfl rfl rfl ?_
            refine V_ge rfl rfl rfl hc89 ?_
            refine V_y (Y_gtr rfl rfl) rfl rfl rfl ?_
            refine V_y (Y_pick_te rfl hc89 rfl) rfl rfl rfl ?_
            exact V_end fun a ha => ⟨(), ha.sub ⟨rfl, rfl, rfl, rfl, rfl, rfl, rfl, rfl, rfl, rfl, (by rw [hc89]; rfl), trivial⟩, rfl⟩
          · refine V_gn rfl rfl rfl hc89 rfl rfl rfl ?_
            refine V_gn rfl rfl rfl hc89 rfl rfl rfl ?_
            refine V_y (Y_pick_fe rfl hc89 rfl) rfl rfl rfl ?_
            exact V_end fun a ha => ⟨(), ha.sub ⟨rfl, rfl, rfl, rfl, rfl, rfl, rfl, rfl, rfl, rfl, (by rw [hc89]; rfl), trivial⟩, rfl⟩
        simp only [List.take, List.drop]
        rintro _ _ rfl
        refine V_to (fun _ _ => rfl) ?_
        refine C_cond rfl (fun hc91 => ?_) (fun hc91 => ?_)
        · rw [if_pos hc91] at h67
          obtain rfl := Option.some.inj h67
          refine C_exit (fun a ha92 => ?_)
          exact ⟨((s50.1, s50.2.1, s50.2.2), v52, v54, v56, v58, v60, v62, A64), ha92.sub ⟨rfl, rfl, trivial⟩, ⟨h68.symm, h59, h61, h63, hH, hr31⟩⟩
        · rw [if_neg (nt hc91)] at h67
          refine C_skip_to (fun _ _ => rfl) ?_
          refine C_seq ?_
          refine C_region ?_
          refine V_y (Y_makeFunc rfl rfl) rfl rfl rfl ?_
          refine V_y (Y_assign rfl) rfl rfl rfl ?_
          refine V_to (fun _ _ => rfl) ?_
          refine C_seq ?_
          refine C_region ?_
          refine V_y (Y_move rfl) rfl rfl rfl ?_
          obtain ⟨x93, hx93, h67⟩ := Option.bind_eq_some_iff.1 h67
          refine V_call Tryz.call12 rfl rfl rfl rfl (strings_CutSuffix_c w82 x75 (⟨#[10]⟩ : ByteArray) hx93) ?_
          rintro _ _ ⟨rfl, rfl⟩
          refine V_y (Y_move rfl) rfl rfl rfl ?_
          refine V_y (Y_extract rfl rfl) rfl rfl rfl ?_
          refine V_y (Y_extract rfl rfl) rfl rfl rfl ?_
          refine V_y (Y_assign rfl) rfl rfl rfl ?_
          refine V_y (Y_assign rfl) rfl rfl rfl ?_
          refine V_to (fun _ _ => rfl) ?_
          refine C_seq ?_
          refine C_region ?_
          refine V_y (Y_move rfl) rfl rfl rfl ?_
          obtain ⟨x94, hx94, h67⟩ := Option.bind_eq_some_iff.1 h67
          refine V_call Tryz.call13 rfl rfl rfl rfl (portref2_lineNumbers_c w82 hA (Fz.tr (Dw := False) hT hK) x93.1 9 hx94) ?_
          rintro _ w97 ⟨v95, rfl, h96, hk98⟩
          obtain ⟨A99, ht100, hH101⟩ := Hp.addOwnd (Dw := False) hH hB hA hk98 h96
          replace h25 := Sl.tr (Dw := False) h25 ht100
          replace h84 := El.tr (Dw := False) h84 ht100
          replace h59 := Sl.tr (Dw := False) h59 ht100
          replace h61 := Sl.tr (Dw := False) h61 ht100
          replace h63 := Sl.tr (Dw := False) h63 ht100
          replace hK := Tr.trans (Dw := False) hK ht100
          replace hr31 := Tr.trans (Dw := False) hr31 ht100
          replace hB := Nat.le_trans hB ht100.ex.size
          replace hA := ht100.new
          replace hH : Hp w.heap.size A99 w97 (obS (α := Int) 3 v95 x94.2.1 :: obS (α := cal_Special) 53 v56 s50.2.1.specials :: obS (α := cal_Shift) 51 v54 s50.2.1.week :: obS (α := cal_Change) 49 v52 s50.2.1.zone.changes :: obS (α := ByteArray) 9 v15 ([(⟨#[122, 111, 110, 101]⟩ : ByteArray), (⟨#[99, 104, 97, 110, 103, 101]⟩ : ByteArray), (⟨#[115, 104, 105, 102, 116]⟩ : ByteArray), (⟨#[100, 97, 121]⟩ : ByteArray)] : List ByteArray) :: obC b10 [.int .i64 s50.2.1.zone.offset, v52, v54, v56] 28 :: obC b1 [.int .i64 s50.2.2.zone.offset, v58, v60, v62] 28 :: []) := hH101
          refine V_y (Y_move rfl) rfl rfl rfl ?_
          refine V_y (Y_extract rfl rfl) rfl rfl rfl ?_
          refine V_y (Y_extract rfl rfl) rfl rfl rfl ?_
          refine V_y (Y_extract rfl rfl) rfl rfl rfl ?_
          refine V_y (Y_assign rfl) rfl rfl rfl ?_
          refine V_y (Y_assign rfl) rfl rfl rfl ?_
          refine V_y (Y_assign rfl) rfl rfl rfl ?_
          refine V_to (fun _ _ => rfl) ?_
          refine C_seq ?_
          refine C_region ?_
          refine V_y (Y_move rfl) rfl rfl rfl ?_
          refine V_y (Y_move rfl) rfl rfl rfl ?_
          obtain ⟨x102, hx102, h67⟩ := Option.bind_eq_some_iff.1 h67
          refine V_call Tryz.call14 rfl rfl rfl rfl (slices_Index_Lstring_string_c w97 ([(⟨#[122, 111, 110, 101]⟩ : ByteArray), (⟨#[99, 104, 97, 110, 103, 101]⟩ : ByteArray), (⟨#[115, 104, 105, 102, 116]⟩ : ByteArray), (⟨#[100, 97, 121]⟩ : ByteArray)] : List ByteArray) v15 (Hp.any (α := ByteArray) (e := 9) (v := v15) (l := ([(⟨#[122, 111, 110, 101]⟩ : ByteArray), (⟨#[99, 104, 97, 110, 103, 101]⟩ : ByteArray), (⟨#[115, 104, 105, 102, 116]⟩ : ByteArray), (⟨#[100, 97, 121]⟩ : ByteArray)] : List ByteArray)) hH (i := 4) rfl) x94.1 hx102) ?_
          rintro _ _ ⟨rfl, rfl⟩
          refine V_y (Y_assign rfl) rfl rfl rfl ?_
          refine V_to (fun _ _ => rfl) ?_
          refine C_seq ?_
          refine C_seq ?_
          refine C_region ?_
          refine V_y (Y_move rfl) rfl rfl rfl ?_
          refine V_y (Y_not rfl) rfl rfl rfl ?_
          refine V_y (Y_move rfl) rfl rfl rfl ?_
          refine V_cut 3 (fun _ : Unit => [(2, .pointer (some ⟨b1, 0, none⟩)), (5, .pointer (some ⟨b10, 0, none⟩)), (6, v15), (7, .int .i64 s50.1), (8, v24), (11, .func (.func 11) #[] #[.pointer (some ⟨b79, 0, none⟩)]), (15, v95), (17, .int .i64 x102), (28, v24), (29, .int .i64 (x23.length : Int)), (30, .int .i64 (k32 : Int)), (68, .bool ((!x93.2) || (!x94.2.2)))]) (fun _ w' => w97 = w') ?_ ?_
          · simp only [List.take, List.drop]
            rcases Bool.eq_false_or_eq_true (!x93.2) with hc103 | hc103
            · refine V_gn rfl rfl rfl hc103 rfl rfl rfl ?_
              refine V_gn rfl rfl rfl hc103 rfl rfl rfl ?_
              refine V_y (Y_pick_te rfl hc103 rfl) rfl rfl rfl ?_
              exact V_end fun a ha => ⟨(), ha.sub ⟨rfl, rfl, rfl, rfl, rfl, rfl, rfl, rfl, rfl, rfl, rfl, (by rw [hc103]; rfl), trivial⟩, rfl⟩
            · refine V_ge rfl rfl rfl hc103 ?_
              refine V_y (Y_move rfl) rfl rfl rfl ?_
              refine V_ge rfl rfl rfl hc103 ?_
              refine V_y (Y_not rfl) rfl rfl rfl ?_
              refine V_y (Y_pick_fe rfl hc103 rfl) rfl rfl rfl ?_
              exact V_end fun a ha => ⟨(), ha.sub ⟨rfl, rfl, rfl, rfl, rfl, rfl, rfl, rfl, rfl, rfl, rfl, (by rw [hc103]; rfl), trivial⟩, rfl⟩
          simp only [List.take, List.drop]
          rintro _ _ rfl
          refine V_y (Y_move rfl) rfl rfl rfl ?_
          refine V_cut 3 (fun _ : Unit => [(2, .pointer (some ⟨b1, 0, none⟩)), (5, .pointer (some ⟨b10, 0, none⟩)), (6, v15), (7, .int .i64 s50.1), (8, v24), (11, .func (.func 11) #[] #[.pointer (some ⟨b79, 0, none⟩)]), (15, v95), (17, .int .i64 x102), (28, v24), (29, .int .i64 (x23.length : Int)), (30, .int .i64 (k32 : Int)), (72, .bool (((!x93.2) || (!x94.2.2)) || (decide (x102 < 0))))]) (fun _ w' => w97 = w') ?_ ?_
          · simp only [List.take, List.drop]
            rcases Bool.eq_false_or_eq_true (((!x93.2) || (!x94.2.2))) with hc105 | hc105
            · refine V_gn rfl rfl rfl hc105 rfl rfl rfl ?_
              refine V_gn rfl rfl rfl hc105 rfl rfl rfl ?_
              refine V_y (Y_pick_te rfl hc105 rfl) rfl rfl rfl ?_
              exact V_end fun a ha => ⟨(), ha.sub ⟨rfl, rfl, rfl, rfl, rfl, rfl, rfl, rfl, rfl, rfl, rfl, (by rw [hc105]; rfl), trivial⟩, rfl⟩
            · refine V_ge rfl rfl rfl hc105 ?_
              refine V_y (Y_move rfl) rfl rfl rfl ?_
              refine V_ge rfl rfl rfl hc105 ?_
              refine V_y (Y_lss rfl rfl) rfl rfl rfl ?_
              refine V_y (Y_pick_fe rfl hc105 rfl) rfl rfl rfl ?_
              exact V_end fun a ha => ⟨(), ha.sub ⟨rfl, rfl, rfl, rfl, rfl, rfl, rfl, rfl, rfl, rfl, rfl, (by rw [hc105]; rfl), trivial⟩, rfl⟩
          simp only [List.take, List.drop]
          rintro _ _ rfl
          refine V_y (Y_move rfl) rfl rfl rfl ?_
          refine V_cut 4 (fun _ : Unit => [(2, .pointer (some ⟨b1, 0, none⟩)), (5, .pointer (some ⟨b10, 0, none⟩)), (6, v15), (7, .int .i64 s50.1), (8, v24), (11, .func (.func 11) #[] #[.pointer (some ⟨b79, 0, none⟩)]), (15, v95), (17, .int .i64 x102), (28, v24), (29, .int .i64 (x23.length : Int)), (30, .int .i64 (k32 : Int)), (77, .bool ((((!x93.2) || (!x94.2.2)) || (decide (x102 < 0))) || (decide (x102 < s50.1))))]) (fun _ w' => w97 = w') ?_ ?_
          · simp only [List.take, List.drop]
            rcases Bool.eq_false_or_eq_true ((((!x93.2) || (!x94.2.2)) || (decide (x102 < 0)))) with hc107 | hc107
            · refine V_gn rfl rfl rfl hc107 rfl rfl rfl ?_
              refine V_gn rfl rfl rfl hc107 rfl rfl rfl ?_
              refine V_gn rfl rfl rfl hc107 rfl rfl rfl ?_
              refine V_y (Y_pick_te rfl hc107 rfl) rfl rfl rfl ?_
              exact V_end fun a ha => ⟨(), ha.sub ⟨rfl, rfl, rfl, rfl, rfl, rfl, rfl, rfl, rfl, rfl, rfl, (by rw [hc107]; rfl), trivial⟩, rfl⟩
            · refine V_ge rfl rfl rfl hc107 ?_
              refine V_y (Y_move rfl) rfl rfl rfl ?_
              refine V_ge rfl rfl rfl hc107 ?_
              refine V_y (Y_move rfl) rfl rfl rfl ?_
              refine V_ge rfl rfl rfl hc107 ?_
              refine V_y (Y_lss rfl rfl) rfl rfl rfl ?_
              refine V_y (Y_pick_fe rfl hc107 rfl) rfl rfl rfl ?_
              exact V_end fun a ha => ⟨(), ha.sub ⟨rfl, rfl, rfl, rfl, rfl, rfl, rfl, rfl, rfl, rfl, rfl, (by rw [hc107]; rfl), trivial⟩, rfl⟩
          simp only [List.take, List.drop]
          rintro _ _ rfl
          refine V_y (Y_move rfl) rfl rfl rfl ?_
          refine V_cut 7 (fun _ : Unit => [(2, .pointer (some ⟨b1, 0, none⟩)), (5, .pointer (some ⟨b10, 0, none⟩)), (6, v15), (7, .int .i64 s50.1), (8, v24), (11, .func (.func 11) #[] #[.pointer (some ⟨b79, 0, none⟩)]), (15, v95), (17, .int .i64 x102), (28, v24), (29, .int .i64 (x23.length : Int)), (30, .int .i64 (k32 : Int)), (85, .bool (((((!x93.2) || (!x94.2.2)) || (decide (x102 < 0))) || (decide (x102 < s50.1))) || ((decide (s50.1 < 0)) && (x102 != 0))))]) (fun _ w' => w97 = w') ?_ ?_
          · simp only [List.take, List.drop]
            rcases Bool.eq_false_or_eq_true (((((!x93.2) || (!x94.2.2)) || (decide (x102 < 0))) || (decide (x102 < s50.1)))) with hc109 | hc109
            · refine V_gn rfl rfl rfl hc109 rfl rfl rfl ?_
              refine V_gn rfl rfl rfl hc109 rfl rfl rfl ?_
              refine V_gn rfl rfl rfl hc109 rfl rfl rfl ?_
              refine V_gu rfl rfl rfl rfl rfl ?_
              refine V_gu rfl rfl rfl rfl rfl ?_
              refine V_gn rfl rfl rfl hc109 rfl rfl rfl ?_
              refine V_y (Y_pick_te rfl hc109 rfl) rfl rfl rfl ?_
              exact V_end fun a ha => ⟨(), ha.sub ⟨rfl, rfl, rfl, rfl, rfl, rfl, rfl, rfl, rfl, rfl, rfl, (by rw [hc109]; rfl), trivial⟩, rfl⟩
            · refine V_ge rfl rfl rfl hc109 ?_
              refine V_y (Y_move rfl) rfl rfl rfl ?_
              refine V_ge rfl rfl rfl hc109 ?_
              refine V_y (Y_lss rfl rfl) rfl rfl rfl ?_
              refine V_ge rfl rfl rfl hc109 ?_
              refine V_y (Y_move rfl) rfl rfl rfl ?_
              refine V_cut 3 (fun _ : Unit => [(2, .pointer (some ⟨b1, 0, none⟩)), (5, .pointer (some ⟨b10, 0, none⟩)), (6, v15), (7, .int .i64 s50.1), (8, v24), (11, .func (.func 11) #[] #[.pointer (some ⟨b79, 0, none⟩)]), (15, v95), (17, .int .i64 x102), (28, v24), (29, .int .i64 (x23.length : Int)), (30, .int .i64 (k32 : Int)), (78, .bool ((((!x93.2) || (!x94.2.2)) || (decide (x102 < 0))) || (decide (x102 < s50.1)))), (84, .bool ((decide (s50.1 < 0)) && (x102 != 0)))]) (fun _ w' => w97 = w') ?_ ?_
              · simp only [List.take, List.drop]
                rcases Bool.eq_false_or_eq_true (decide (s50.1 < 0)) with hc111 | hc111
                · refine V_ge rfl rfl rfl hc111 ?_
                  refine V_y (Y_move rfl) rfl rfl rfl ?_
                  refine V_ge rfl rfl rfl hc111 ?_
                  refine V_y (Y_neq rfl rfl) rfl rfl rfl ?_
                  refine V_ge rfl rfl rfl hc109 ?_
                  refine V_y (Y_pick_te rfl hc111 rfl) rfl rfl rfl ?_
                  exact V_end fun a ha => ⟨(), ha.sub ⟨rfl, rfl, rfl, rfl, rfl, rfl, rfl, rfl, rfl, rfl, rfl, rfl, (by rw [hc111]; rfl), trivial⟩, rfl⟩
                · refine V_gn rfl rfl rfl hc111 rfl rfl rfl ?_
                  refine V_gn rfl rfl rfl hc111 rfl rfl rfl ?_
                  refine V_ge rfl rfl rfl hc109 ?_
                  refine V_y (Y_pick_fe rfl hc111 rfl) rfl rfl rfl ?_
                  exact V_end fun a ha => ⟨(), ha.sub ⟨rfl, rfl, rfl, rfl, rfl, rfl, rfl, rfl, rfl, rfl, rfl, rfl, (by rw [hc111]; rfl), trivial⟩, rfl⟩
              simp only [List.take, List.drop]
              rintro _ _ rfl
              refine V_y (Y_pick_fe rfl hc109 rfl) rfl rfl rfl ?_
              exact V_end fun a ha => ⟨(), ha.sub ⟨rfl, rfl, rfl, rfl, rfl, rfl, rfl, rfl, rfl, rfl, rfl, (by rw [hc109]; rfl), trivial⟩, rfl⟩
          simp only [List.take, List.drop]
          rintro _ _ rfl
          refine V_y (Y_move rfl) rfl rfl rfl ?_
          refine V_cut 7 (fun _ : Unit => [(2, .pointer (some ⟨b1, 0, none⟩)), (5, .pointer (some ⟨b10, 0, none⟩)), (6, v15), (8, v24), (11, .func (.func 11) #[] #[.pointer (some ⟨b79, 0, none⟩)]), (15, v95), (17, .int .i64 x102), (28, v24), (29, .int .i64 (x23.length : Int)), (30, .int .i64 (k32 : Int)), (93, .bool ((((((!x93.2) || (!x94.2.2)) || (decide (x102 < 0))) || (decide (x102 < s50.1))) || ((decide (s50.1 < 0)) && (x102 != 0))) || ((x102 == 0) && (decide ((0 : Int) ≤ s50.1)))))]) (fun _ w' => w97 = w') ?_ ?_
          · simp only [List.take, List.drop]
            rcases Bool.eq_false_or_eq_true ((((((!x93.2) || (!x94.2.2)) || (decide (x102 < 0))) || (decide (x102 < s50.1))) || ((decide (s50.1 < 0)) && (x102 != 0)))) with hc113 | hc113
            · refine V_gn rfl rfl rfl hc113 rfl rfl rfl ?_
              refine V_gn rfl rfl rfl hc113 rfl rfl rfl ?_
              refine V_gn rfl rfl rfl hc113 rfl rfl rfl ?_
              refine V_gu rfl rfl rfl rfl rfl ?_
              refine V_gu rfl rfl rfl rfl rfl ?_
              refine V_gn rfl rfl rfl hc113 rfl rfl rfl ?_
              refine V_y (Y_pick_te rfl hc113 rfl) rfl rfl rfl ?_
              exact V_end fun a ha => ⟨(), ha.sub ⟨rfl, rfl, rfl, rfl, rfl, rfl, rfl, rfl, rfl, rfl, (by rw [hc113]; rfl), trivial⟩, rfl⟩
            · refine V_ge rfl rfl rfl hc113 ?_
              refine V_y (Y_move rfl) rfl rfl rfl ?_
              refine V_ge rfl rfl rfl hc113 ?_
              refine V_y (Y_eql rfl rfl) rfl rfl rfl ?_
              refine V_ge rfl rfl rfl hc113 ?_
              refine V_y (Y_move rfl) rfl rfl rfl ?_
              refine V_cut 3 (fun _ : Unit => [(2, .pointer (some ⟨b1, 0, none⟩)), (5, .pointer (some ⟨b10, 0, none⟩)), (6, v15), (8, v24), (11, .func (.func 11) #[] #[.pointer (some ⟨b79, 0, none⟩)]), (15, v95), (17, .int .i64 x102), (28, v24), (29, .int .i64 (x23.length : Int)), (30, .int .i64 (k32 : Int)), (86, .bool (((((!x93.2) || (!x94.2.2)) || (decide (x102 < 0))) || (decide (x102 < s50.1))) || ((decide (s50.1 < 0)) && (x102 != 0)))), (92, .bool ((x102 == 0) && (decide ((0 : Int) ≤ s50.1))))]) (fun _ w' => w97 = w') ?_ ?_
              · simp only [List.take, List.drop]
                rcases Bool.eq_false_or_eq_true (x102 == 0) with hc115 | hc115
                · refine V_ge rfl rfl rfl hc115 ?_
                  refine V_y (Y_move rfl) rfl rfl rfl ?_
                  refine V_ge rfl rfl rfl hc115 ?_
                  refine V_y (Y_geq rfl rfl) rfl rfl rfl ?_
                  refine V_ge rfl rfl rfl hc113 ?_
                  refine V_y (Y_pick_te rfl hc115 rfl) rfl rfl rfl ?_
                  exact V_end fun a ha => ⟨(), ha.sub ⟨rfl, rfl, rfl, rfl, rfl, rfl, rfl, rfl, rfl, rfl, rfl, (by rw [hc115]; rfl), trivial⟩, rfl⟩
                · refine V_gn rfl rfl rfl hc115 rfl rfl rfl ?_
                  refine V_gn rfl rfl rfl hc115 rfl rfl rfl ?_
                  refine V_ge rfl rfl rfl hc113 ?_
                  refine V_y (Y_pick_fe rfl hc115 rfl) rfl rfl rfl ?_
                  exact V_end fun a ha => ⟨(), ha.sub ⟨rfl, rfl, rfl, rfl, rfl, rfl, rfl, rfl, rfl, rfl, rfl, (by rw [hc115]; rfl), trivial⟩, rfl⟩
              simp only [List.take, List.drop]
              rintro _ _ rfl
              refine V_y (Y_pick_fe rfl hc113 rfl) rfl rfl rfl ?_
              exact V_end fun a ha => ⟨(), ha.sub ⟨rfl, rfl, rfl, rfl, rfl, rfl, rfl, rfl, rfl, rfl, (by rw [hc113]; rfl), trivial⟩, rfl⟩
          simp only [List.take, List.drop]
          rintro _ _ rfl
          refine V_to (fun _ _ => rfl) ?_
          refine C_cond rfl (fun hc117 => ?_) (fun hc117 => ?_)
          · rw [if_pos hc117] at h67
            refine C_seq ?_
            refine C_region ?_
            refine V_y (Y_move rfl) rfl rfl rfl ?_
            obtain ⟨x118, hx118, h67⟩ := Option.bind_eq_some_iff.1 h67
            refine V_call Tryz.call11 rfl rfl rfl rfl (portref2_ReadCalendarOf_1_c (Dw := False) w97 hA (k32 : Int) b79 h84 hx118) ?_
            rintro _ w125 ⟨v119, v121, v123, rfl, h120, h122, h124, hk126⟩
            have ht127 := Kp.tr (Dw := False) hk126 hA hB
            replace hH := Hp.kp (Dw := False) hH hk126
            replace h25 := Sl.tr (Dw := False) h25 ht127
            replace h84 := El.tr (Dw := False) h84 ht127
            replace h59 := Sl.tr (Dw := False) h59 ht127
            replace h61 := Sl.tr (Dw := False) h61 ht127
            replace h63 := Sl.tr (Dw := False) h63 ht127
            replace hK := Tr.trans (Dw := False) hK ht127
            replace hr31 := Tr.trans (Dw := False) hr31 ht127
            replace hB := Nat.le_trans hB ht127.ex.size
            replace hA := ht127.new
            refine V_y (Y_extract rfl rfl) rfl rfl rfl ?_
            refine V_y (Y_extract rfl rfl) rfl rfl rfl ?_
            refine V_y (Y_extract rfl rfl) rfl rfl rfl ?_
            have h133 : (v119).oneCell' = true := by obtain ⟨_, _, e, _⟩ := Sl.form h120; rw [e]; rfl
            have h136 : (v121).oneCell' = true := by obtain ⟨_, _, e, _⟩ := Sl.form h122; rw [e]; rfl
            have h139 : (v123).oneCell' = true := by obtain ⟨_, _, e, _⟩ := Sl.form h124; rw [e]; rfl
            refine V_storeC (Dw := False) (off := 0) (ds := [.int .i64 x118.1.zone.offset, v119, v121, v123]) hH (i := 6) rfl Tryz.sizeOf28 rfl (Nat.le_of_ble_eq_true rfl) (by exact (List.forall_mem_cons.2 ⟨rfl, (List.forall_mem_cons.2 ⟨h133, (List.forall_mem_cons.2 ⟨h136, (List.forall_mem_cons.2 ⟨h139, (fun _ h => nomatch h)⟩)⟩)⟩)⟩)) rfl hB hA rfl rfl ?_
            intro w128 hH129 ht130
            replace h25 := Sl.tr (Dw := False) h25 ht130
            replace h84 := El.tr (Dw := False) h84 ht130
            replace h120 := Sl.tr (Dw := False) h120 ht130
            replace h122 := Sl.tr (Dw := False) h122 ht130
            replace h124 := Sl.tr (Dw := False) h124 ht130
            replace h59 := Sl.tr (Dw := False) h59 ht130
            replace h61 := Sl.tr (Dw := False) h61 ht130
            replace h63 := Sl.tr (Dw := False) h63 ht130
            replace hK := Tr.trans (Dw := False) hK ht130
            replace hr31 := Tr.trans (Dw := False) hr31 ht130
            replace hB := Nat.le_trans hB ht130.ex.size
            replace hA := ht130.new
            replace hH : Hp w.heap.size A99 w128 (obS (α := Int) 3 v95 x94.2.1 :: obS (α := cal_Special) 53 v56 s50.2.1.specials :: obS (α := cal_Shift) 51 v54 s50.2.1.week :: obS (α := cal_Change) 49 v52 s50.2.1.zone.changes :: obS (α := ByteArray) 9 v15 ([(⟨#[122, 111, 110, 101]⟩ : ByteArray), (⟨#[99, 104, 97, 110, 103, 101]⟩ : ByteArray), (⟨#[115, 104, 105, 102, 116]⟩ : ByteArray), (⟨#[100, 97, 121]⟩ : ByteArray)] : List ByteArray) :: obC b10 [.int .i64 s50.2.1.zone.offset, v52, v54, v56] 28 :: obC b1 [.int .i64 x118.1.zone.offset, v119, v121, v123] 28 :: []) := hH129
            refine V_y (Y_assign rfl) rfl rfl rfl ?_
            refine V_y (Y_assign rfl) rfl rfl rfl ?_
            refine V_to (fun _ _ => rfl) ?_
            obtain rfl := Option.some.inj h67
            obtain rfl := (h68 : Lp.rt _ = _)
            rw [Lp.andThen_rt] at hm
            obtain rfl := Option.some.inj hm
            refine C_ret ?_
            try simp only [↓inBlock_ret, ↓then_ret]
            exact retQ rfl (Res.l3 Tryz.results5 (RL.cell rfl (loadVar_agg (Hp.part (off := 0) (n := 4) (ds := [.int .i64 x118.1.zone.offset, v119, v121, v123]) hH (i := 6) rfl rfl) Tryz.isAgg28 Tryz.sizeOf28)) (RL.tmp rfl) (RL.tmp rfl)) ⟨v119, v121, v123, rfl, (Sl.out (Dw := False) h120 hA0 hK), (Sl.out (Dw := False) h122 hA0 hK), (Sl.out (Dw := False) h124 hA0 hK), hK.kp⟩
          · rw [if_neg (nt hc117)] at h67
            refine C_skip_to (fun _ _ => rfl) ?_
            refine C_seq ?_
            refine C_region ?_
            refine V_y (Y_move rfl) rfl rfl rfl ?_
            refine V_y (Y_assign rfl) rfl rfl rfl ?_
            refine V_to (fun _ _ => rfl) ?_
            obtain ⟨o140, ho140, h67⟩ := Option.bind_eq_some_iff.1 h67
            refine C_cutG (ι := ((cal_Calendar × cal_Calendar) × Value × Value × Value × Value × Value × Value × (Nat → Prop))) (fun ⟨s141, v143, v145, v147, v149, v151, v153, A158⟩ => [(2, .pointer (some ⟨b1, 0, none⟩)), (5, .pointer (some ⟨b10, 0, none⟩)), (6, v15), (7, .int .i64 x102), (8, v24), (28, v24), (29, .int .i64 (x23.length : Int)), (30, .int .i64 (k32 : Int))]) (fun ⟨s141, v143, v145, v147, v149, v151, v153, A158⟩ => fun w' => o140 = .fin s141 ∧ Sl A158 w' v149 s141.2.zone.changes ∧ Sl A158 w' v151 s141.2.week ∧ Sl A158 w' v153 s141.2.specials ∧ Hp w.heap.size A158 w' (obS (α := Int) 3 v95 x94.2.1 :: obS (α := cal_Special) 53 v147 s141.1.specials :: obS (α := cal_Shift) 51 v145 s141.1.week :: obS (α := cal_Change) 49 v143 s141.1.zone.changes :: obS (α := ByteArray) 9 v15 ([(⟨#[122, 111, 110, 101]⟩ : ByteArray), (⟨#[99, 104, 97, 110, 103, 101]⟩ : ByteArray), (⟨#[115, 104, 105, 102, 116]⟩ : ByteArray), (⟨#[100, 97, 121]⟩ : ByteArray)] : List ByteArray) :: obC b10 [.int .i64 s141.1.zone.offset, v143, v145, v147] 28 :: obC b1 [.int .i64 s141.2.zone.offset, v149, v151, v153] 28 :: []) ∧ Tr False w.heap.size A99 w97 A158 w') ?_ ?_
            · have hr142 : Tr False w.heap.size A99 w97 A99 w97 := Tr.refl (Dw := False) hA
              refine C_block ?_
              refine C_seq ?_
              refine C_region ?_
              refine V_y (Y_move rfl) rfl rfl rfl ?_
              refine V_y (Y_eql rfl rfl) rfl rfl rfl ?_
              refine V_y (Y_move rfl) rfl rfl rfl ?_
              refine V_cut 4 (fun _ : Unit => [(2, .pointer (some ⟨b1, 0, none⟩)), (5, .pointer (some ⟨b10, 0, none⟩)), (6, v15), (7, .int .i64 x102), (8, v24), (11, .func (.func 11) #[] #[.pointer (some ⟨b79, 0, none⟩)]), (15, v95), (17, .int .i64 x102), (28, v24), (29, .int .i64 (x23.length : Int)), (30, .int .i64 (k32 : Int)), (112, .bool ((x102 == 0) && ((x94.2.1.length : Int) == 1)))]) (fun _ w' => w97 = w') ?_ ?_
              · simp only [List.take, List.drop]
                rcases Bool.eq_false_or_eq_true (x102 == 0) with hc160 | hc160
                · refine V_ge rfl rfl rfl hc160 ?_
                  refine V_y (Y_move rfl) rfl rfl rfl ?_
                  refine V_ge rfl rfl rfl hc160 ?_
                  refine V_y (Y_lenSl (Hp.any (α := Int) (e := 3) (v := v95) (l := x94.2.1) hH (i := 0) rfl) rfl Tryz.underlying44 rfl) rfl rfl rfl ?_
                  refine V_ge rfl rfl rfl hc160 ?_
                  refine V_y (Y_eql rfl rfl) rfl rfl rfl ?_
                  refine V_y (Y_pick_te rfl hc160 rfl) rfl rfl rfl ?_
                  exact V_end fun a ha => ⟨(), ha.sub ⟨rfl, rfl, rfl, rfl, rfl, rfl, rfl, rfl, rfl, rfl, rfl, (by rw [hc160]; rfl), trivial⟩, rfl⟩
                · refine V_gn rfl rfl rfl hc160 rfl rfl rfl ?_
                  refine V_gn rfl rfl rfl hc160 rfl rfl rfl ?_
                  refine V_gn rfl rfl rfl hc160 rfl rfl rfl ?_
                  refine V_y (Y_pick_fe rfl hc160 rfl) rfl rfl rfl ?_
                  exact V_end fun a ha => ⟨(), ha.sub ⟨rfl, rfl, rfl, rfl, rfl, rfl, rfl, rfl, rfl, rfl, rfl, (by rw [hc160]; rfl), trivial⟩, rfl⟩
              simp only [List.take, List.drop]
              rintro _ _ rfl
              refine V_y (Y_assign rfl) rfl rfl rfl ?_
              refine V_to (fun _ _ => rfl) ?_
              obtain ⟨o162, ho162, ho140⟩ := Option.bind_eq_some_iff.1 ho140
              refine C_cutG (ι := ((cal_Calendar × cal_Calendar) × Value × Value × Value × Value × Value × Value × (Nat → Prop))) (fun ⟨s163, v165, v167, v169, v171, v173, v175, A180⟩ => [(2, .pointer (some ⟨b1, 0, none⟩)), (5, .pointer (some ⟨b10, 0, none⟩)), (6, v15), (7, .int .i64 x102), (8, v24), (28, v24), (29, .int .i64 (x23.length : Int)), (30, .int .i64 (k32 : Int))]) (fun ⟨s163, v165, v167, v169, v171, v173, v175, A180⟩ => fun w' => o162 = .fin s163 ∧ Sl A180 w' v171 s163.2.zone.changes ∧ Sl A180 w' v173 s163.2.week ∧ Sl A180 w' v175 s163.2.specials ∧ Hp w.heap.size A180 w' (obS (α := Int) 3 v95 x94.2.1 :: obS (α := cal_Special) 53 v169 s163.1.specials :: obS (α := cal_Shift) 51 v167 s163.1.week :: obS (α := cal_Change) 49 v165 s163.1.zone.changes :: obS (α := ByteArray) 9 v15 ([(⟨#[122, 111, 110, 101]⟩ : ByteArray), (⟨#[99, 104, 97, 110, 103, 101]⟩ : ByteArray), (⟨#[115, 104, 105, 102, 116]⟩ : ByteArray), (⟨#[100, 97, 121]⟩ : ByteArray)] : List ByteArray) :: obC b10 [.int .i64 s163.1.zone.offset, v165, v167, v169] 28 :: obC b1 [.int .i64 s163.2.zone.offset, v171, v173, v175] 28 :: []) ∧ Tr False w.heap.size A99 w97 A180 w') ?_ ?_
              · have hr164 : Tr False w.heap.size A99 w97 A99 w97 := Tr.refl (Dw := False) hA
                refine C_cond rfl (fun hc182 => ?_) (fun hc182 => ?_)
                · rw [if_pos hc182] at ho162
                  refine C_region ?_
                  refine V_y (Y_move rfl) rfl rfl rfl ?_
                  obtain ⟨x183, hx183, ho162⟩ := Option.bind_eq_some_iff.1 ho162
                  refine V_indexAddrH (α := Int) (e := 3) (v := v95) (l := x94.2.1) hH (i := 0) rfl hx183 Tryz.underlying44 Tryz.sizeOf3 rfl rfl rfl ?_
                  intro b184 o185 h186 hl187
                  refine V_y (Y_load (El.int h186) Tryz.isAgg3 rfl) rfl rfl rfl ?_
                  refine V_y (Y_fieldAddrC (off2 := 0) Tryz.underlying28 rfl Tryz.sizeOf24 (by decide) rfl rfl) rfl rfl rfl ?_
                  refine V_y (Y_fieldAddrC (off2 := 0) Tryz.underlying24 rfl Tryz.sizeOf3 (by decide) rfl rfl) rfl rfl rfl ?_
                  refine V_storeC (Dw := False) (off := 0) (ds := [.int .i64 x183, v52, v54, v56]) hH (i := 5) rfl Tryz.sizeOf3 rfl (Nat.le_of_ble_eq_true rfl) (by simp [Value.cells, Value.oneCell']) rfl hB hA rfl rfl ?_
                  intro w188 hH189 ht190
                  replace h25 := Sl.tr (Dw := False) h25 ht190
                  replace h84 := El.tr (Dw := False) h84 ht190
                  replace h59 := Sl.tr (Dw := False) h59 ht190
                  replace h61 := Sl.tr (Dw := False) h61 ht190
                  replace h63 := Sl.tr (Dw := False) h63 ht190
                  replace hK := Tr.trans (Dw := False) hK ht190
                  replace hr31 := Tr.trans (Dw := False) hr31 ht190
                  replace hr142 := Tr.trans (Dw := False) hr142 ht190
                  replace hr164 := Tr.trans (Dw := False) hr164 ht190
                  replace hB := Nat.le_trans hB ht190.ex.size
                  replace hA := ht190.new
                  replace hH : Hp w.heap.size A99 w188 (obS (α := Int) 3 v95 x94.2.1 :: obS (α := cal_Special) 53 v56 s50.2.1.specials :: obS (α := cal_Shift) 51 v54 s50.2.1.week :: obS (α := cal_Change) 49 v52 s50.2.1.zone.changes :: obS (α := ByteArray) 9 v15 ([(⟨#[122, 111, 110, 101]⟩ : ByteArray), (⟨#[99, 104, 97, 110, 103, 101]⟩ : ByteArray), (⟨#[115, 104, 105, 102, 116]⟩ : ByteArray), (⟨#[100, 97, 121]⟩ : ByteArray)] : List ByteArray) :: obC b10 [.int .i64 x183, v52, v54, v56] 28 :: obC b1 [.int .i64 s50.2.2.zone.offset, v58, v60, v62] 28 :: []) := hH189
                  obtain rfl := Option.some.inj ho162
                  refine V_end (fun a ha191 => ?_)
                  exact ⟨(((⟨(⟨x183, s50.2.1.zone.changes⟩ : cal_Zone), s50.2.1.week, s50.2.1.specials⟩ : cal_Calendar), s50.2.2), v52, v54, v56, v58, v60, v62, A99), ha191.sub ⟨rfl, rfl, rfl, rfl, rfl, rfl, rfl, rfl, trivial⟩, ⟨rfl, h59, h61, h63, hH, hr164⟩⟩
                · rw [if_neg (nt hc182)] at ho162
                  refine C_seq ?_
                  refine C_region ?_
                  refine V_y (Y_move rfl) rfl rfl rfl ?_
                  refine V_y (Y_eql rfl rfl) rfl rfl rfl ?_
                  refine V_y (Y_move rfl) rfl rfl rfl ?_
                  refine V_cut 4 (fun _ : Unit => [(2, .pointer (some ⟨b1, 0, none⟩)), (5, .pointer (some ⟨b10, 0, none⟩)), (6, v15), (7, .int .i64 x102), (8, v24), (11, .func (.func 11) #[] #[.pointer (some ⟨b79, 0, none⟩)]), (15, v95), (17, .int .i64 x102), (28, v24), (29, .int .i64 (x23.length : Int)), (30, .int .i64 (k32 : Int)), (125, .bool ((x102 == 1) && ((x94.2.1.length : Int) == 2)))]) (fun _ w' => w97 = w') ?_ ?_
                  · simp only [List.take, List.drop]
                    rcases Bool.eq_false_or_eq_true (x102 == 1) with hc192 | hc192
                    · refine V_ge rfl rfl rfl hc192 ?_
                      refine V_y (Y_move rfl) rfl rfl rfl ?_
                      refine V_ge rfl rfl rfl hc192 ?_
                      refine V_y (Y_lenSl (Hp.any (α := Int) (e := 3) (v := v95) (l := x94.2.1) hH (i := 0) rfl) rfl Tryz.underlying44 rfl) rfl rfl rfl ?_
                      refine V_ge rfl rfl rfl hc192 ?_
                      refine V_y (Y_eql rfl rfl) rfl rfl rfl ?_
                      refine V_y (Y_pick_te rfl hc192 rfl) rfl rfl rfl ?_
                      exact V_end fun a ha => ⟨(), ha.sub ⟨rfl, rfl, rfl, rfl, rfl, rfl, rfl, rfl, rfl, rfl, rfl, (by rw [hc192]; rfl), trivial⟩, rfl⟩
                    · refine V_gn rfl rfl rfl hc192 rfl rfl rfl ?_
                      refine V_gn rfl rfl rfl hc192 rfl rfl rfl ?_
                      refine V_gn rfl rfl rfl hc192 rfl rfl rfl ?_
                      refine V_y (Y_pick_fe rfl hc192 rfl) rfl rfl rfl ?_
                      exact V_end fun a ha => ⟨(), ha.sub ⟨rfl, rfl, rfl, rfl, rfl, rfl, rfl, rfl, rfl, rfl, rfl, (by rw [hc192]; rfl), trivial⟩, rfl⟩
                  simp only [List.take, List.drop]
                  rintro _ _ rfl
                  refine V_y (Y_assign rfl) rfl rfl rfl ?_
                  refine V_to (fun _ _ => rfl) ?_
                  obtain ⟨o194, ho194, ho162⟩ := Option.bind_eq_some_iff.1 ho162
                  refine C_cutG (ι := ((cal_Calendar × cal_Calendar) × Value × Value × Value × Value × Value × Value × (Nat → Prop))) (fun ⟨s195, v197, v199, v201, v203, v205, v207, A212⟩ => [(2, .pointer (some ⟨b1, 0, none⟩)), (5, .pointer (some ⟨b10, 0, none⟩)), (6, v15), (7, .int .i64 x102), (8, v24), (28, v24), (29, .int .i64 (x23.length : Int)), (30, .int .i64 (k32 : Int))]) (fun ⟨s195, v197, v199, v201, v203, v205, v207, A212⟩ => fun w' => o194 = .fin s195 ∧ Sl A212 w' v203 s195.2.zone.changes ∧ Sl A212 w' v205 s195.2.week ∧ Sl A212 w' v207 s195.2.specials ∧ Hp w.heap.size A212 w' (obS (α := Int) 3 v95 x94.2.1 :: obS (α := cal_Special) 53 v201 s195.1.specials :: obS (α := cal_Shift) 51 v199 s195.1.week :: obS (α := cal_Change) 49 v197 s195.1.zone.changes :: obS (α := ByteArray) 9 v15 ([(⟨#[122, 111, 110, 101]⟩ : ByteArray), (⟨#[99, 104, 97, 110, 103, 101]⟩ : ByteArray), (⟨#[115, 104, 105, 102, 116]⟩ : ByteArray), (⟨#[100, 97, 121]⟩ : ByteArray)] : List ByteArray) :: obC b10 [.int .i64 s195.1.zone.offset, v197, v199, v201] 28 :: obC b1 [.int .i64 s195.2.zone.offset, v203, v205, v207] 28 :: []) ∧ Tr False w.heap.size A99 w97 A212 w') ?_ ?_
                  · have hr196 : Tr False w.heap.size A99 w97 A99 w97 := Tr.refl (Dw := False) hA
                    refine C_cond rfl (fun hc214 => ?_) (fun hc214 => ?_)
                    · rw [if_pos hc214] at ho194
                      refine C_region_ch (Dw := False) A99 15 [(1, 0), (1, 1), (0, 2), (1, 3), (0, 4), (0, 5), (1, 6), (0, 7), (0, 8), (1, 9), (2, 10), (4, 11), (1, 12), (1, 13), (4, 14)] Tryz_mixed (by kernel_rfl) (fun w215 hk216 => ?_)
                      have ht217 := Kp.tr (Dw := False) hk216 hA hB
                      replace hH := Hp.kp (Dw := False) hH hk216
                      replace h25 := Sl.tr (Dw := False) h25 ht217
                      replace h84 := El.tr (Dw := False) h84 ht217
                      replace h59 := Sl.tr (Dw := False) h59 ht217
                      replace h61 := Sl.tr (Dw := False) h61 ht217
                      replace h63 := Sl.tr (Dw := False) h63 ht217
                      replace hK := Tr.trans (Dw := False) hK ht217
                      replace hr31 := Tr.trans (Dw := False) hr31 ht217
                      replace hr142 := Tr.trans (Dw := False) hr142 ht217
                      replace hr164 := Tr.trans (Dw := False) hr164 ht217
                      replace hr196 := Tr.trans (Dw := False) hr196 ht217
                      replace hB := Nat.le_trans hB ht217.ex.size
                      replace hA := ht217.new
                      refine CH_q2 (Dw := False) rfl ?_
                      refine VQ_y (fun w' hw' => Y_fieldAddrC (off2 := 0) Tryz.underlying28 rfl Tryz.sizeOf24 (by decide) rfl rfl) rfl rfl rfl ?_
                      refine VQ_CH (Dw := False) ?_
                      refine CH_q2 (Dw := False) rfl ?_
                      refine VQ_y (fun w' hw' => Y_fieldAddrC (off2 := 1) Tryz.underlying24 rfl Tryz.sizeOf22 (by decide) rfl rfl) rfl rfl rfl ?_
                      refine VQ_CH (Dw := False) ?_
                      refine CH_q1 (Dw := False) rfl ?_
                      refine VQ_y (fun w' hw' => Y_load ((World.cell?_of_block (hw'.block _ (World.block_lt_of_cell? _ _ (Hp.cell (j := 1) hH (i := 5) rfl rfl)))).trans (Hp.cell (j := 1) hH (i := 5) rfl rfl)) Tryz.isAgg22 rfl) rfl rfl rfl ?_
                      refine VQ_CH (Dw := False) ?_
                      refine CH_q2 (Dw := False) rfl ?_
                      refine VQ_y (fun w' hw' => Y_move rfl) rfl rfl rfl ?_
                      refine VQ_CH (Dw := False) ?_
                      refine CH_q1 (Dw := False) rfl ?_
                      obtain ⟨x218, hx218, ho194⟩ := Option.bind_eq_some_iff.1 ho194
                      refine VQ_indexAddrH (α := Int) (e := 3) (v := v95) (l := x94.2.1) hH (i := 0) rfl hx218 Tryz.underlying44 Tryz.sizeOf3 rfl rfl rfl ?_
                      intro b219 o220 h221 hl222
                      refine VQ_CH (Dw := False) ?_
                      refine CH_q1 (Dw := False) rfl ?_
                      refine VQ_y (fun w' hw' => Y_load (El.int (El.kp (Dw := False) h221 hw')) Tryz.isAgg3 rfl) rfl rfl rfl ?_
                      refine VQ_CH (Dw := False) ?_
                      refine CH_q2 (Dw := False) rfl ?_
                      refine VQ_y (fun w' hw' => Y_move rfl) rfl rfl rfl ?_
                      refine VQ_CH (Dw := False) ?_
                      refine CH_q1 (Dw := False) rfl ?_
                      obtain ⟨x223, hx223, ho194⟩ := Option.bind_eq_some_iff.1 ho194
                      refine VQ_indexAddrH (α := Int) (e := 3) (v := v95) (l := x94.2.1) hH (i := 0) rfl hx223 Tryz.underlying44 Tryz.sizeOf3 rfl rfl rfl ?_
                      intro b224 o225 h226 hl227
                      refine VQ_CH (Dw := False) ?_
                      refine CH_q1 (Dw := False) rfl ?_
                      refine VQ_y (fun w' hw' => Y_load (El.int (El.kp (Dw := False) h226 hw')) Tryz.isAgg3 rfl) rfl rfl rfl ?_
                      refine VQ_CH (Dw := False) ?_
                      refine CH_q2 (Dw := False) rfl ?_
                      refine VQ_y (fun w' hw' => Y_build Tryz.underlying49 Tryz.zeroValue49 (Tryz_places49 _ Tryz.underlying49) rfl (by with_unfolding_all rfl)) rfl rfl rfl ?_
                      refine VQ_CH (Dw := False) ?_
                      refine CH_l1 (Dw := False) (k := 0) rfl ?_
                      refine V_buildSlice (Dw := False) (cells := #[.int .i64 x218, .int .i64 x223]) (l := ([(⟨x218, x223⟩ : cal_Change)] : List cal_Change)) (len := 1) Tryz.underlying22 Tryz.sizeOf49 Tryz.zeroValue49 rfl (by kernel_rfl) (show (1 * 2 : Nat) ≠ 0 by decide) (show (1 * 2 : Nat) ≤ 2 ^ 24 by decide) hA ⟨[.int .i64 x218, .int .i64 x223], _, rfl, ⟨[.int .i64 x218], _, rfl, rfl, rfl⟩, rfl⟩ rfl rfl ?_
                      intro v228 w229 hk231 h230
                      have ht232 := Kp.tr (Dw := False) hk231 hA hB
                      replace hH := Hp.kp (Dw := False) hH hk231
                      replace h25 := Sl.tr (Dw := False) h25 ht232
                      replace h84 := El.tr (Dw := False) h84 ht232
                      replace h221 := El.kp (Dw := False) h221 hk231
                      replace h226 := El.kp (Dw := False) h226 hk231
                      replace h59 := Sl.tr (Dw := False) h59 ht232
                      replace h61 := Sl.tr (Dw := False) h61 ht232
                      replace h63 := Sl.tr (Dw := False) h63 ht232
                      replace hK := Tr.trans (Dw := False) hK ht232
                      replace hr31 := Tr.trans (Dw := False) hr31 ht232
                      replace hr142 := Tr.trans (Dw := False) hr142 ht232
                      replace hr164 := Tr.trans (Dw := False) hr164 ht232
                      replace hr196 := Tr.trans (Dw := False) hr196 ht232
                      replace hB := Nat.le_trans hB ht232.ex.size
                      replace hA := ht232.new
                      refine V_CH (Dw := False) (hk231) ?_
                      refine CH_l1 (Dw := False) (k := 2) rfl ?_
                      obtain ⟨x233, hx233, ho194⟩ := Option.bind_eq_some_iff.1 ho194
                      refine V_appendH (Dw := False) (e := 49) (v := v52) (l := s50.2.1.zone.changes) (ti := Tryz.t49) (bytes := 16) (lim := 8796093022208) hH (i := 3) rfl h230 hx233 Tryz.underlying22 Tryz_info49 rfl rfl rfl rfl (by decide) (by decide) (by decide) hB hA rfl rfl rfl ?_
                      intro v234 w235 A236 hH237 ht238
                      replace h25 := Sl.tr (Dw := False) h25 ht238
                      replace h84 := El.tr (Dw := False) h84 ht238
                      replace h230 := Sl.tr (Dw := False) h230 ht238
                      replace h59 := Sl.tr (Dw := False) h59 ht238
                      replace h61 := Sl.tr (Dw := False) h61 ht238
                      replace h63 := Sl.tr (Dw := False) h63 ht238
                      replace hK := Tr.trans (Dw := False) hK ht238
                      replace hr31 := Tr.trans (Dw := False) hr31 ht238
                      replace hr142 := Tr.trans (Dw := False) hr142 ht238
                      replace hr164 := Tr.trans (Dw := False) hr164 ht238
                      replace hr196 := Tr.trans (Dw := False) hr196 ht238
                      replace hB := Nat.le_trans hB ht238.ex.size
                      replace hA := ht238.new
                      replace hH : Hp w.heap.size A236 w235 (obS (α := Int) 3 v95 x94.2.1 :: obS (α := cal_Special) 53 v56 s50.2.1.specials :: obS (α := cal_Shift) 51 v54 s50.2.1.week :: obS (α := cal_Change) 49 v234 x233 :: obS (α := ByteArray) 9 v15 ([(⟨#[122, 111, 110, 101]⟩ : ByteArray), (⟨#[99, 104, 97, 110, 103, 101]⟩ : ByteArray), (⟨#[115, 104, 105, 102, 116]⟩ : ByteArray), (⟨#[100, 97, 121]⟩ : ByteArray)] : List ByteArray) :: obC b10 [.int .i64 s50.2.1.zone.offset, v52, v54, v56] 28 :: obC b1 [.int .i64 s50.2.2.zone.offset, v58, v60, v62] 28 :: []) := hH237
                      refine V_CHw (Dw := False) ?_
                      refine CH_q2 (Dw := False) rfl ?_
                      refine VQ_y (fun w' hw' => Y_fieldAddrC (off2 := 0) Tryz.underlying28 rfl Tryz.sizeOf24 (by decide) rfl rfl) rfl rfl rfl ?_
                      refine VQ_CH (Dw := False) ?_
                      refine CH_q2 (Dw := False) rfl ?_
                      refine VQ_y (fun w' hw' => Y_fieldAddrC (off2 := 1) Tryz.underlying24 rfl Tryz.sizeOf22 (by decide) rfl rfl) rfl rfl rfl ?_
                      refine VQ_CH (Dw := False) ?_
                      refine CH_l1 (Dw := False) (k := 2) rfl ?_
                      have h244 : (v234).oneCell' = true := by obtain ⟨_, _, e, _⟩ := Hp.form (α := cal_Change) (e := 49) (v := v234) (l := x233) hH (i := 3) rfl; rw [e]; rfl
                      refine V_storeC (Dw := False) (off := 1) (ds := [.int .i64 s50.2.1.zone.offset, v234, v54, v56]) hH (i := 5) rfl Tryz.sizeOf22 (by rw [← Array.length_toList, Value.cells_one h244]; rfl) (Nat.le_of_ble_eq_true rfl) (by intro u hu; rw [Value.cells_one h244] at hu; simp at hu; subst hu; assumption) (by rw [Value.cells_one h244]; rfl) hB hA rfl rfl ?_
                      intro w239 hH240 ht241
                      replace h25 := Sl.tr (Dw := False) h25 ht241
                      replace h84 := El.tr (Dw := False) h84 ht241
                      replace h230 := Sl.tr (Dw := False) h230 ht241
                      replace h59 := Sl.tr (Dw := False) h59 ht241
                      replace h61 := Sl.tr (Dw := False) h61 ht241
                      replace h63 := Sl.tr (Dw := False) h63 ht241
                      replace hK := Tr.trans (Dw := False) hK ht241
                      replace hr31 := Tr.trans (Dw := False) hr31 ht241
                      replace hr142 := Tr.trans (Dw := False) hr142 ht241
                      replace hr164 := Tr.trans (Dw := False) hr164 ht241
                      replace hr196 := Tr.trans (Dw := False) hr196 ht241
                      replace hB := Nat.le_trans hB ht241.ex.size
                      replace hA := ht241.new
                      replace hH : Hp w.heap.size A236 w239 (obS (α := Int) 3 v95 x94.2.1 :: obS (α := cal_Special) 53 v56 s50.2.1.specials :: obS (α := cal_Shift) 51 v54 s50.2.1.week :: obS (α := cal_Change) 49 v234 x233 :: obS (α := ByteArray) 9 v15 ([(⟨#[122, 111, 110, 101]⟩ : ByteArray), (⟨#[99, 104, 97, 110, 103, 101]⟩ : ByteArray), (⟨#[115, 104, 105, 102, 116]⟩ : ByteArray), (⟨#[100, 97, 121]⟩ : ByteArray)] : List ByteArray) :: obC b10 [.int .i64 s50.2.1.zone.offset, v234, v54, v56] 28 :: obC b1 [.int .i64 s50.2.2.zone.offset, v58, v60, v62] 28 :: []) := hH240
                      refine V_CHw (Dw := False) ?_
                      refine CH_tail (Dw := False) ?_
                      show V _ _ _ _ [] _ _
                      obtain rfl := Option.some.inj ho194
                      refine V_end (fun a ha245 => ?_)
                      exact ⟨(((⟨(⟨s50.2.1.zone.offset, x233⟩ : cal_Zone), s50.2.1.week, s50.2.1.specials⟩ : cal_Calendar), s50.2.2), v234, v54, v56, v58, v60, v62, A236), ha245.sub ⟨rfl, rfl, rfl, rfl, rfl, rfl, rfl, rfl, trivial⟩, ⟨rfl, h59, h61, h63, hH, hr196⟩⟩
                    · rw [if_neg (nt hc214)] at ho194
                      refine C_seq ?_
                      refine C_region ?_
                      refine V_y (Y_move rfl) rfl rfl rfl ?_
                      refine V_y (Y_eql rfl rfl) rfl rfl rfl ?_
                      refine V_y (Y_move rfl) rfl rfl rfl ?_
                      refine V_cut 4 (fun _ : Unit => [(2, .pointer (some ⟨b1, 0, none⟩)), (5, .pointer (some ⟨b10, 0, none⟩)), (6, v15), (7, .int .i64 x102), (8, v24), (11, .func (.func 11) #[] #[.pointer (some ⟨b79, 0, none⟩)]), (15, v95), (17, .int .i64 x102), (28, v24), (29, .int .i64 (x23.length : Int)), (30, .int .i64 (k32 : Int)), (147, .bool ((x102 == 2) && ((x94.2.1.length : Int) == 3)))]) (fun _ w' => w97 = w') ?_ ?_
                      · simp only [List.take, List.drop]
                        rcases Bool.eq_false_or_eq_true (x102 == 2) with hc246 | hc246
                        · refine V_ge rfl rfl rfl hc246 ?_
                          refine V_y (Y_move rfl) rfl rfl rfl ?_
                          refine V_ge rfl rfl rfl hc246 ?_
                          refine V_y (Y_lenSl (Hp.any (α := Int) (e := 3) (v := v95) (l := x94.2.1) hH (i := 0) rfl) rfl Tryz.underlying44 rfl) rfl rfl rfl ?_
                          refine V_ge rfl rfl rfl hc246 ?_
                          refine V_y (Y_eql rfl rfl) rfl rfl rfl ?_
                          refine V_y (Y_pick_te rfl hc246 rfl) rfl rfl rfl ?_
                          exact V_end fun a ha => ⟨(), ha.sub ⟨rfl, rfl, rfl, rfl, rfl, rfl, rfl, rfl, rfl, rfl, rfl, (by rw [hc246]; rfl), trivial⟩, rfl⟩
                        · refine V_gn rfl rfl rfl hc246 rfl rfl rfl ?_
                          refine V_gn rfl rfl rfl hc246 rfl rfl rfl ?_
                          refine V_gn rfl rfl rfl hc246 rfl rfl rfl ?_
                          refine V_y (Y_pick_fe rfl hc246 rfl) rfl rfl rfl ?_
                          exact V_end fun a ha => ⟨(), ha.sub ⟨rfl, rfl, rfl, rfl, rfl, rfl, rfl, rfl, rfl, rfl, rfl, (by rw [hc246]; rfl), trivial⟩, rfl⟩
                      simp only [List.take, List.drop]
                      rintro _ _ rfl
                      refine V_y (Y_assign rfl) rfl rfl rfl ?_
                      refine V_to (fun _ _ => rfl) ?_
                      obtain ⟨o248, ho248, ho194⟩ := Option.bind_eq_some_iff.1 ho194
                      refine C_cutG (ι := ((cal_Calendar × cal_Calendar) × Value × Value × Value × Value × Value × Value × (Nat → Prop))) (fun ⟨s249, v251, v253, v255, v257, v259, v261, A266⟩ => [(2, .pointer (some ⟨b1, 0, none⟩)), (5, .pointer (some ⟨b10, 0, none⟩)), (6, v15), (7, .int .i64 x102), (8, v24), (28, v24), (29, .int .i64 (x23.length : Int)), (30, .int .i64 (k32 : Int))]) (fun ⟨s249, v251, v253, v255, v257, v259, v261, A266⟩ => fun w' => o248 = .fin s249 ∧ Sl A266 w' v257 s249.2.zone.changes ∧ Sl A266 w' v259 s249.2.week ∧ Sl A266 w' v261 s249.2.specials ∧ Hp w.heap.size A266 w' (obS (α := Int) 3 v95 x94.2.1 :: obS (α := cal_Special) 53 v255 s249.1.specials :: obS (α := cal_Shift) 51 v253 s249.1.week :: obS (α := cal_Change) 49 v251 s249.1.zone.changes :: obS (α := ByteArray) 9 v15 ([(⟨#[122, 111, 110, 101]⟩ : ByteArray), (⟨#[99, 104, 97, 110, 103, 101]⟩ : ByteArray), (⟨#[115, 104, 105, 102, 116]⟩ : ByteArray), (⟨#[100, 97, 121]⟩ : ByteArray)] : List ByteArray) :: obC b10 [.int .i64 s249.1.zone.offset, v251, v253, v255] 28 :: obC b1 [.int .i64 s249.2.zone.offset, v257, v259, v261] 28 :: []) ∧ Tr False w.heap.size A99 w97 A266 w') ?_ ?_
                      · have hr250 : Tr False w.heap.size A99 w97 A99 w97 := Tr.refl (Dw := False) hA
                        refine C_cond rfl (fun hc268 => ?_) (fun hc268 => ?_)
                        · rw [if_pos hc268] at ho248
                          refine C_region_ch (Dw := False) A99 16 [(1, 0), (0, 1), (1, 2), (0, 3), (0, 4), (1, 5), (0, 6), (0, 7), (1, 8), (0, 9), (0, 10), (1, 11), (2, 12), (4, 13), (1, 14), (4, 15)] Tryz_mixed (by kernel_rfl) (fun w269 hk270 => ?_)
                          have ht271 := Kp.tr (Dw := False) hk270 hA hB
                          replace hH := Hp.kp (Dw := False) hH hk270
                          replace h25 := Sl.tr (Dw := False) h25 ht271
                          replace h84 := El.tr (Dw := False) h84 ht271
                          replace h59 := Sl.tr (Dw := False) h59 ht271
                          replace h61 := Sl.tr (Dw := False) h61 ht271
                          replace h63 := Sl.tr (Dw := False) h63 ht271
                          replace hK := Tr.trans (Dw := False) hK ht271
                          replace hr31 := Tr.trans (Dw := False) hr31 ht271
                          replace hr142 := Tr.trans (Dw := False) hr142 ht271
                          replace hr164 := Tr.trans (Dw := False) hr164 ht271
                          replace hr196 := Tr.trans (Dw := False) hr196 ht271
                          replace hr250 := Tr.trans (Dw := False) hr250 ht271
                          replace hB := Nat.le_trans hB ht271.ex.size
                          replace hA := ht271.new
                          refine CH_q2 (Dw := False) rfl ?_
                          refine VQ_y (fun w' hw' => Y_fieldAddrC (off2 := 2) Tryz.underlying28 rfl Tryz.sizeOf25 (by decide) rfl rfl) rfl rfl rfl ?_
                          refine VQ_CH (Dw := False) ?_
                          refine CH_q1 (Dw := False) rfl ?_
                          refine VQ_y (fun w' hw' => Y_load ((World.cell?_of_block (hw'.block _ (World.block_lt_of_cell? _ _ (Hp.cell (j := 2) hH (i := 5) rfl rfl)))).trans (Hp.cell (j := 2) hH (i := 5) rfl rfl)) Tryz.isAgg25 rfl) rfl rfl rfl ?_
                          refine VQ_CH (Dw := False) ?_
                          refine CH_q2 (Dw := False) rfl ?_
                          refine VQ_y (fun w' hw' => Y_move rfl) rfl rfl rfl ?_
                          refine VQ_CH (Dw := False) ?_
                          refine CH_q1 (Dw := False) rfl ?_
                          obtain ⟨x272, hx272, ho248⟩ := Option.bind_eq_some_iff.1 ho248
                          refine VQ_indexAddrH (α := Int) (e := 3) (v := v95) (l := x94.2.1) hH (i := 0) rfl hx272 Tryz.underlying44 Tryz.sizeOf3 rfl rfl rfl ?_
                          intro b273 o274 h275 hl276
                          refine VQ_CH (Dw := False) ?_
                          refine CH_q1 (Dw := False) rfl ?_
                          refine VQ_y (fun w' hw' => Y_load (El.int (El.kp (Dw := False) h275 hw')) Tryz.isAgg3 rfl) rfl rfl rfl ?_
                          refine VQ_CH (Dw := False) ?_
                          refine CH_q2 (Dw := False) rfl ?_
                          refine VQ_y (fun w' hw' => Y_move rfl) rfl rfl rfl ?_
                          refine VQ_CH (Dw := False) ?_
                          refine CH_q1 (Dw := False) rfl ?_
                          obtain ⟨x277, hx277, ho248⟩ := Option.bind_eq_some_iff.1 ho248
                          refine VQ_indexAddrH (α := Int) (e := 3) (v := v95) (l := x94.2.1) hH (i := 0) rfl hx277 Tryz.underlying44 Tryz.sizeOf3 rfl rfl rfl ?_
                          intro b278 o279 h280 hl281
                          refine VQ_CH (Dw := False) ?_
                          refine CH_q1 (Dw := False) rfl ?_
                          refine VQ_y (fun w' hw' => Y_load (El.int (El.kp (Dw := False) h280 hw')) Tryz.isAgg3 rfl) rfl rfl rfl ?_
                          refine VQ_CH (Dw := False) ?_
                          refine CH_q2 (Dw := False) rfl ?_
                          refine VQ_y (fun w' hw' => Y_move rfl) rfl rfl rfl ?_
                          refine VQ_CH (Dw := False) ?_
                          refine CH_q1 (Dw := False) rfl ?_
                          obtain ⟨x282, hx282, ho248⟩ := Option.bind_eq_some_iff.1 ho248
                          refine VQ_indexAddrH (α := Int) (e := 3) (v := v95) (l := x94.2.1) hH (i := 0) rfl hx282 Tryz.underlying44 Tryz.sizeOf3 rfl rfl rfl ?_
                          intro b283 o284 h285 hl286
                          refine VQ_CH (Dw := False) ?_
                          refine CH_q1 (Dw := False) rfl ?_
                          refine VQ_y (fun w' hw' => Y_load (El.int (El.kp (Dw := False) h285 hw')) Tryz.isAgg3 rfl) rfl rfl rfl ?_
                          refine VQ_CH (Dw := False) ?_
                          refine CH_q2 (Dw := False) rfl ?_
                          refine VQ_y (fun w' hw' => Y_build Tryz.underlying51 Tryz.zeroValue51 (Tryz_places51 _ Tryz.underlying51) rfl (by with_unfolding_all rfl)) rfl rfl rfl ?_
                          refine VQ_CH (Dw := False) ?_
                          refine CH_l1 (Dw := False) (k := 0) rfl ?_
                          refine V_buildSlice (Dw := False) (cells := #[.int .i64 x272, .int .i64 x277, .int .i64 x282]) (l := ([(⟨x272, x277, x282⟩ : cal_Shift)] : List cal_Shift)) (len := 1) Tryz.underlying25 Tryz.sizeOf51 Tryz.zeroValue51 rfl (by kernel_rfl) (show (1 * 3 : Nat) ≠ 0 by decide) (show (1 * 3 : Nat) ≤ 2 ^ 24 by decide) hA ⟨[.int .i64 x272, .int .i64 x277, .int .i64 x282], _, rfl, ⟨[.int .i64 x272], _, rfl, rfl, ⟨[.int .i64 x277], _, rfl, rfl, rfl⟩⟩, rfl⟩ rfl rfl ?_
                          intro v287 w288 hk290 h289
                          have ht291 := Kp.tr (Dw := False) hk290 hA hB
                          replace hH := Hp.kp (Dw := False) hH hk290
                          replace h25 := Sl.tr (Dw := False) h25 ht291
                          replace h84 := El.tr (Dw := False) h84 ht291
                          replace h275 := El.kp (Dw := False) h275 hk290
                          replace h280 := El.kp (Dw := False) h280 hk290
                          replace h285 := El.kp (Dw := False) h285 hk290
                          replace h59 := Sl.tr (Dw := False) h59 ht291
                          replace h61 := Sl.tr (Dw := False) h61 ht291
                          replace h63 := Sl.tr (Dw := False) h63 ht291
                          replace hK := Tr.trans (Dw := False) hK ht291
                          replace hr31 := Tr.trans (Dw := False) hr31 ht291
                          replace hr142 := Tr.trans (Dw := False) hr142 ht291
                          replace hr164 := Tr.trans (Dw := False) hr164 ht291
                          replace hr196 := Tr.trans (Dw := False) hr196 ht291
                          replace hr250 := Tr.trans (Dw := False) hr250 ht291
                          replace hB := Nat.le_trans hB ht291.ex.size
                          replace hA := ht291.new
                          refine V_CH (Dw := False) (hk290) ?_
                          refine CH_l1 (Dw := False) (k := 2) rfl ?_
                          obtain ⟨x292, hx292, ho248⟩ := Option.bind_eq_some_iff.1 ho248
                          refine V_appendH (Dw := False) (e := 51) (v := v54) (l := s50.2.1.week) (ti := Tryz.t51) (bytes := 24) (lim := 5864062014805) hH (i := 2) rfl h289 hx292 Tryz.underlying25 Tryz_info51 rfl rfl rfl rfl (by decide) (by decide) (by decide) hB hA rfl rfl rfl ?_
                          intro v293 w294 A295 hH296 ht297
                          replace h25 := Sl.tr (Dw := False) h25 ht297
                          replace h84 := El.tr (Dw := False) h84 ht297
                          replace h289 := Sl.tr (Dw := False) h289 ht297
                          replace h59 := Sl.tr (Dw := False) h59 ht297
                          replace h61 := Sl.tr (Dw := False) h61 ht297
                          replace h63 := Sl.tr (Dw := False) h63 ht297
                          replace hK := Tr.trans (Dw := False) hK ht297
                          replace hr31 := Tr.trans (Dw := False) hr31 ht297
                          replace hr142 := Tr.trans (Dw := False) hr142 ht297
                          replace hr164 := Tr.trans (Dw := False) hr164 ht297
                          replace hr196 := Tr.trans (Dw := False) hr196 ht297
                          replace hr250 := Tr.trans (Dw := False) hr250 ht297
                          replace hB := Nat.le_trans hB ht297.ex.size
                          replace hA := ht297.new
                          replace hH : Hp w.heap.size A295 w294 (obS (α := Int) 3 v95 x94.2.1 :: obS (α := cal_Special) 53 v56 s50.2.1.specials :: obS (α := cal_Shift) 51 v293 x292 :: obS (α := cal_Change) 49 v52 s50.2.1.zone.changes :: obS (α := ByteArray) 9 v15 ([(⟨#[122, 111, 110, 101]⟩ : ByteArray), (⟨#[99, 104, 97, 110, 103, 101]⟩ : ByteArray), (⟨#[115, 104, 105, 102, 116]⟩ : ByteArray), (⟨#[100, 97, 121]⟩ : ByteArray)] : List ByteArray) :: obC b10 [.int .i64 s50.2.1.zone.offset, v52, v54, v56] 28 :: obC b1 [.int .i64 s50.2.2.zone.offset, v58, v60, v62] 28 :: []) := hH296
                          refine V_CHw (Dw := False) ?_
                          refine CH_q2 (Dw := False) rfl ?_
                          refine VQ_y (fun w' hw' => Y_fieldAddrC (off2 := 2) Tryz.underlying28 rfl Tryz.sizeOf25 (by decide) rfl rfl) rfl rfl rfl ?_
                          refine VQ_CH (Dw := False) ?_
                          refine CH_l1 (Dw := False) (k := 2) rfl ?_
                          have h303 : (v293).oneCell' = true := by obtain ⟨_, _, e, _⟩ := Hp.form (α := cal_Shift) (e := 51) (v := v293) (l := x292) hH (i := 2) rfl; rw [e]; rfl
                          refine V_storeC (Dw := False) (off := 2) (ds := [.int .i64 s50.2.1.zone.offset, v52, v293, v56]) hH (i := 5) rfl Tryz.sizeOf25 (by rw [← Array.length_toList, Value.cells_one h303]; rfl) (Nat.le_of_ble_eq_true rfl) (by intro u hu; rw [Value.cells_one h303] at hu; simp at hu; subst hu; assumption) (by rw [Value.cells_one h303]; rfl) hB hA rfl rfl ?_
                          intro w298 hH299 ht300
                          replace h25 := Sl.tr (Dw := False) h25 ht300
                          replace h84 := El.tr (Dw := False) h84 ht300
                          replace h289 := Sl.tr (Dw := False) h289 ht300
                          replace h59 := Sl.tr (Dw := False) h59 ht300
                          replace h61 := Sl.tr (Dw := False) h61 ht300
                          replace h63 := Sl.tr (Dw := False) h63 ht300
                          replace hK := Tr.trans (Dw := False) hK ht300
                          replace hr31 := Tr.trans (Dw := False) hr31 ht300
                          replace hr142 := Tr.trans (Dw := False) hr142 ht300
                          replace hr164 := Tr.trans (Dw := False) hr164 ht300
                          replace hr196 := Tr.trans (Dw := False) hr196 ht300
                          replace hr250 := Tr.trans (Dw := False) hr250 ht300
                          replace hB := Nat.le_trans hB ht300.ex.size
                          replace hA := ht300.new
                          replace hH : Hp w.heap.size A295 w298 (obS (α := Int) 3 v95 x94.2.1 :: obS (α := cal_Special) 53 v56 s50.2.1.specials :: obS (α := cal_Shift) 51 v293 x292 :: obS (α := cal_Change) 49 v52 s50.2.1.zone.changes :: obS (α := ByteArray) 9 v15 ([(⟨#[122, 111, 110, 101]⟩ : ByteArray), (⟨#[99, 104, 97, 110, 103, 101]⟩ : ByteArray), (⟨#[115, 104, 105, 102, 116]⟩ : ByteArray), (⟨#[100, 97, 121]⟩ : ByteArray)] : List ByteArray) :: obC b10 [.int .i64 s50.2.1.zone.offset, v52, v293, v56] 28 :: obC b1 [.int .i64 s50.2.2.zone.offset, v58, v60, v62] 28 :: []) := hH299
                          refine V_CHw (Dw := False) ?_
                          refine CH_tail (Dw := False) ?_
                          show V _ _ _ _ [] _ _
                          obtain rfl := Option.some.inj ho248
                          refine V_end (fun a ha304 => ?_)
                          exact ⟨(((⟨s50.2.1.zone, x292, s50.2.1.specials⟩ : cal_Calendar), s50.2.2), v52, v293, v56, v58, v60, v62, A295), ha304.sub ⟨rfl, rfl, rfl, rfl, rfl, rfl, rfl, rfl, trivial⟩, ⟨rfl, h59, h61, h63, hH, hr250⟩⟩
                        · rw [if_neg (nt hc268)] at ho248
                          refine C_seq ?_
                          refine C_region ?_
                          refine V_y (Y_move rfl) rfl rfl rfl ?_
                          refine V_y (Y_eql rfl rfl) rfl rfl rfl ?_
                          refine V_y (Y_move rfl) rfl rfl rfl ?_
                          refine V_cut 5 (fun _ : Unit => [(2, .pointer (some ⟨b1, 0, none⟩)), (5, .pointer (some ⟨b10, 0, none⟩)), (6, v15), (7, .int .i64 x102), (8, v24), (11, .func (.func 11) #[] #[.pointer (some ⟨b79, 0, none⟩)]), (15, v95), (28, v24), (29, .int .i64 (x23.length : Int)), (30, .int .i64 (k32 : Int)), (171, .bool ((x102 == 3) && ((Int.tmod (x94.2.1.length : Int) 2) == 1)))]) (fun _ w' => w97 = w') ?_ ?_
                          · simp only [List.take, List.drop]
                            rcases Bool.eq_false_or_eq_true (x102 == 3) with hc305 | hc305
                            · refine V_ge rfl rfl rfl hc305 ?_
                              refine V_y (Y_move rfl) rfl rfl rfl ?_
                              refine V_ge rfl rfl rfl hc305 ?_
                              refine V_y (Y_lenSl (Hp.any (α := Int) (e := 3) (v := v95) (l := x94.2.1) hH (i := 0) rfl) rfl Tryz.underlying44 rfl) rfl rfl rfl ?_
                              refine V_ge rfl rfl rfl hc305 ?_
                              refine V_y (Y_rem (by rw [rem, if_neg (by decide)]) rfl rfl) rfl rfl rfl ?_
                              refine V_ge rfl rfl rfl hc305 ?_
                              refine V_y (Y_eql rfl rfl) rfl rfl rfl ?_
                              refine V_y (Y_pick_te rfl hc305 rfl) rfl rfl rfl ?_
                              exact V_end fun a ha => ⟨(), ha.sub ⟨rfl, rfl, rfl, rfl, rfl, rfl, rfl, rfl, rfl, rfl, (by rw [hc305]; rfl), trivial⟩, rfl⟩
                            · refine V_gn rfl rfl rfl hc305 rfl rfl rfl ?_
                              refine V_gn rfl rfl rfl hc305 rfl rfl rfl ?_
                              refine V_gn rfl rfl rfl hc305 rfl rfl rfl ?_
                              refine V_gn rfl rfl rfl hc305 rfl rfl rfl ?_
                              refine V_y (Y_pick_fe rfl hc305 rfl) rfl rfl rfl ?_
                              exact V_end fun a ha => ⟨(), ha.sub ⟨rfl, rfl, rfl, rfl, rfl, rfl, rfl, rfl, rfl, rfl, (by rw [hc305]; rfl), trivial⟩, rfl⟩
                          simp only [List.take, List.drop]
                          rintro _ _ rfl
                          refine V_y (Y_assign rfl) rfl rfl rfl ?_
                          refine V_to (fun _ _ => rfl) ?_
                          refine C_cond rfl (fun hc307 => ?_) (fun hc307 => ?_)
                          · rw [if_pos hc307] at ho248
                            refine C_seq ?_
                            refine C_region ?_
                            refine V_y (Y_move rfl) rfl rfl rfl ?_
                            obtain ⟨x308, hx308, ho248⟩ := Option.bind_eq_some_iff.1 ho248
                            refine V_indexAddrH (α := Int) (e := 3) (v := v95) (l := x94.2.1) hH (i := 0) rfl hx308 Tryz.underlying44 Tryz.sizeOf3 rfl rfl rfl ?_
                            intro b309 o310 h311 hl312
                            refine V_y (Y_load (El.int h311) Tryz.isAgg3 rfl) rfl rfl rfl ?_
                            refine V_y (Y_build Tryz.underlying53 Tryz.zeroValue53 (Tryz_places53 _ Tryz.underlying53) rfl (by with_unfolding_all rfl)) rfl rfl rfl ?_
                            refine V_allocH (Dw := False) (B := w.heap.size) hH Tryz.zeroValue53 hB hA rfl ?_
                            intro b313 w314 A315 hH316 ht317
                            replace h25 := Sl.tr (Dw := False) h25 ht317
                            replace h84 := El.tr (Dw := False) h84 ht317
                            replace h59 := Sl.tr (Dw := False) h59 ht317
                            replace h61 := Sl.tr (Dw := False) h61 ht317
                            replace h63 := Sl.tr (Dw := False) h63 ht317
                            replace hK := Tr.trans (Dw := False) hK ht317
                            replace hr31 := Tr.trans (Dw := False) hr31 ht317
                            replace hr142 := Tr.trans (Dw := False) hr142 ht317
                            replace hr164 := Tr.trans (Dw := False) hr164 ht317
                            replace hr196 := Tr.trans (Dw := False) hr196 ht317
                            replace hr250 := Tr.trans (Dw := False) hr250 ht317
                            replace hB := Nat.le_trans hB ht317.ex.size
                            replace hA := ht317.new
                            replace hH : Hp w.heap.size A315 w314 (obC b313 [.int .i64 0, .slice none 0 0] 53 :: obS (α := Int) 3 v95 x94.2.1 :: obS (α := cal_Special) 53 v56 s50.2.1.specials :: obS (α := cal_Shift) 51 v54 s50.2.1.week :: obS (α := cal_Change) 49 v52 s50.2.1.zone.changes :: obS (α := ByteArray) 9 v15 ([(⟨#[122, 111, 110, 101]⟩ : ByteArray), (⟨#[99, 104, 97, 110, 103, 101]⟩ : ByteArray), (⟨#[115, 104, 105, 102, 116]⟩ : ByteArray), (⟨#[100, 97, 121]⟩ : ByteArray)] : List ByteArray) :: obC b10 [.int .i64 s50.2.1.zone.offset, v52, v54, v56] 28 :: obC b1 [.int .i64 s50.2.2.zone.offset, v58, v60, v62] 28 :: []) := hH316
                            refine V_storeC (Dw := False) (off := 0) (ds := [.int .i64 x308, .slice none 0 0]) hH (i := 0) rfl Tryz.sizeOf53 rfl (Nat.le_of_ble_eq_true rfl) (by exact (List.forall_mem_cons.2 ⟨rfl, (List.forall_mem_cons.2 ⟨rfl, (fun _ h => nomatch h)⟩)⟩)) rfl hB hA rfl rfl ?_
                            intro w318 hH319 ht320
                            replace h25 := Sl.tr (Dw := False) h25 ht320
                            replace h84 := El.tr (Dw := False) h84 ht320
                            replace h59 := Sl.tr (Dw := False) h59 ht320
                            replace h61 := Sl.tr (Dw := False) h61 ht320
                            replace h63 := Sl.tr (Dw := False) h63 ht320
                            replace hK := Tr.trans (Dw := False) hK ht320
                            replace hr31 := Tr.trans (Dw := False) hr31 ht320
                            replace hr142 := Tr.trans (Dw := False) hr142 ht320
                            replace hr164 := Tr.trans (Dw := False) hr164 ht320
                            replace hr196 := Tr.trans (Dw := False) hr196 ht320
                            replace hr250 := Tr.trans (Dw := False) hr250 ht320
                            replace hB := Nat.le_trans hB ht320.ex.size
                            replace hA := ht320.new
                            replace hH : Hp w.heap.size A315 w318 (obC b313 [.int .i64 x308, .slice none 0 0] 53 :: obS (α := Int) 3 v95 x94.2.1 :: obS (α := cal_Special) 53 v56 s50.2.1.specials :: obS (α := cal_Shift) 51 v54 s50.2.1.week :: obS (α := cal_Change) 49 v52 s50.2.1.zone.changes :: obS (α := ByteArray) 9 v15 ([(⟨#[122, 111, 110, 101]⟩ : ByteArray), (⟨#[99, 104, 97, 110, 103, 101]⟩ : ByteArray), (⟨#[115, 104, 105, 102, 116]⟩ : ByteArray), (⟨#[100, 97, 121]⟩ : ByteArray)] : List ByteArray) :: obC b10 [.int .i64 s50.2.1.zone.offset, v52, v54, v56] 28 :: obC b1 [.int .i64 s50.2.2.zone.offset, v58, v60, v62] 28 :: []) := hH319
                            refine V_to (fun _ _ => rfl) ?_
                            refine C_seq ?_
                            refine C_seq ?_
                            refine C_region ?_
                            refine V_y (Y_assign rfl) rfl rfl rfl ?_
                            refine V_to (fun _ _ => rfl) ?_
                            replace hH : Hp w.heap.size A315 w318 (obS (α := cal_Shift) 51 (.slice none 0 0) ([] : (List cal_Shift)) :: obC b313 [.int .i64 x308, .slice none 0 0] 53 :: obS (α := Int) 3 v95 x94.2.1 :: obS (α := cal_Special) 53 v56 s50.2.1.specials :: obS (α := cal_Shift) 51 v54 s50.2.1.week :: obS (α := cal_Change) 49 v52 s50.2.1.zone.changes :: obS (α := ByteArray) 9 v15 ([(⟨#[122, 111, 110, 101]⟩ : ByteArray), (⟨#[99, 104, 97, 110, 103, 101]⟩ : ByteArray), (⟨#[115, 104, 105, 102, 116]⟩ : ByteArray), (⟨#[100, 97, 121]⟩ : ByteArray)] : List ByteArray) :: obC b10 [.int .i64 s50.2.1.zone.offset, v52, v54, v56] 28 :: obC b1 [.int .i64 s50.2.2.zone.offset, v58, v60, v62] 28 :: []) := Hp.addNil (α := cal_Shift) (e := 51) hH
                            obtain ⟨o321, ho321, ho248⟩ := Option.bind_eq_some_iff.1 ho248
                            refine C_cutG (ι := ((Int × cal_Special) × Value × (Nat → Prop))) (fun ⟨s322, v328, A330⟩ => [(2, .pointer (some ⟨b1, 0, none⟩)), (5, .pointer (some ⟨b10, 0, none⟩)), (6, v15), (7, .int .i64 x102), (8, v24), (18, .pointer (some ⟨b313, 0, none⟩)), (28, v24), (29, .int .i64 (x23.length : Int)), (30, .int .i64 (k32 : Int))]) (fun ⟨s322, v328, A330⟩ => fun w' => o321 = .fin s322 ∧ Hp w.heap.size A330 w' (obS (α := cal_Shift) 51 v328 s322.2.shifts :: obC b313 [.int .i64 s322.2.day, v328] 53 :: obS (α := Int) 3 v95 x94.2.1 :: obS (α := cal_Special) 53 v56 s50.2.1.specials :: obS (α := cal_Shift) 51 v54 s50.2.1.week :: obS (α := cal_Change) 49 v52 s50.2.1.zone.changes :: obS (α := ByteArray) 9 v15 ([(⟨#[122, 111, 110, 101]⟩ : ByteArray), (⟨#[99, 104, 97, 110, 103, 101]⟩ : ByteArray), (⟨#[115, 104, 105, 102, 116]⟩ : ByteArray), (⟨#[100, 97, 121]⟩ : ByteArray)] : List ByteArray) :: obC b10 [.int .i64 s50.2.1.zone.offset, v52, v54, v56] 28 :: obC b1 [.int .i64 s50.2.2.zone.offset, v58, v60, v62] 28 :: []) ∧ Tr False w.heap.size A315 w318 A330 w') ?_ ?_
                            · refine C_block ?_
                              refine C_while ho321 (fun s332 a w' => ∃ i : (Value × (Nat → Prop)), Has ⟨211, [], none⟩ a ([(2, .pointer (some ⟨b1, 0, none⟩)), (5, .pointer (some ⟨b10, 0, none⟩)), (6, v15), (7, .int .i64 x102), (8, v24), (15, v95), (18, .pointer (some ⟨b313, 0, none⟩)), (19, .int .i64 s332.1), (28, v24), (29, .int .i64 (x23.length : Int)), (30, .int .i64 (k32 : Int))]) ∧ Hp w.heap.size i.2 w' (obS (α := cal_Shift) 51 i.1 s332.2.shifts :: obC b313 [.int .i64 s332.2.day, i.1] 53 :: obS (α := Int) 3 v95 x94.2.1 :: obS (α := cal_Special) 53 v56 s50.2.1.specials :: obS (α := cal_Shift) 51 v54 s50.2.1.week :: obS (α := cal_Change) 49 v52 s50.2.1.zone.changes :: obS (α := ByteArray) 9 v15 ([(⟨#[122, 111, 110, 101]⟩ : ByteArray), (⟨#[99, 104, 97, 110, 103, 101]⟩ : ByteArray), (⟨#[115, 104, 105, 102, 116]⟩ : ByteArray), (⟨#[100, 97, 121]⟩ : ByteArray)] : List ByteArray) :: obC b10 [.int .i64 s50.2.1.zone.offset, v52, v54, v56] 28 :: obC b1 [.int .i64 s50.2.2.zone.offset, v58, v60, v62] 28 :: []) ∧ Tr False w.heap.size A315 w318 i.2 w') (fun a ha => ⟨(.slice none 0 0, A315), ha.sub ⟨rfl, rfl, rfl, rfl, rfl, rfl, rfl, rfl, rfl, rfl, rfl, trivial⟩, ⟨hH, Tr.refl (Dw := False) hA⟩⟩) ?_
                              rintro K s332 a w333 ⟨⟨v334, A336⟩, ha378, hH337, hr323⟩ K344
                              refine C_of ?_ ha378
                              replace h25 := Sl.tr (Dw := False) h25 hr323
                              replace h59 := Sl.tr (Dw := False) h59 hr323
                              replace h61 := Sl.tr (Dw := False) h61 hr323
                              replace h63 := Sl.tr (Dw := False) h63 hr323
                              replace hK := Tr.trans (Dw := False) hK hr323
                              replace hr31 := Tr.trans (Dw := False) hr31 hr323
                              replace hr142 := Tr.trans (Dw := False) hr142 hr323
                              replace hr164 := Tr.trans (Dw := False) hr164 hr323
                              replace hr196 := Tr.trans (Dw := False) hr196 hr323
                              replace hr250 := Tr.trans (Dw := False) hr250 hr323
                              replace hB := Nat.le_trans hB hr323.ex.size
                              replace hA := hr323.new
                              replace hH : Hp w.heap.size A336 w333 (obS (α := cal_Shift) 51 v334 s332.2.shifts :: obC b313 [.int .i64 s332.2.day, v334] 53 :: obS (α := Int) 3 v95 x94.2.1 :: obS (α := cal_Special) 53 v56 s50.2.1.specials :: obS (α := cal_Shift) 51 v54 s50.2.1.week :: obS (α := cal_Change) 49 v52 s50.2.1.zone.changes :: obS (α := ByteArray) 9 v15 ([(⟨#[122, 111, 110, 101]⟩ : ByteArray), (⟨#[99, 104, 97, 110, 103, 101]⟩ : ByteArray), (⟨#[115, 104, 105, 102, 116]⟩ : ByteArray), (⟨#[100, 97, 121]⟩ : ByteArray)] : List ByteArray) :: obC b10 [.int .i64 s50.2.1.zone.offset, v52, v54, v56] 28 :: obC b1 [.int .i64 s50.2.2.zone.offset, v58, v60, v62] 28 :: []) := hH337
                              obtain ⟨x338, h339, h340⟩ := K344
                              refine C_seq ?_
                              refine C_seq ?_
                              refine C_region ?_
                              refine V_y (Y_move rfl) rfl rfl rfl ?_
                              refine V_y (Y_move rfl) rfl rfl rfl ?_
                              refine V_y (Y_lenSl (Hp.any (α := Int) (e := 3) (v := v95) (l := x94.2.1) hH (i := 2) rfl) rfl Tryz.underlying44 rfl) rfl rfl rfl ?_
                              refine V_y (Y_lss rfl rfl) rfl rfl rfl ?_
                              refine V_to (fun _ _ => rfl) ?_
                              refine C_cond rfl (fun hc345 => ?_) (fun hc345 => ?_)
                              · rw [if_pos hc345] at h339
                                refine C_skip_to (fun _ _ => rfl) ?_
                                refine C_seq ?_
                                refine C_block ?_
                                refine C_region_ch (Dw := False) A336 16 [(1, 0), (0, 1), (1, 2), (1, 3), (0, 4), (0, 5), (1, 6), (1, 7), (1, 8), (0, 9), (0, 10), (1, 11), (2, 12), (4, 13), (1, 14), (4, 15)] Tryz_mixed (by kernel_rfl) (fun w346 hk347 => ?_)
                                have ht348 := Kp.tr (Dw := False) hk347 hA hB
                                replace hH := Hp.kp (Dw := False) hH hk347
                                replace h25 := Sl.tr (Dw := False) h25 ht348
                                replace h59 := Sl.tr (Dw := False) h59 ht348
                                replace h61 := Sl.tr (Dw := False) h61 ht348
                                replace h63 := Sl.tr (Dw := False) h63 ht348
                                replace hK := Tr.trans (Dw := False) hK ht348
                                replace hr31 := Tr.trans (Dw := False) hr31 ht348
                                replace hr142 := Tr.trans (Dw := False) hr142 ht348
                                replace hr164 := Tr.trans (Dw := False) hr164 ht348
                                replace hr196 := Tr.trans (Dw := False) hr196 ht348
                                replace hr250 := Tr.trans (Dw := False) hr250 ht348
                                replace hr323 := Tr.trans (Dw := False) hr323 ht348
                                replace hB := Nat.le_trans hB ht348.ex.size
                                replace hA := ht348.new
                                refine CH_q2 (Dw := False) rfl ?_
                                refine VQ_y (fun w' hw' => Y_fieldAddrC (off2 := 1) Tryz.underlying53 rfl Tryz.sizeOf25 (by decide) rfl rfl) rfl rfl rfl ?_
                                refine VQ_CH (Dw := False) ?_
                                refine CH_q1 (Dw := False) rfl ?_
                                refine VQ_y (fun w' hw' => Y_load ((World.cell?_of_block (hw'.block _ (World.block_lt_of_cell? _ _ (Hp.cell (j := 1) hH (i := 1) rfl rfl)))).trans (Hp.cell (j := 1) hH (i := 1) rfl rfl)) Tryz.isAgg25 rfl) rfl rfl rfl ?_
                                refine VQ_CH (Dw := False) ?_
                                refine CH_q2 (Dw := False) rfl ?_
                                refine VQ_y (fun w' hw' => Y_move rfl) rfl rfl rfl ?_
                                refine VQ_CH (Dw := False) ?_
                                refine CH_q2 (Dw := False) rfl ?_
                                refine VQ_y (fun w' hw' => Y_move rfl) rfl rfl rfl ?_
                                refine VQ_CH (Dw := False) ?_
                                refine CH_q1 (Dw := False) rfl ?_
                                obtain ⟨x349, hx349, h339⟩ := Option.bind_eq_some_iff.1 h339
                                refine VQ_indexAddrH (α := Int) (e := 3) (v := v95) (l := x94.2.1) hH (i := 2) rfl hx349 Tryz.underlying44 Tryz.sizeOf3 rfl rfl rfl ?_
                                intro b350 o351 h352 hl353
                                refine VQ_CH (Dw := False) ?_
                                refine CH_q1 (Dw := False) rfl ?_
                                refine VQ_y (fun w' hw' => Y_load (El.int (El.kp (Dw := False) h352 hw')) Tryz.isAgg3 rfl) rfl rfl rfl ?_
                                refine VQ_CH (Dw := False) ?_
                                refine CH_q2 (Dw := False) rfl ?_
                                refine VQ_y (fun w' hw' => Y_move rfl) rfl rfl rfl ?_
                                refine VQ_CH (Dw := False) ?_
                                refine CH_q2 (Dw := False) rfl ?_
                                refine VQ_y (fun w' hw' => Y_move rfl) rfl rfl rfl ?_
                                refine VQ_CH (Dw := False) ?_
                                refine CH_q2 (Dw := False) rfl ?_
                                refine VQ_y (fun w' hw' => Y_addI rfl rfl) rfl rfl rfl ?_
                                refine VQ_CH (Dw := False) ?_
                                refine CH_q1 (Dw := False) rfl ?_
                                obtain ⟨x354, hx354, h339⟩ := Option.bind_eq_some_iff.1 h339
                                refine VQ_indexAddrH (α := Int) (e := 3) (v := v95) (l := x94.2.1) hH (i := 2) rfl hx354 Tryz.underlying44 Tryz.sizeOf3 rfl rfl rfl ?_
                                intro b355 o356 h357 hl358
                                refine VQ_CH (Dw := False) ?_
                                refine CH_q1 (Dw := False) rfl ?_
                                refine VQ_y (fun w' hw' => Y_load (El.int (El.kp (Dw := False) h357 hw')) Tryz.isAgg3 rfl) rfl rfl rfl ?_
                                refine VQ_CH (Dw := False) ?_
                                refine CH_q2 (Dw := False) rfl ?_
                                refine VQ_y (fun w' hw' => Y_build Tryz.underlying51 Tryz.zeroValue51 (Tryz_places51 _ Tryz.underlying51) rfl (by with_unfolding_all rfl)) rfl rfl rfl ?_
                                refine VQ_CH (Dw := False) ?_
                                refine CH_l1 (Dw := False) (k := 0) rfl ?_
                                refine V_buildSlice (Dw := False) (cells := #[.int .i64 0, .int .i64 x349, .int .i64 x354]) (l := ([(⟨0, x349, x354⟩ : cal_Shift)] : List cal_Shift)) (len := 1) Tryz.underlying25 Tryz.sizeOf51 Tryz.zeroValue51 rfl (by kernel_rfl) (show (1 * 3 : Nat) ≠ 0 by decide) (show (1 * 3 : Nat) ≤ 2 ^ 24 by decide) hA ⟨[.int .i64 0, .int .i64 x349, .int .i64 x354], _, rfl, ⟨[.int .i64 0], _, rfl, rfl, ⟨[.int .i64 x349], _, rfl, rfl, rfl⟩⟩, rfl⟩ rfl rfl ?_
                                intro v359 w360 hk362 h361
                                have ht363 := Kp.tr (Dw := False) hk362 hA hB
                                replace hH := Hp.kp (Dw := False) hH hk362
                                replace h25 := Sl.tr (Dw := False) h25 ht363
                                replace h352 := El.kp (Dw := False) h352 hk362
                                replace h357 := El.kp (Dw := False) h357 hk362
                                replace h59 := Sl.tr (Dw := False) h59 ht363
                                replace h61 := Sl.tr (Dw := False) h61 ht363
                                replace h63 := Sl.tr (Dw := False) h63 ht363
                                replace hK := Tr.trans (Dw := False) hK ht363
                                replace hr31 := Tr.trans (Dw := False) hr31 ht363
                                replace hr142 := Tr.trans (Dw := False) hr142 ht363
                                replace hr164 := Tr.trans (Dw := False) hr164 ht363
                                replace hr196 := Tr.trans (Dw := False) hr196 ht363
                                replace hr250 := Tr.trans (Dw := False) hr250 ht363
                                replace hr323 := Tr.trans (Dw := False) hr323 ht363
                                replace hB := Nat.le_trans hB ht363.ex.size
                                replace hA := ht363.new
                                refine V_CH (Dw := False) (hk362) ?_
                                refine CH_l1 (Dw := False) (k := 2) rfl ?_
                                obtain ⟨x364, hx364, h339⟩ := Option.bind_eq_some_iff.1 h339
                                refine V_appendH (Dw := False) (e := 51) (v := v334) (l := s332.2.shifts) (ti := Tryz.t51) (bytes := 24) (lim := 5864062014805) hH (i := 0) rfl h361 hx364 Tryz.underlying25 Tryz_info51 rfl rfl rfl rfl (by decide) (by decide) (by decide) hB hA rfl rfl rfl ?_
                                intro v365 w366 A367 hH368 ht369
                                replace h25 := Sl.tr (Dw := False) h25 ht369
                                replace h361 := Sl.tr (Dw := False) h361 ht369
                                replace h59 := Sl.tr (Dw := False) h59 ht369
                                replace h61 := Sl.tr (Dw := False) h61 ht369
                                replace h63 := Sl.tr (Dw := False) h63 ht369
                                replace hK := Tr.trans (Dw := False) hK ht369
                                replace hr31 := Tr.trans (Dw := False) hr31 ht369
                                replace hr142 := Tr.trans (Dw := False) hr142 ht369
                                replace hr164 := Tr.trans (Dw := False) hr164 ht369
                                replace hr196 := Tr.trans (Dw := False) hr196 ht369
                                replace hr250 := Tr.trans (Dw := False) hr250 ht369
                                replace hr323 := Tr.trans (Dw := False) hr323 ht369
                                replace hB := Nat.le_trans hB ht369.ex.size
                                replace hA := ht369.new
                                replace hH : Hp w.heap.size A367 w366 (obS (α := cal_Shift) 51 v365 x364 :: obC b313 [.int .i64 s332.2.day, v334] 53 :: obS (α := Int) 3 v95 x94.2.1 :: obS (α := cal_Special) 53 v56 s50.2.1.specials :: obS (α := cal_Shift) 51 v54 s50.2.1.week :: obS (α := cal_Change) 49 v52 s50.2.1.zone.changes :: obS (α := ByteArray) 9 v15 ([(⟨#[122, 111, 110, 101]⟩ : ByteArray), (⟨#[99, 104, 97, 110, 103, 101]⟩ : ByteArray), (⟨#[115, 104, 105, 102, 116]⟩ : ByteArray), (⟨#[100, 97, 121]⟩ : ByteArray)] : List ByteArray) :: obC b10 [.int .i64 s50.2.1.zone.offset, v52, v54, v56] 28 :: obC b1 [.int .i64 s50.2.2.zone.offset, v58, v60, v62] 28 :: []) := hH368
                                refine V_CHw (Dw := False) ?_
                                refine CH_q2 (Dw := False) rfl ?_
                                refine VQ_y (fun w' hw' => Y_fieldAddrC (off2 := 1) Tryz.underlying53 rfl Tryz.sizeOf25 (by decide) rfl rfl) rfl rfl rfl ?_
                                refine VQ_CH (Dw := False) ?_
                                refine CH_l1 (Dw := False) (k := 2) rfl ?_
                                have h375 : (v365).oneCell' = true := by obtain ⟨_, _, e, _⟩ := Hp.form (α := cal_Shift) (e := 51) (v := v365) (l := x364) hH (i := 0) rfl; rw [e]; rfl
                                refine V_storeC (Dw := False) (off := 1) (ds := [.int .i64 s332.2.day, v365]) hH (i := 1) rfl Tryz.sizeOf25 (by rw [← Array.length_toList, Value.cells_one h375]; rfl) (Nat.le_of_ble_eq_true rfl) (by intro u hu; rw [Value.cells_one h375] at hu; simp at hu; subst hu; assumption) (by rw [Value.cells_one h375]; rfl) hB hA rfl rfl ?_
                                intro w370 hH371 ht372
                                replace h25 := Sl.tr (Dw := False) h25 ht372
                                replace h361 := Sl.tr (Dw := False) h361 ht372
                                replace h59 := Sl.tr (Dw := False) h59 ht372
                                replace h61 := Sl.tr (Dw := False) h61 ht372
                                replace h63 := Sl.tr (Dw := False) h63 ht372
                                replace hK := Tr.trans (Dw := False) hK ht372
                                replace hr31 := Tr.trans (Dw := False) hr31 ht372
                                replace hr142 := Tr.trans (Dw := False) hr142 ht372
                                replace hr164 := Tr.trans (Dw := False) hr164 ht372
                                replace hr196 := Tr.trans (Dw := False) hr196 ht372
                                replace hr250 := Tr.trans (Dw := False) hr250 ht372
                                replace hr323 := Tr.trans (Dw := False) hr323 ht372
                                replace hB := Nat.le_trans hB ht372.ex.size
                                replace hA := ht372.new
                                replace hH : Hp w.heap.size A367 w370 (obS (α := cal_Shift) 51 v365 x364 :: obC b313 [.int .i64 s332.2.day, v365] 53 :: obS (α := Int) 3 v95 x94.2.1 :: obS (α := cal_Special) 53 v56 s50.2.1.specials :: obS (α := cal_Shift) 51 v54 s50.2.1.week :: obS (α := cal_Change) 49 v52 s50.2.1.zone.changes :: obS (α := ByteArray) 9 v15 ([(⟨#[122, 111, 110, 101]⟩ : ByteArray), (⟨#[99, 104, 97, 110, 103, 101]⟩ : ByteArray), (⟨#[115, 104, 105, 102, 116]⟩ : ByteArray), (⟨#[100, 97, 121]⟩ : ByteArray)] : List ByteArray) :: obC b10 [.int .i64 s50.2.1.zone.offset, v52, v54, v56] 28 :: obC b1 [.int .i64 s50.2.2.zone.offset, v58, v60, v62] 28 :: []) := hH371
                                refine V_CHw (Dw := False) ?_
                                refine CH_tail (Dw := False) ?_
                                show V _ _ _ _ [] _ _
                                refine V_to (fun _ _ => rfl) ?_
                                refine C_region ?_
                                refine V_y (Y_move rfl) rfl rfl rfl ?_
                                refine V_y (Y_addI rfl rfl) rfl rfl rfl ?_
                                refine V_y (Y_assign rfl) rfl rfl rfl ?_
                                obtain rfl := Option.some.inj h339
                                refine V_end (fun a ha376 => ?_)
                                exact ⟨(w64 (s332.1 + 2), (⟨s332.2.day, x364⟩ : cal_Special)), h340, ⟨(v365, A367), ha376.sub ⟨rfl, rfl, rfl, rfl, rfl, rfl, rfl, rfl, rfl, rfl, rfl, trivial⟩, ⟨hH, hr323⟩⟩⟩
                              · rw [if_neg (nt hc345)] at h339
                                obtain rfl := Option.some.inj h339
                                refine C_exit (fun a ha377 => ?_)
                                exact ⟨((s332.1, s332.2), v334, A336), ha377.sub ⟨rfl, rfl, rfl, rfl, rfl, rfl, rfl, rfl, rfl, trivial⟩, ⟨h340.symm, hH, hr323⟩⟩
                            rintro ⟨s322, v328, A330⟩ w325 ⟨rfl, hH331, hk326⟩ a ha327
                            rw [Lp.andThen_fin] at ho248
                            replace h25 := Sl.tr (Dw := False) h25 hk326
                            replace h59 := Sl.tr (Dw := False) h59 hk326
                            replace h61 := Sl.tr (Dw := False) h61 hk326
                            replace h63 := Sl.tr (Dw := False) h63 hk326
                            replace hK := Tr.trans (Dw := False) hK hk326
                            replace hr31 := Tr.trans (Dw := False) hr31 hk326
                            replace hr142 := Tr.trans (Dw := False) hr142 hk326
                            replace hr164 := Tr.trans (Dw := False) hr164 hk326
                            replace hr196 := Tr.trans (Dw := False) hr196 hk326
                            replace hr250 := Tr.trans (Dw := False) hr250 hk326
                            replace hB := Nat.le_trans hB hk326.ex.size
                            replace hA := hk326.new
                            replace hH : Hp w.heap.size A330 w325 (obS (α := cal_Shift) 51 v328 s322.2.shifts :: obC b313 [.int .i64 s322.2.day, v328] 53 :: obS (α := Int) 3 v95 x94.2.1 :: obS (α := cal_Special) 53 v56 s50.2.1.specials :: obS (α := cal_Shift) 51 v54 s50.2.1.week :: obS (α := cal_Change) 49 v52 s50.2.1.zone.changes :: obS (α := ByteArray) 9 v15 ([(⟨#[122, 111, 110, 101]⟩ : ByteArray), (⟨#[99, 104, 97, 110, 103, 101]⟩ : ByteArray), (⟨#[115, 104, 105, 102, 116]⟩ : ByteArray), (⟨#[100, 97, 121]⟩ : ByteArray)] : List ByteArray) :: obC b10 [.int .i64 s50.2.1.zone.offset, v52, v54, v56] 28 :: obC b1 [.int .i64 s50.2.2.zone.offset, v58, v60, v62] 28 :: []) := hH331
                            refine C_at (n := ⟨211, [], none⟩) (fun _ _ => rfl) ?_ ha327
                            refine C_region ?_
                            refine V_y (Y_fieldAddrC (off2 := 3) Tryz.underlying28 rfl Tryz.sizeOf26 (by decide) rfl rfl) rfl rfl rfl ?_
                            refine V_y (Y_load (Hp.cell (j := 3) hH (i := 7) rfl rfl) Tryz.isAgg26 rfl) rfl rfl rfl ?_
                            refine V_y (Y_loadA (Hp.part (off := 0) (n := 2) (ds := [.int .i64 s322.2.day, v328]) hH (i := 1) rfl rfl) Tryz.isAgg53 Tryz.sizeOf53 rfl) rfl rfl rfl ?_
                            obtain ⟨A379, ht380, h381, hH382⟩ := Hp.freeze (Dw := False) (α := cal_Shift) (v := v328) (l := s322.2.shifts) hH (i := 0) rfl hA
                            replace h25 := Sl.tr (Dw := False) h25 ht380
                            replace h59 := Sl.tr (Dw := False) h59 ht380
                            replace h61 := Sl.tr (Dw := False) h61 ht380
                            replace h63 := Sl.tr (Dw := False) h63 ht380
                            replace hK := Tr.trans (Dw := False) hK ht380
                            replace hr31 := Tr.trans (Dw := False) hr31 ht380
                            replace hr142 := Tr.trans (Dw := False) hr142 ht380
                            replace hr164 := Tr.trans (Dw := False) hr164 ht380
                            replace hr196 := Tr.trans (Dw := False) hr196 ht380
                            replace hr250 := Tr.trans (Dw := False) hr250 ht380
                            replace hB := Nat.le_trans hB ht380.ex.size
                            replace hA := ht380.new
                            replace hH : Hp w.heap.size A379 w325 (obC b313 [.int .i64 s322.2.day, v328] 53 :: obS (α := Int) 3 v95 x94.2.1 :: obS (α := cal_Special) 53 v56 s50.2.1.specials :: obS (α := cal_Shift) 51 v54 s50.2.1.week :: obS (α := cal_Change) 49 v52 s50.2.1.zone.changes :: obS (α := ByteArray) 9 v15 ([(⟨#[122, 111, 110, 101]⟩ : ByteArray), (⟨#[99, 104, 97, 110, 103, 101]⟩ : ByteArray), (⟨#[115, 104, 105, 102, 116]⟩ : ByteArray), (⟨#[100, 97, 121]⟩ : ByteArray)] : List ByteArray) :: obC b10 [.int .i64 s50.2.1.zone.offset, v52, v54, v56] 28 :: obC b1 [.int .i64 s50.2.2.zone.offset, v58, v60, v62] 28 :: []) := hH382
                            refine V_buildSlice (Dw := False) (cells := #[.int .i64 s322.2.day, v328]) (l := ([s322.2] : List cal_Special)) (len := 1) Tryz.underlying26 Tryz.sizeOf53 Tryz.zeroValue53 rfl (by obtain ⟨a388, c389, e390, _⟩ := Sl.form h381; subst e390; kernel_rfl) (show (1 * 2 : Nat) ≠ 0 by decide) (show (1 * 2 : Nat) ≤ 2 ^ 24 by decide) hA ⟨[.int .i64 s322.2.day, v328], _, rfl, ⟨[.int .i64 s322.2.day], _, rfl, rfl, ⟨_, rfl, h381⟩⟩, rfl⟩ rfl rfl ?_
                            intro v384 w385 hk387 h386
                            have ht391 := Kp.tr (Dw := False) hk387 hA hB
                            replace hH := Hp.kp (Dw := False) hH hk387
                            replace h25 := Sl.tr (Dw := False) h25 ht391
                            replace h381 := Sl.tr (Dw := False) h381 ht391
                            replace h59 := Sl.tr (Dw := False) h59 ht391
                            replace h61 := Sl.tr (Dw := False) h61 ht391
                            replace h63 := Sl.tr (Dw := False) h63 ht391
                            replace hK := Tr.trans (Dw := False) hK ht391
                            replace hr31 := Tr.trans (Dw := False) hr31 ht391
                            replace hr142 := Tr.trans (Dw := False) hr142 ht391
                            replace hr164 := Tr.trans (Dw := False) hr164 ht391
                            replace hr196 := Tr.trans (Dw := False) hr196 ht391
                            replace hr250 := Tr.trans (Dw := False) hr250 ht391
                            replace hB := Nat.le_trans hB ht391.ex.size
                            replace hA := ht391.new
                            obtain ⟨x392, hx392, ho248⟩ := Option.bind_eq_some_iff.1 ho248
                            refine V_appendH (Dw := False) (e := 53) (v := v56) (l := s50.2.1.specials) (ti := Tryz.t53) (bytes := 32) (lim := 4398046511104) hH (i := 2) rfl h386 hx392 Tryz.underlying26 Tryz_info53 rfl rfl rfl rfl (by decide) (by decide) (by decide) hB hA rfl rfl rfl ?_
                            intro v393 w394 A395 hH396 ht397
                            replace h25 := Sl.tr (Dw := False) h25 ht397
                            replace h381 := Sl.tr (Dw := False) h381 ht397
                            replace h386 := Sl.tr (Dw := False) h386 ht397
                            replace h59 := Sl.tr (Dw := False) h59 ht397
                            replace h61 := Sl.tr (Dw := False) h61 ht397
                            replace h63 := Sl.tr (Dw := False) h63 ht397
                            replace hK := Tr.trans (Dw := False) hK ht397
                            replace hr31 := Tr.trans (Dw := False) hr31 ht397
                            replace hr142 := Tr.trans (Dw := False) hr142 ht397
                            replace hr164 := Tr.trans (Dw := False) hr164 ht397
                            replace hr196 := Tr.trans (Dw := False) hr196 ht397
                            replace hr250 := Tr.trans (Dw := False) hr250 ht397
                            replace hB := Nat.le_trans hB ht397.ex.size
                            replace hA := ht397.new
                            replace hH : Hp w.heap.size A395 w394 (obC b313 [.int .i64 s322.2.day, v328] 53 :: obS (α := Int) 3 v95 x94.2.1 :: obS (α := cal_Special) 53 v393 x392 :: obS (α := cal_Shift) 51 v54 s50.2.1.week :: obS (α := cal_Change) 49 v52 s50.2.1.zone.changes :: obS (α := ByteArray) 9 v15 ([(⟨#[122, 111, 110, 101]⟩ : ByteArray), (⟨#[99, 104, 97, 110, 103, 101]⟩ : ByteArray), (⟨#[115, 104, 105, 102, 116]⟩ : ByteArray), (⟨#[100, 97, 121]⟩ : ByteArray)] : List ByteArray) :: obC b10 [.int .i64 s50.2.1.zone.offset, v52, v54, v56] 28 :: obC b1 [.int .i64 s50.2.2.zone.offset, v58, v60, v62] 28 :: []) := hH396
                            refine V_y (Y_fieldAddrC (off2 := 3) Tryz.underlying28 rfl Tryz.sizeOf26 (by decide) rfl rfl) rfl rfl rfl ?_
                            have h403 : (v393).oneCell' = true := by obtain ⟨_, _, e, _⟩ := Hp.form (α := cal_Special) (e := 53) (v := v393) (l := x392) hH (i := 2) rfl; rw [e]; rfl
                            refine V_storeC (Dw := False) (off := 3) (ds := [.int .i64 s50.2.1.zone.offset, v52, v54, v393]) hH (i := 6) rfl Tryz.sizeOf26 (by rw [← Array.length_toList, Value.cells_one h403]; rfl) (Nat.le_of_ble_eq_true rfl) (by intro u hu; rw [Value.cells_one h403] at hu; simp at hu; subst hu; assumption) (by rw [Value.cells_one h403]; rfl) hB hA rfl rfl ?_
                            intro w398 hH399 ht400
                            replace h25 := Sl.tr (Dw := False) h25 ht400
                            replace h381 := Sl.tr (Dw := False) h381 ht400
                            replace h386 := Sl.tr (Dw := False) h386 ht400
                            replace h59 := Sl.tr (Dw := False) h59 ht400
                            replace h61 := Sl.tr (Dw := False) h61 ht400
                            replace h63 := Sl.tr (Dw := False) h63 ht400
                            replace hK := Tr.trans (Dw := False) hK ht400
                            replace hr31 := Tr.trans (Dw := False) hr31 ht400
                            replace hr142 := Tr.trans (Dw := False) hr142 ht400
                            replace hr164 := Tr.trans (Dw := False) hr164 ht400
                            replace hr196 := Tr.trans (Dw := False) hr196 ht400
                            replace hr250 := Tr.trans (Dw := False) hr250 ht400
                            replace hB := Nat.le_trans hB ht400.ex.size
                            replace hA := ht400.new
                            replace hH : Hp w.heap.size A395 w398 (obC b313 [.int .i64 s322.2.day, v328] 53 :: obS (α := Int) 3 v95 x94.2.1 :: obS (α := cal_Special) 53 v393 x392 :: obS (α := cal_Shift) 51 v54 s50.2.1.week :: obS (α := cal_Change) 49 v52 s50.2.1.zone.changes :: obS (α := ByteArray) 9 v15 ([(⟨#[122, 111, 110, 101]⟩ : ByteArray), (⟨#[99, 104, 97, 110, 103, 101]⟩ : ByteArray), (⟨#[115, 104, 105, 102, 116]⟩ : ByteArray), (⟨#[100, 97, 121]⟩ : ByteArray)] : List ByteArray) :: obC b10 [.int .i64 s50.2.1.zone.offset, v52, v54, v393] 28 :: obC b1 [.int .i64 s50.2.2.zone.offset, v58, v60, v62] 28 :: []) := hH399
                            obtain rfl := Option.some.inj ho248
                            refine V_end (fun a ha404 => ?_)
                            replace hH : Hp w.heap.size A395 w398 (obC b1 [.int .i64 s50.2.2.zone.offset, v58, v60, v62] 28 :: obC b313 [.int .i64 s322.2.day, v328] 53 :: obS (α := Int) 3 v95 x94.2.1 :: obS (α := cal_Special) 53 v393 x392 :: obS (α := cal_Shift) 51 v54 s50.2.1.week :: obS (α := cal_Change) 49 v52 s50.2.1.zone.changes :: obS (α := ByteArray) 9 v15 ([(⟨#[122, 111, 110, 101]⟩ : ByteArray), (⟨#[99, 104, 97, 110, 103, 101]⟩ : ByteArray), (⟨#[115, 104, 105, 102, 116]⟩ : ByteArray), (⟨#[100, 97, 121]⟩ : ByteArray)] : List ByteArray) :: obC b10 [.int .i64 s50.2.1.zone.offset, v52, v54, v393] 28 :: []) := Hp.front hH (i := 7) rfl
                            replace hH : Hp w.heap.size A395 w398 (obC b10 [.int .i64 s50.2.1.zone.offset, v52, v54, v393] 28 :: obC b1 [.int .i64 s50.2.2.zone.offset, v58, v60, v62] 28 :: obC b313 [.int .i64 s322.2.day, v328] 53 :: obS (α := Int) 3 v95 x94.2.1 :: obS (α := cal_Special) 53 v393 x392 :: obS (α := cal_Shift) 51 v54 s50.2.1.week :: obS (α := cal_Change) 49 v52 s50.2.1.zone.changes :: obS (α := ByteArray) 9 v15 ([(⟨#[122, 111, 110, 101]⟩ : ByteArray), (⟨#[99, 104, 97, 110, 103, 101]⟩ : ByteArray), (⟨#[115, 104, 105, 102, 116]⟩ : ByteArray), (⟨#[100, 97, 121]⟩ : ByteArray)] : List ByteArray) :: []) := Hp.front hH (i := 7) rfl
                            replace hH : Hp w.heap.size A395 w398 (obS (α := ByteArray) 9 v15 ([(⟨#[122, 111, 110, 101]⟩ : ByteArray), (⟨#[99, 104, 97, 110, 103, 101]⟩ : ByteArray), (⟨#[115, 104, 105, 102, 116]⟩ : ByteArray), (⟨#[100, 97, 121]⟩ : ByteArray)] : List ByteArray) :: obC b10 [.int .i64 s50.2.1.zone.offset, v52, v54, v393] 28 :: obC b1 [.int .i64 s50.2.2.zone.offset, v58, v60, v62] 28 :: obC b313 [.int .i64 s322.2.day, v328] 53 :: obS (α := Int) 3 v95 x94.2.1 :: obS (α := cal_Special) 53 v393 x392 :: obS (α := cal_Shift) 51 v54 s50.2.1.week :: obS (α := cal_Change) 49 v52 s50.2.1.zone.changes :: []) := Hp.front hH (i := 7) rfl
                            replace hH : Hp w.heap.size A395 w398 (obS (α := cal_Change) 49 v52 s50.2.1.zone.changes :: obS (α := ByteArray) 9 v15 ([(⟨#[122, 111, 110, 101]⟩ : ByteArray), (⟨#[99, 104, 97, 110, 103, 101]⟩ : ByteArray), (⟨#[115, 104, 105, 102, 116]⟩ : ByteArray), (⟨#[100, 97, 121]⟩ : ByteArray)] : List ByteArray) :: obC b10 [.int .i64 s50.2.1.zone.offset, v52, v54, v393] 28 :: obC b1 [.int .i64 s50.2.2.zone.offset, v58, v60, v62] 28 :: obC b313 [.int .i64 s322.2.day, v328] 53 :: obS (α := Int) 3 v95 x94.2.1 :: obS (α := cal_Special) 53 v393 x392 :: obS (α := cal_Shift) 51 v54 s50.2.1.week :: []) := Hp.front hH (i := 7) rfl
                            replace hH : Hp w.heap.size A395 w398 (obS (α := cal_Shift) 51 v54 s50.2.1.week :: obS (α := cal_Change) 49 v52 s50.2.1.zone.changes :: obS (α := ByteArray) 9 v15 ([(⟨#[122, 111, 110, 101]⟩ : ByteArray), (⟨#[99, 104, 97, 110, 103, 101]⟩ : ByteArray), (⟨#[115, 104, 105, 102, 116]⟩ : ByteArray), (⟨#[100, 97, 121]⟩ : ByteArray)] : List ByteArray) :: obC b10 [.int .i64 s50.2.1.zone.offset, v52, v54, v393] 28 :: obC b1 [.int .i64 s50.2.2.zone.offset, v58, v60, v62] 28 :: obC b313 [.int .i64 s322.2.day, v328] 53 :: obS (α := Int) 3 v95 x94.2.1 :: obS (α := cal_Special) 53 v393 x392 :: []) := Hp.front hH (i := 7) rfl
                            replace hH : Hp w.heap.size A395 w398 (obS (α := cal_Special) 53 v393 x392 :: obS (α := cal_Shift) 51 v54 s50.2.1.week :: obS (α := cal_Change) 49 v52 s50.2.1.zone.changes :: obS (α := ByteArray) 9 v15 ([(⟨#[122, 111, 110, 101]⟩ : ByteArray), (⟨#[99, 104, 97, 110, 103, 101]⟩ : ByteArray), (⟨#[115, 104, 105, 102, 116]⟩ : ByteArray), (⟨#[100, 97, 121]⟩ : ByteArray)] : List ByteArray) :: obC b10 [.int .i64 s50.2.1.zone.offset, v52, v54, v393] 28 :: obC b1 [.int .i64 s50.2.2.zone.offset, v58, v60, v62] 28 :: obC b313 [.int .i64 s322.2.day, v328] 53 :: obS (α := Int) 3 v95 x94.2.1 :: []) := Hp.front hH (i := 7) rfl
                            replace hH : Hp w.heap.size A395 w398 (obS (α := Int) 3 v95 x94.2.1 :: obS (α := cal_Special) 53 v393 x392 :: obS (α := cal_Shift) 51 v54 s50.2.1.week :: obS (α := cal_Change) 49 v52 s50.2.1.zone.changes :: obS (α := ByteArray) 9 v15 ([(⟨#[122, 111, 110, 101]⟩ : ByteArray), (⟨#[99, 104, 97, 110, 103, 101]⟩ : ByteArray), (⟨#[115, 104, 105, 102, 116]⟩ : ByteArray), (⟨#[100, 97, 121]⟩ : ByteArray)] : List ByteArray) :: obC b10 [.int .i64 s50.2.1.zone.offset, v52, v54, v393] 28 :: obC b1 [.int .i64 s50.2.2.zone.offset, v58, v60, v62] 28 :: obC b313 [.int .i64 s322.2.day, v328] 53 :: []) := Hp.front hH (i := 7) rfl
                            replace hH : Hp w.heap.size A395 w398 (obS (α := Int) 3 v95 x94.2.1 :: obS (α := cal_Special) 53 v393 x392 :: obS (α := cal_Shift) 51 v54 s50.2.1.week :: obS (α := cal_Change) 49 v52 s50.2.1.zone.changes :: obS (α := ByteArray) 9 v15 ([(⟨#[122, 111, 110, 101]⟩ : ByteArray), (⟨#[99, 104, 97, 110, 103, 101]⟩ : ByteArray), (⟨#[115, 104, 105, 102, 116]⟩ : ByteArray), (⟨#[100, 97, 121]⟩ : ByteArray)] : List ByteArray) :: obC b10 [.int .i64 s50.2.1.zone.offset, v52, v54, v393] 28 :: obC b1 [.int .i64 s50.2.2.zone.offset, v58, v60, v62] 28 :: []) := Hp.drop hH (i := 7) rfl
                            exact ⟨(((⟨s50.2.1.zone, s50.2.1.week, x392⟩ : cal_Calendar), s50.2.2), v52, v54, v393, v58, v60, v62, A395), ha404.sub ⟨rfl, rfl, rfl, rfl, rfl, rfl, rfl, rfl, trivial⟩, ⟨rfl, h59, h61, h63, hH, hr250⟩⟩
                          · rw [if_neg (nt hc307)] at ho248
                            refine C_seq ?_
                            refine C_region ?_
                            refine V_y (Y_move rfl) rfl rfl rfl ?_
                            obtain ⟨x405, hx405, ho248⟩ := Option.bind_eq_some_iff.1 ho248
                            refine V_call Tryz.call11 rfl rfl rfl rfl (portref2_ReadCalendarOf_1_c (Dw := False) w97 hA (k32 : Int) b79 h84 hx405) ?_
                            rintro _ w412 ⟨v406, v408, v410, rfl, h407, h409, h411, hk413⟩
                            have ht414 := Kp.tr (Dw := False) hk413 hA hB
                            replace hH := Hp.kp (Dw := False) hH hk413
                            replace h25 := Sl.tr (Dw := False) h25 ht414
                            replace h84 := El.tr (Dw := False) h84 ht414
                            replace h59 := Sl.tr (Dw := False) h59 ht414
                            replace h61 := Sl.tr (Dw := False) h61 ht414
                            replace h63 := Sl.tr (Dw := False) h63 ht414
                            replace hK := Tr.trans (Dw := False) hK ht414
                            replace hr31 := Tr.trans (Dw := False) hr31 ht414
                            replace hr142 := Tr.trans (Dw := False) hr142 ht414
                            replace hr164 := Tr.trans (Dw := False) hr164 ht414
                            replace hr196 := Tr.trans (Dw := False) hr196 ht414
                            replace hr250 := Tr.trans (Dw := False) hr250 ht414
                            replace hB := Nat.le_trans hB ht414.ex.size
                            replace hA := ht414.new
                            refine V_y (Y_extract rfl rfl) rfl rfl rfl ?_
                            refine V_y (Y_extract rfl rfl) rfl rfl rfl ?_
                            refine V_y (Y_extract rfl rfl) rfl rfl rfl ?_
                            have h420 : (v406).oneCell' = true := by obtain ⟨_, _, e, _⟩ := Sl.form h407; rw [e]; rfl
                            have h423 : (v408).oneCell' = true := by obtain ⟨_, _, e, _⟩ := Sl.form h409; rw [e]; rfl
                            have h426 : (v410).oneCell' = true := by obtain ⟨_, _, e, _⟩ := Sl.form h411; rw [e]; rfl
                            refine V_storeC (Dw := False) (off := 0) (ds := [.int .i64 x405.1.zone.offset, v406, v408, v410]) hH (i := 6) rfl Tryz.sizeOf28 rfl (Nat.le_of_ble_eq_true rfl) (by exact (List.forall_mem_cons.2 ⟨rfl, (List.forall_mem_cons.2 ⟨h420, (List.forall_mem_cons.2 ⟨h423, (List.forall_mem_cons.2 ⟨h426, (fun _ h => nomatch h)⟩)⟩)⟩)⟩)) rfl hB hA rfl rfl ?_
                            intro w415 hH416 ht417
                            replace h25 := Sl.tr (Dw := False) h25 ht417
                            replace h84 := El.tr (Dw := False) h84 ht417
                            replace h407 := Sl.tr (Dw := False) h407 ht417
                            replace h409 := Sl.tr (Dw := False) h409 ht417
                            replace h411 := Sl.tr (Dw := False) h411 ht417
                            replace h59 := Sl.tr (Dw := False) h59 ht417
                            replace h61 := Sl.tr (Dw := False) h61 ht417
                            replace h63 := Sl.tr (Dw := False) h63 ht417
                            replace hK := Tr.trans (Dw := False) hK ht417
                            replace hr31 := Tr.trans (Dw := False) hr31 ht417
                            replace hr142 := Tr.trans (Dw := False) hr142 ht417
                            replace hr164 := Tr.trans (Dw := False) hr164 ht417
                            replace hr196 := Tr.trans (Dw := False) hr196 ht417
                            replace hr250 := Tr.trans (Dw := False) hr250 ht417
                            replace hB := Nat.le_trans hB ht417.ex.size
                            replace hA := ht417.new
                            replace hH : Hp w.heap.size A99 w415 (obS (α := Int) 3 v95 x94.2.1 :: obS (α := cal_Special) 53 v56 s50.2.1.specials :: obS (α := cal_Shift) 51 v54 s50.2.1.week :: obS (α := cal_Change) 49 v52 s50.2.1.zone.changes :: obS (α := ByteArray) 9 v15 ([(⟨#[122, 111, 110, 101]⟩ : ByteArray), (⟨#[99, 104, 97, 110, 103, 101]⟩ : ByteArray), (⟨#[115, 104, 105, 102, 116]⟩ : ByteArray), (⟨#[100, 97, 121]⟩ : ByteArray)] : List ByteArray) :: obC b10 [.int .i64 s50.2.1.zone.offset, v52, v54, v56] 28 :: obC b1 [.int .i64 x405.1.zone.offset, v406, v408, v410] 28 :: []) := hH416
                            refine V_y (Y_assign rfl) rfl rfl rfl ?_
                            refine V_y (Y_assign rfl) rfl rfl rfl ?_
                            refine V_to (fun _ _ => rfl) ?_
                            obtain rfl := Option.some.inj ho248
                            rw [Lp.andThen_rt] at ho194
                            obtain rfl := Option.some.inj ho194
                            rw [Lp.andThen_rt] at ho162
                            obtain rfl := Option.some.inj ho162
                            rw [Lp.andThen_rt] at ho140
                            obtain rfl := Option.some.inj ho140
                            rw [Lp.andThen_rt] at h67
                            obtain rfl := Option.some.inj h67
                            obtain rfl := (h68 : Lp.rt _ = _)
                            rw [Lp.andThen_rt] at hm
                            obtain rfl := Option.some.inj hm
                            refine C_ret ?_
                            try simp only [↓inBlock_ret, ↓then_ret]
                            exact retQ rfl (Res.l3 Tryz.results5 (RL.cell rfl (loadVar_agg (Hp.part (off := 0) (n := 4) (ds := [.int .i64 x405.1.zone.offset, v406, v408, v410]) hH (i := 6) rfl rfl) Tryz.isAgg28 Tryz.sizeOf28)) (RL.tmp rfl) (RL.tmp rfl)) ⟨v406, v408, v410, rfl, (Sl.out (Dw := False) h407 hA0 hK), (Sl.out (Dw := False) h409 hA0 hK), (Sl.out (Dw := False) h411 hA0 hK), hK.kp⟩
                      rintro ⟨s249, v251, v253, v255, v257, v259, v261, A266⟩ w263 ⟨rfl, h258, h260, h262, hH267, hk264⟩ a ha265
                      rw [Lp.andThen_fin] at ho194
                      replace h25 := Sl.tr (Dw := False) h25 hk264
                      replace hK := Tr.trans (Dw := False) hK hk264
                      replace hr31 := Tr.trans (Dw := False) hr31 hk264
                      replace hr142 := Tr.trans (Dw := False) hr142 hk264
                      replace hr164 := Tr.trans (Dw := False) hr164 hk264
                      replace hr196 := Tr.trans (Dw := False) hr196 hk264
                      replace hB := Nat.le_trans hB hk264.ex.size
                      replace hA := hk264.new
                      replace hH : Hp w.heap.size A266 w263 (obS (α := Int) 3 v95 x94.2.1 :: obS (α := cal_Special) 53 v255 s249.1.specials :: obS (α := cal_Shift) 51 v253 s249.1.week :: obS (α := cal_Change) 49 v251 s249.1.zone.changes :: obS (α := ByteArray) 9 v15 ([(⟨#[122, 111, 110, 101]⟩ : ByteArray), (⟨#[99, 104, 97, 110, 103, 101]⟩ : ByteArray), (⟨#[115, 104, 105, 102, 116]⟩ : ByteArray), (⟨#[100, 97, 121]⟩ : ByteArray)] : List ByteArray) :: obC b10 [.int .i64 s249.1.zone.offset, v251, v253, v255] 28 :: obC b1 [.int .i64 s249.2.zone.offset, v257, v259, v261] 28 :: []) := hH267
                      obtain rfl := Option.some.inj ho194
                      exact ⟨((s249.1, s249.2), v251, v253, v255, v257, v259, v261, A266), ha265.sub ⟨rfl, rfl, rfl, rfl, rfl, rfl, rfl, rfl, trivial⟩, ⟨rfl, h258, h260, h262, hH, hr196⟩⟩
                  rintro ⟨s195, v197, v199, v201, v203, v205, v207, A212⟩ w209 ⟨rfl, h204, h206, h208, hH213, hk210⟩ a ha211
                  rw [Lp.andThen_fin] at ho162
                  replace h25 := Sl.tr (Dw := False) h25 hk210
                  replace hK := Tr.trans (Dw := False) hK hk210
                  replace hr31 := Tr.trans (Dw := False) hr31 hk210
                  replace hr142 := Tr.trans (Dw := False) hr142 hk210
                  replace hr164 := Tr.trans (Dw := False) hr164 hk210
                  replace hB := Nat.le_trans hB hk210.ex.size
                  replace hA := hk210.new
                  replace hH : Hp w.heap.size A212 w209 (obS (α := Int) 3 v95 x94.2.1 :: obS (α := cal_Special) 53 v201 s195.1.specials :: obS (α := cal_Shift) 51 v199 s195.1.week :: obS (α := cal_Change) 49 v197 s195.1.zone.changes :: obS (α := ByteArray) 9 v15 ([(⟨#[122, 111, 110, 101]⟩ : ByteArray), (⟨#[99, 104, 97, 110, 103, 101]⟩ : ByteArray), (⟨#[115, 104, 105, 102, 116]⟩ : ByteArray), (⟨#[100, 97, 121]⟩ : ByteArray)] : List ByteArray) :: obC b10 [.int .i64 s195.1.zone.offset, v197, v199, v201] 28 :: obC b1 [.int .i64 s195.2.zone.offset, v203, v205, v207] 28 :: []) := hH213
                  obtain rfl := Option.some.inj ho162
                  exact ⟨((s195.1, s195.2), v197, v199, v201, v203, v205, v207, A212), ha211.sub ⟨rfl, rfl, rfl, rfl, rfl, rfl, rfl, rfl, trivial⟩, ⟨rfl, h204, h206, h208, hH, hr164⟩⟩
              rintro ⟨s163, v165, v167, v169, v171, v173, v175, A180⟩ w177 ⟨rfl, h172, h174, h176, hH181, hk178⟩ a ha179
              rw [Lp.andThen_fin] at ho140
              replace h25 := Sl.tr (Dw := False) h25 hk178
              replace hK := Tr.trans (Dw := False) hK hk178
              replace hr31 := Tr.trans (Dw := False) hr31 hk178
              replace hr142 := Tr.trans (Dw := False) hr142 hk178
              replace hB := Nat.le_trans hB hk178.ex.size
              replace hA := hk178.new
              replace hH : Hp w.heap.size A180 w177 (obS (α := Int) 3 v95 x94.2.1 :: obS (α := cal_Special) 53 v169 s163.1.specials :: obS (α := cal_Shift) 51 v167 s163.1.week :: obS (α := cal_Change) 49 v165 s163.1.zone.changes :: obS (α := ByteArray) 9 v15 ([(⟨#[122, 111, 110, 101]⟩ : ByteArray), (⟨#[99, 104, 97, 110, 103, 101]⟩ : ByteArray), (⟨#[115, 104, 105, 102, 116]⟩ : ByteArray), (⟨#[100, 97, 121]⟩ : ByteArray)] : List ByteArray) :: obC b10 [.int .i64 s163.1.zone.offset, v165, v167, v169] 28 :: obC b1 [.int .i64 s163.2.zone.offset, v171, v173, v175] 28 :: []) := hH181
              obtain rfl := Option.some.inj ho140
              exact ⟨((s163.1, s163.2), v165, v167, v169, v171, v173, v175, A180), ha179.sub ⟨rfl, rfl, rfl, rfl, rfl, rfl, rfl, rfl, trivial⟩, ⟨rfl, h172, h174, h176, hH, hr142⟩⟩
            rintro ⟨s141, v143, v145, v147, v149, v151, v153, A158⟩ w155 ⟨rfl, h150, h152, h154, hH159, hk156⟩ a ha157
            rw [Lp.andThen_fin] at h67
            replace h25 := Sl.tr (Dw := False) h25 hk156
            replace hK := Tr.trans (Dw := False) hK hk156
            replace hr31 := Tr.trans (Dw := False) hr31 hk156
            replace hB := Nat.le_trans hB hk156.ex.size
            replace hA := hk156.new
            replace hH : Hp w.heap.size A158 w155 (obS (α := Int) 3 v95 x94.2.1 :: obS (α := cal_Special) 53 v147 s141.1.specials :: obS (α := cal_Shift) 51 v145 s141.1.week :: obS (α := cal_Change) 49 v143 s141.1.zone.changes :: obS (α := ByteArray) 9 v15 ([(⟨#[122, 111, 110, 101]⟩ : ByteArray), (⟨#[99, 104, 97, 110, 103, 101]⟩ : ByteArray), (⟨#[115, 104, 105, 102, 116]⟩ : ByteArray), (⟨#[100, 97, 121]⟩ : ByteArray)] : List ByteArray) :: obC b10 [.int .i64 s141.1.zone.offset, v143, v145, v147] 28 :: obC b1 [.int .i64 s141.2.zone.offset, v149, v151, v153] 28 :: []) := hH159
            refine C_at (n := ⟨211, [], none⟩) (fun _ _ => rfl) ?_ ha157
            refine C_region ?_
            refine V_y (Y_addI rfl rfl) rfl rfl rfl ?_
            refine V_y (Y_move rfl) rfl rfl rfl ?_
            obtain rfl := Option.some.inj h67
            refine V_end (fun a ha430 => ?_)
            replace hH : Hp w.heap.size A158 w155 (obC b1 [.int .i64 s141.2.zone.offset, v149, v151, v153] 28 :: obS (α := Int) 3 v95 x94.2.1 :: obS (α := cal_Special) 53 v147 s141.1.specials :: obS (α := cal_Shift) 51 v145 s141.1.week :: obS (α := cal_Change) 49 v143 s141.1.zone.changes :: obS (α := ByteArray) 9 v15 ([(⟨#[122, 111, 110, 101]⟩ : ByteArray), (⟨#[99, 104, 97, 110, 103, 101]⟩ : ByteArray), (⟨#[115, 104, 105, 102, 116]⟩ : ByteArray), (⟨#[100, 97, 121]⟩ : ByteArray)] : List ByteArray) :: obC b10 [.int .i64 s141.1.zone.offset, v143, v145, v147] 28 :: []) := Hp.front hH (i := 6) rfl
            replace hH : Hp w.heap.size A158 w155 (obC b10 [.int .i64 s141.1.zone.offset, v143, v145, v147] 28 :: obC b1 [.int .i64 s141.2.zone.offset, v149, v151, v153] 28 :: obS (α := Int) 3 v95 x94.2.1 :: obS (α := cal_Special) 53 v147 s141.1.specials :: obS (α := cal_Shift) 51 v145 s141.1.week :: obS (α := cal_Change) 49 v143 s141.1.zone.changes :: obS (α := ByteArray) 9 v15 ([(⟨#[122, 111, 110, 101]⟩ : ByteArray), (⟨#[99, 104, 97, 110, 103, 101]⟩ : ByteArray), (⟨#[115, 104, 105, 102, 116]⟩ : ByteArray), (⟨#[100, 97, 121]⟩ : ByteArray)] : List ByteArray) :: []) := Hp.front hH (i := 6) rfl
            replace hH : Hp w.heap.size A158 w155 (obS (α := ByteArray) 9 v15 ([(⟨#[122, 111, 110, 101]⟩ : ByteArray), (⟨#[99, 104, 97, 110, 103, 101]⟩ : ByteArray), (⟨#[115, 104, 105, 102, 116]⟩ : ByteArray), (⟨#[100, 97, 121]⟩ : ByteArray)] : List ByteArray) :: obC b10 [.int .i64 s141.1.zone.offset, v143, v145, v147] 28 :: obC b1 [.int .i64 s141.2.zone.offset, v149, v151, v153] 28 :: obS (α := Int) 3 v95 x94.2.1 :: obS (α := cal_Special) 53 v147 s141.1.specials :: obS (α := cal_Shift) 51 v145 s141.1.week :: obS (α := cal_Change) 49 v143 s141.1.zone.changes :: []) := Hp.front hH (i := 6) rfl
            replace hH : Hp w.heap.size A158 w155 (obS (α := cal_Change) 49 v143 s141.1.zone.changes :: obS (α := ByteArray) 9 v15 ([(⟨#[122, 111, 110, 101]⟩ : ByteArray), (⟨#[99, 104, 97, 110, 103, 101]⟩ : ByteArray), (⟨#[115, 104, 105, 102, 116]⟩ : ByteArray), (⟨#[100, 97, 121]⟩ : ByteArray)] : List ByteArray) :: obC b10 [.int .i64 s141.1.zone.offset, v143, v145, v147] 28 :: obC b1 [.int .i64 s141.2.zone.offset, v149, v151, v153] 28 :: obS (α := Int) 3 v95 x94.2.1 :: obS (α := cal_Special) 53 v147 s141.1.specials :: obS (α := cal_Shift) 51 v145 s141.1.week :: []) := Hp.front hH (i := 6) rfl
            replace hH : Hp w.heap.size A158 w155 (obS (α := cal_Shift) 51 v145 s141.1.week :: obS (α := cal_Change) 49 v143 s141.1.zone.changes :: obS (α := ByteArray) 9 v15 ([(⟨#[122, 111, 110, 101]⟩ : ByteArray), (⟨#[99, 104, 97, 110, 103, 101]⟩ : ByteArray), (⟨#[115, 104, 105, 102, 116]⟩ : ByteArray), (⟨#[100, 97, 121]⟩ : ByteArray)] : List ByteArray) :: obC b10 [.int .i64 s141.1.zone.offset, v143, v145, v147] 28 :: obC b1 [.int .i64 s141.2.zone.offset, v149, v151, v153] 28 :: obS (α := Int) 3 v95 x94.2.1 :: obS (α := cal_Special) 53 v147 s141.1.specials :: []) := Hp.front hH (i := 6) rfl
            replace hH : Hp w.heap.size A158 w155 (obS (α := cal_Special) 53 v147 s141.1.specials :: obS (α := cal_Shift) 51 v145 s141.1.week :: obS (α := cal_Change) 49 v143 s141.1.zone.changes :: obS (α := ByteArray) 9 v15 ([(⟨#[122, 111, 110, 101]⟩ : ByteArray), (⟨#[99, 104, 97, 110, 103, 101]⟩ : ByteArray), (⟨#[115, 104, 105, 102, 116]⟩ : ByteArray), (⟨#[100, 97, 121]⟩ : ByteArray)] : List ByteArray) :: obC b10 [.int .i64 s141.1.zone.offset, v143, v145, v147] 28 :: obC b1 [.int .i64 s141.2.zone.offset, v149, v151, v153] 28 :: obS (α := Int) 3 v95 x94.2.1 :: []) := Hp.front hH (i := 6) rfl
            replace hH : Hp w.heap.size A158 w155 (obS (α := cal_Special) 53 v147 s141.1.specials :: obS (α := cal_Shift) 51 v145 s141.1.week :: obS (α := cal_Change) 49 v143 s141.1.zone.changes :: obS (α := ByteArray) 9 v15 ([(⟨#[122, 111, 110, 101]⟩ : ByteArray), (⟨#[99, 104, 97, 110, 103, 101]⟩ : ByteArray), (⟨#[115, 104, 105, 102, 116]⟩ : ByteArray), (⟨#[100, 97, 121]⟩ : ByteArray)] : List ByteArray) :: obC b10 [.int .i64 s141.1.zone.offset, v143, v145, v147] 28 :: obC b1 [.int .i64 s141.2.zone.offset, v149, v151, v153] 28 :: []) := Hp.drop hH (i := 6) rfl
            exact ⟨(x102, s141.1, s141.2), hlt70, h68, ⟨(v143, v145, v147, v149, v151, v153, A158), ha430.sub ⟨rfl, rfl, rfl, rfl, rfl, rfl, rfl, (congrArg (fun z => some (Value.int .i64 z)) (w64_succ hlt70 hn73)), trivial⟩, ⟨h150, h152, h154, hH, hr31⟩⟩⟩
      · refine C_exit (fun a ha431 => ?_)
        exact ⟨((s50.1, s50.2.1, s50.2.2), v52, v54, v56, v58, v60, v62, A64), ha431.sub ⟨rfl, rfl, trivial⟩, ⟨(h71 (eq_of_dec hle69 hc74)).symm, h59, h61, h63, hH, hr31⟩⟩
    rintro ⟨s30, v36, v38, v40, v42, v44, v46, A48⟩ w33 ⟨rfl, h43, h45, h47, hH49, hk34⟩ a ha35
    rw [Lp.andThen_fin] at hm
    replace hK := Tr.trans (Dw := False) hK hk34
    replace hB := Nat.le_trans hB hk34.ex.size
    replace hA := hk34.new
    replace hH : Hp w.heap.size A48 w33 (obS (α := cal_Special) 53 v40 s30.2.1.specials :: obS (α := cal_Shift) 51 v38 s30.2.1.week :: obS (α := cal_Change) 49 v36 s30.2.1.zone.changes :: obS (α := ByteArray) 9 v15 ([(⟨#[122, 111, 110, 101]⟩ : ByteArray), (⟨#[99, 104, 97, 110, 103, 101]⟩ : ByteArray), (⟨#[115, 104, 105, 102, 116]⟩ : ByteArray), (⟨#[100, 97, 121]⟩ : ByteArray)] : List ByteArray) :: obC b10 [.int .i64 s30.2.1.zone.offset, v36, v38, v40] 28 :: obC b1 [.int .i64 s30.2.2.zone.offset, v42, v44, v46] 28 :: []) := hH49
    refine C_at (n := ⟨211, [], none⟩) (fun _ _ => rfl) ?_ ha35
    refine C_seq ?_
    refine C_seq ?_
    refine C_region ?_
    refine V_y (Y_loadA (Hp.part (off := 0) (n := 4) (ds := [.int .i64 s30.2.1.zone.offset, v36, v38, v40]) hH (i := 4) rfl rfl) Tryz.isAgg28 Tryz.sizeOf28 rfl) rfl rfl rfl ?_
    obtain ⟨x433, hx433, hm⟩ := Option.bind_eq_some_iff.1 hm
    refine V_call Tryz.call15 rfl rfl rfl rfl (portref2_CalendarFault_c (Dw := False) w33 (A := fun _ => True) (fun _ _ => trivial) s30.2.1 v36 (Hp.any (α := cal_Change) (e := 49) (v := v36) (l := s30.2.1.zone.changes) hH (i := 2) rfl) v38 (Hp.any (α := cal_Shift) (e := 51) (v := v38) (l := s30.2.1.week) hH (i := 1) rfl) v40 (Hp.any (α := cal_Special) (e := 53) (v := v40) (l := s30.2.1.specials) hH (i := 0) rfl) hx433) ?_
    rintro _ w434 ⟨rfl, hk435⟩
    have ht436 := Kp.tr (Dw := False) hk435 hA hB
    replace hH := Hp.kp (Dw := False) hH hk435
    replace h43 := Sl.tr (Dw := False) h43 ht436
    replace h45 := Sl.tr (Dw := False) h45 ht436
    replace h47 := Sl.tr (Dw := False) h47 ht436
    replace hK := Tr.trans (Dw := False) hK ht436
    replace hB := Nat.le_trans hB ht436.ex.size
    replace hA := ht436.new
    refine V_y (Y_assign rfl) rfl rfl rfl ?_
    refine V_to (fun _ _ => rfl) ?_
    refine C_seq ?_
    refine C_region ?_
    refine V_y (Y_move rfl) rfl rfl rfl ?_
    refine V_y (Y_neq rfl rfl) rfl rfl rfl ?_
    refine V_to (fun _ _ => rfl) ?_
    refine C_cond rfl (fun hc437 => ?_) (fun hc437 => ?_)
    · rw [if_pos hc437] at hm
      refine C_seq ?_
      refine C_region ?_
      refine V_y (Y_build (cells := #[.int .i64 0, .slice none 0 0, .slice none 0 0, .slice none 0 0]) Tryz.underlying28 Tryz.zeroValue28 (Tryz_places28 _ Tryz.underlying28) rfl (by with_unfolding_all rfl)) rfl rfl rfl ?_
      refine V_y (Y_move rfl) rfl rfl rfl ?_
      refine V_storeC (Dw := False) (off := 0) (ds := [.int .i64 0, .slice none 0 0, .slice none 0 0, .slice none 0 0]) hH (i := 5) rfl Tryz.sizeOf28 rfl (Nat.le_of_ble_eq_true rfl) (by exact (List.forall_mem_cons.2 ⟨rfl, (List.forall_mem_cons.2 ⟨rfl, (List.forall_mem_cons.2 ⟨rfl, (List.forall_mem_cons.2 ⟨rfl, (fun _ h => nomatch h)⟩)⟩)⟩)⟩)) rfl hB hA rfl rfl ?_
      intro w438 hH439 ht440
      replace h43 := Sl.tr (Dw := False) h43 ht440
      replace h45 := Sl.tr (Dw := False) h45 ht440
      replace h47 := Sl.tr (Dw := False) h47 ht440
      replace hK := Tr.trans (Dw := False) hK ht440
      replace hB := Nat.le_trans hB ht440.ex.size
      replace hA := ht440.new
      replace hH : Hp w.heap.size A48 w438 (obS (α := cal_Special) 53 v40 s30.2.1.specials :: obS (α := cal_Shift) 51 v38 s30.2.1.week :: obS (α := cal_Change) 49 v36 s30.2.1.zone.changes :: obS (α := ByteArray) 9 v15 ([(⟨#[122, 111, 110, 101]⟩ : ByteArray), (⟨#[99, 104, 97, 110, 103, 101]⟩ : ByteArray), (⟨#[115, 104, 105, 102, 116]⟩ : ByteArray), (⟨#[100, 97, 121]⟩ : ByteArray)] : List ByteArray) :: obC b10 [.int .i64 s30.2.1.zone.offset, v36, v38, v40] 28 :: obC b1 [.int .i64 0, .slice none 0 0, .slice none 0 0, .slice none 0 0] 28 :: []) := hH439
      refine V_y (Y_assign rfl) rfl rfl rfl ?_
      refine V_y (Y_assign rfl) rfl rfl rfl ?_
      refine V_to (fun _ _ => rfl) ?_
      obtain rfl := Option.some.inj hm
      refine C_ret ?_
      try simp only [↓inBlock_ret, ↓then_ret]
      exact retQ rfl (Res.l3 Tryz.results5 (RL.cell rfl (loadVar_agg (Hp.part (off := 0) (n := 4) (ds := [.int .i64 0, .slice none 0 0, .slice none 0 0, .slice none 0 0]) hH (i := 5) rfl rfl) Tryz.isAgg28 Tryz.sizeOf28)) (RL.tmp rfl) (RL.tmp rfl)) ⟨.slice none 0 0, .slice none 0 0, .slice none 0 0, rfl, Sl.nil, Sl.nil, Sl.nil, hK.kp⟩
    · rw [if_neg (nt hc437)] at hm
      refine C_skip_to (fun _ _ => rfl) ?_
      refine C_seq ?_
      refine C_region ?_
      refine V_y (Y_loadA (Hp.part (off := 0) (n := 4) (ds := [.int .i64 s30.2.1.zone.offset, v36, v38, v40]) hH (i := 4) rfl rfl) Tryz.isAgg28 Tryz.sizeOf28 rfl) rfl rfl rfl ?_
      obtain ⟨A441, ht442, h443, hH444⟩ := Hp.freeze (Dw := False) (α := cal_Change) (v := v36) (l := s30.2.1.zone.changes) hH (i := 2) rfl hA
      replace h43 := Sl.tr (Dw := False) h43 ht442
      replace h45 := Sl.tr (Dw := False) h45 ht442
      replace h47 := Sl.tr (Dw := False) h47 ht442
      replace hK := Tr.trans (Dw := False) hK ht442
      replace hB := Nat.le_trans hB ht442.ex.size
      replace hA := ht442.new
      replace hH : Hp w.heap.size A441 w434 (obS (α := cal_Special) 53 v40 s30.2.1.specials :: obS (α := cal_Shift) 51 v38 s30.2.1.week :: obS (α := ByteArray) 9 v15 ([(⟨#[122, 111, 110, 101]⟩ : ByteArray), (⟨#[99, 104, 97, 110, 103, 101]⟩ : ByteArray), (⟨#[115, 104, 105, 102, 116]⟩ : ByteArray), (⟨#[100, 97, 121]⟩ : ByteArray)] : List ByteArray) :: obC b10 [.int .i64 s30.2.1.zone.offset, v36, v38, v40] 28 :: obC b1 [.int .i64 s30.2.2.zone.offset, v42, v44, v46] 28 :: []) := hH444
      obtain ⟨A446, ht447, h448, hH449⟩ := Hp.freeze (Dw := False) (α := cal_Shift) (v := v38) (l := s30.2.1.week) hH (i := 1) rfl hA
      replace h443 := Sl.tr (Dw := False) h443 ht447
      replace h43 := Sl.tr (Dw := False) h43 ht447
      replace h45 := Sl.tr (Dw := False) h45 ht447
      replace h47 := Sl.tr (Dw := False) h47 ht447
      replace hK := Tr.trans (Dw := False) hK ht447
      replace hB := Nat.le_trans hB ht447.ex.size
      replace hA := ht447.new
      replace hH : Hp w.heap.size A446 w434 (obS (α := cal_Special) 53 v40 s30.2.1.specials :: obS (α := ByteArray) 9 v15 ([(⟨#[122, 111, 110, 101]⟩ : ByteArray), (⟨#[99, 104, 97, 110, 103, 101]⟩ : ByteArray), (⟨#[115, 104, 105, 102, 116]⟩ : ByteArray), (⟨#[100, 97, 121]⟩ : ByteArray)] : List ByteArray) :: obC b10 [.int .i64 s30.2.1.zone.offset, v36, v38, v40] 28 :: obC b1 [.int .i64 s30.2.2.zone.offset, v42, v44, v46] 28 :: []) := hH449
      obtain ⟨A451, ht452, h453, hH454⟩ := Hp.freeze (Dw := False) (α := cal_Special) (v := v40) (l := s30.2.1.specials) hH (i := 0) rfl hA
      replace h443 := Sl.tr (Dw := False) h443 ht452
      replace h448 := Sl.tr (Dw := False) h448 ht452
      replace h43 := Sl.tr (Dw := False) h43 ht452
      replace h45 := Sl.tr (Dw := False) h45 ht452
      replace h47 := Sl.tr (Dw := False) h47 ht452
      replace hK := Tr.trans (Dw := False) hK ht452
      replace hB := Nat.le_trans hB ht452.ex.size
      replace hA := ht452.new
      replace hH : Hp w.heap.size A451 w434 (obS (α := ByteArray) 9 v15 ([(⟨#[122, 111, 110, 101]⟩ : ByteArray), (⟨#[99, 104, 97, 110, 103, 101]⟩ : ByteArray), (⟨#[115, 104, 105, 102, 116]⟩ : ByteArray), (⟨#[100, 97, 121]⟩ : ByteArray)] : List ByteArray) :: obC b10 [.int .i64 s30.2.1.zone.offset, v36, v38, v40] 28 :: obC b1 [.int .i64 s30.2.2.zone.offset, v42, v44, v46] 28 :: []) := hH454
      have h461 : (v36).oneCell' = true := by obtain ⟨_, _, e, _⟩ := Sl.form h443; rw [e]; rfl
      have h464 : (v38).oneCell' = true := by obtain ⟨_, _, e, _⟩ := Sl.form h448; rw [e]; rfl
      have h467 : (v40).oneCell' = true := by obtain ⟨_, _, e, _⟩ := Sl.form h453; rw [e]; rfl
      refine V_storeC (Dw := False) (off := 0) (ds := [.int .i64 s30.2.1.zone.offset, v36, v38, v40]) hH (i := 2) rfl Tryz.sizeOf28 rfl (Nat.le_of_ble_eq_true rfl) (by exact (List.forall_mem_cons.2 ⟨rfl, (List.forall_mem_cons.2 ⟨h461, (List.forall_mem_cons.2 ⟨h464, (List.forall_mem_cons.2 ⟨h467, (fun _ h => nomatch h)⟩)⟩)⟩)⟩)) rfl hB hA rfl rfl ?_
      intro w456 hH457 ht458
      replace h443 := Sl.tr (Dw := False) h443 ht458
      replace h448 := Sl.tr (Dw := False) h448 ht458
      replace h453 := Sl.tr (Dw := False) h453 ht458
      replace h43 := Sl.tr (Dw := False) h43 ht458
      replace h45 := Sl.tr (Dw := False) h45 ht458
      replace h47 := Sl.tr (Dw := False) h47 ht458
      replace hK := Tr.trans (Dw := False) hK ht458
      replace hB := Nat.le_trans hB ht458.ex.size
      replace hA := ht458.new
      replace hH : Hp w.heap.size A451 w456 (obS (α := ByteArray) 9 v15 ([(⟨#[122, 111, 110, 101]⟩ : ByteArray), (⟨#[99, 104, 97, 110, 103, 101]⟩ : ByteArray), (⟨#[115, 104, 105, 102, 116]⟩ : ByteArray), (⟨#[100, 97, 121]⟩ : ByteArray)] : List ByteArray) :: obC b10 [.int .i64 s30.2.1.zone.offset, v36, v38, v40] 28 :: obC b1 [.int .i64 s30.2.1.zone.offset, v36, v38, v40] 28 :: []) := hH457
      refine V_y (Y_assign rfl) rfl rfl rfl ?_
      refine V_y (Y_assign rfl) rfl rfl rfl ?_
      refine V_to (fun _ _ => rfl) ?_
      obtain rfl := Option.some.inj hm
      refine C_ret ?_
      try simp only [↓inBlock_ret, ↓then_ret]
      exact retQ rfl (Res.l3 Tryz.results5 (RL.cell rfl (loadVar_agg (Hp.part (off := 0) (n := 4) (ds := [.int .i64 s30.2.1.zone.offset, v36, v38, v40]) hH (i := 2) rfl rfl) Tryz.isAgg28 Tryz.sizeOf28)) (RL.tmp rfl) (RL.tmp rfl)) ⟨v36, v38, v40, rfl, (Sl.out (Dw := False) h443 hA0 hK), (Sl.out (Dw := False) h448 hA0 hK), (Sl.out (Dw := False) h453 hA0 hK), hK.kp⟩

end Go.Proofs.YtebbjefkndfkpaaGreatDoor.W
