/-
  Written by program (gen.py) from the IR of the dump: each function computes its model.
-/
import Derived.Test.YtcebkcahemiaoaaCalSetsW0
namespace Go.Proofs.Ytcebkcahemiaoaa.W
open Go Go.RowKit Go.Pu Go.Gw Go.Proofs Go.Proofs.Ytcebkcahemiaoaa.M
set_option linter.unusedVariables false
set_option linter.unusedSimpArgs false
variable {Dw : Prop}

set_option maxRecDepth 4000 in
set_option maxHeartbeats 4000000 in
theorem portref2_merged_c (w : World) {A : Nat → Prop} {B : Nat} (hB : B ≤ w.heap.size) (hA : ∀ b, w.heap.size ≤ b → A b) (holds : Int → Option Bool) (holds_Y : Ob) (holds_v : Value) (holds_one : holds_v.cells.toList = [holds_v]) (holds_spec : ∀ (w2 : World) (A2 : Nat → Prop) (L2 : List Ob) (x : Int) (b : Bool), B ≤ w2.heap.size → (∀ b, w2.heap.size ≤ b → A2 b) → Tr Dw B A w A2 w2 → Hp B A2 w2 (holds_Y :: L2) → holds x = some b → CallV Try.prog holds_v [.int .i64 x] w2 fun v w3 => v = .bool b ∧ ∃ A3, Tr Dw B A2 w2 A3 w3 ∧ Hp B A3 w3 (holds_Y :: L2)) (lists : (List (List cal_Span))) (v_lists : Value) (h_lists : Sl A w v_lists lists) {L : List Ob} (hH : Hp B A w (holds_Y :: L)) {r : (List cal_Span)} (hm : portref2_merged holds lists = some r) : Ret Try.prog 14 #[holds_v, v_lists] w fun v w' => ∃ s0, ∃ A1 : Nat → Prop, v = s0 ∧ Hp B A1 w' (obS (α := cal_Span) 30 s0 r :: holds_Y :: L) ∧ Tr Dw B A w A1 w' := by
  unfold portref2_merged at hm
  refine enter Try.func14 rfl Try.ntmps14 rfl ?_
  have hK : Tr Dw B A w A w := Tr.refl (Dw := Dw) hA
  refine C_seq ?_
  refine C_region ?_
  refine V_y (Y_assign rfl) rfl rfl rfl ?_
  refine V_to (fun _ _ => rfl) ?_
  refine C_seq ?_
  refine C_region ?_
  refine V_y (Y_assign rfl) rfl rfl rfl ?_
  refine V_to (fun _ _ => rfl) ?_
  refine C_seq ?_
  refine C_seq ?_
  refine C_region ?_
  refine V_y (Y_move rfl) rfl rfl rfl ?_
  refine V_y (Y_lenSl h_lists rfl Try.underlying34 rfl) rfl rfl rfl ?_
  refine V_y (Y_move rfl) rfl rfl rfl ?_
  refine V_to (fun _ _ => rfl) ?_
  replace hH : Hp B A w (obS (α := Int) 3 (.slice none 0 0) ([] : (List Int)) :: holds_Y :: L) := Hp.addNil (α := Int) (e := 3) hH
  have hn27 := Sl.le h_lists
  obtain ⟨o3, ho3, hm⟩ := Option.bind_eq_some_iff.1 hm
  refine C_cutG (ι := ((List Int) × Value × (Nat → Prop))) (fun ⟨s4, v10, A12⟩ => [(0, holds_v), (5, v10)]) (fun ⟨s4, v10, A12⟩ => fun w' => o3 = .fin s4 ∧ Hp B A12 w' (obS (α := Int) 3 v10 s4 :: holds_Y :: L) ∧ Tr Dw B A w A12 w') ?_ ?_
  · refine C_block ?_
    refine C_range ho3 (fun k6 s14 a w' => ∃ i : (Value × (Nat → Prop)), Has ⟨93, [], none⟩ a ([(0, holds_v), (5, i.1), (13, v_lists), (14, .int .i64 (lists.length : Int)), (15, .int .i64 (k6 : Int))]) ∧ Hp B i.2 w' (obS (α := Int) 3 i.1 s14 :: holds_Y :: L) ∧ Tr Dw B A w i.2 w') (fun a ha => ⟨(.slice none 0 0, A), ha.sub ⟨rfl, rfl, rfl, rfl, rfl, trivial⟩, ⟨hH, Tr.refl (Dw := Dw) hA⟩⟩) ?_
    rintro K k6 s14 a w15 ⟨⟨v16, A18⟩, ha104, hH19, hr5⟩ hle23 K26 h25
    refine C_of ?_ ha104
    replace h_lists := Sl.tr (Dw := Dw) h_lists hr5
    replace hK := Tr.trans (Dw := Dw) hK hr5
    replace hB := Nat.le_trans hB hr5.ex.size
    replace hA := hr5.new
    replace hH : Hp B A18 w15 (obS (α := Int) 3 v16 s14 :: holds_Y :: L) := hH19
    refine C_seq (C_region (V_y (Y_lss rfl rfl) rfl rfl rfl (V_to (fun _ _ => rfl) ?_)))
    refine C_seq ?_
    refine C_cond rfl (fun hc28 => ?_) (fun hc28 => ?_)
    · have hlt24 := lt_of_dec hc28
      obtain ⟨x20, h21, h22⟩ := K26 hlt24
      refine C_skip_to (fun _ _ => rfl) ?_
      refine C_seq ?_
      obtain ⟨s30, ho29, h21⟩ := Option.bind_eq_some_iff.1 h21
      refine C_cutG (ι := (Value × (Nat → Prop))) (fun ⟨v32, A37⟩ => [(0, holds_v), (5, v32), (13, v_lists), (14, .int .i64 (lists.length : Int)), (15, .int .i64 (k6 : Int))]) (fun ⟨v32, A37⟩ => fun w' => Hp B A37 w' (obS (α := Int) 3 v32 s30 :: holds_Y :: L) ∧ Tr Dw B A18 w15 A37 w') ?_ ?_
      · have hr31 : Tr Dw B A18 w15 A18 w15 := Tr.refl (Dw := Dw) hA
        refine C_block ?_
        refine C_seq ?_
        refine C_region ?_
        obtain ⟨x39, hx39, ho29⟩ := Option.bind_eq_some_iff.1 ho29
        refine V_indexAddr h_lists hx39 Try.underlying34 Try.sizeOf22 rfl rfl rfl ?_
        intro b40 o41 h42
        obtain ⟨v43, h44, h45⟩ := El.list h42
        refine V_y (Y_load h44 Try.isAgg22 rfl) rfl rfl rfl ?_
        refine V_y (Y_assign rfl) rfl rfl rfl ?_
        refine V_to (fun _ _ => rfl) ?_
        refine C_seq ?_
        refine C_region ?_
        refine V_y (Y_move rfl) rfl rfl rfl ?_
        refine V_y (Y_lenSl h45 rfl Try.underlying22 rfl) rfl rfl rfl ?_
        refine V_y (Y_move rfl) rfl rfl rfl ?_
        refine V_to (fun _ _ => rfl) ?_
        have hn70 := Sl.le h45
        obtain ⟨o46, ho46, ho29⟩ := Option.bind_eq_some_iff.1 ho29
        refine C_cutG (ι := ((List Int) × Value × (Nat → Prop))) (fun ⟨s47, v53, A55⟩ => [(0, holds_v), (5, v53), (13, v_lists), (14, .int .i64 (lists.length : Int)), (15, .int .i64 (k6 : Int))]) (fun ⟨s47, v53, A55⟩ => fun w' => o46 = .fin s47 ∧ Hp B A55 w' (obS (α := Int) 3 v53 s47 :: holds_Y :: L) ∧ Tr Dw B A18 w15 A55 w') ?_ ?_
        · refine C_block ?_
          refine C_range ho46 (fun k49 s57 a w' => ∃ i : (Value × (Nat → Prop)), Has ⟨93, [], none⟩ a ([(0, holds_v), (5, i.1), (13, v_lists), (14, .int .i64 (lists.length : Int)), (15, .int .i64 (k6 : Int)), (19, v43), (20, .int .i64 (x39.length : Int)), (21, .int .i64 (k49 : Int))]) ∧ Hp B i.2 w' (obS (α := Int) 3 i.1 s57 :: holds_Y :: L) ∧ Tr Dw B A18 w15 i.2 w') (fun a ha => ⟨(v16, A18), ha.sub ⟨rfl, rfl, rfl, rfl, rfl, rfl, rfl, rfl, trivial⟩, ⟨hH, Tr.refl (Dw := Dw) hA⟩⟩) ?_
          rintro K k49 s57 a w58 ⟨⟨v59, A61⟩, ha100, hH62, hr48⟩ hle66 K69 h68
          refine C_of ?_ ha100
          replace h_lists := Sl.tr (Dw := Dw) h_lists hr48
          replace h45 := Sl.tr (Dw := Dw) h45 hr48
          replace hK := Tr.trans (Dw := Dw) hK hr48
          replace hr5 := Tr.trans (Dw := Dw) hr5 hr48
          replace hr31 := Tr.trans (Dw := Dw) hr31 hr48
          replace hB := Nat.le_trans hB hr48.ex.size
          replace hA := hr48.new
          replace hH : Hp B A61 w58 (obS (α := Int) 3 v59 s57 :: holds_Y :: L) := hH62
          refine C_seq (C_region (V_y (Y_lss rfl rfl) rfl rfl rfl (V_to (fun _ _ => rfl) ?_)))
          refine C_seq ?_
          refine C_cond rfl (fun hc71 => ?_) (fun hc71 => ?_)
          · have hlt67 := lt_of_dec hc71
            obtain ⟨x63, h64, h65⟩ := K69 hlt67
            refine C_skip_to (fun _ _ => rfl) ?_
            refine C_seq ?_
            refine C_block ?_
            refine C_seq ?_
            refine C_region ?_
            obtain ⟨x72, hx72, h64⟩ := Option.bind_eq_some_iff.1 h64
            refine V_indexAddr h45 hx72 Try.underlying22 Try.sizeOf30 rfl rfl rfl ?_
            intro b73 o74 h75
            obtain ⟨h76, _⟩ := El_cal_Span h75
            refine V_y (Y_loadA h76 Try.isAgg30 Try.sizeOf30 rfl) rfl rfl rfl ?_
            refine V_alloc Try.zeroValue30 rfl ?_
            intro b77 w78 h79
            refine V_storeNew h79 Try.sizeOf30 rfl rfl rfl rfl (by exact (List.forall_mem_cons.2 ⟨rfl, (List.forall_mem_cons.2 ⟨rfl, (fun _ h => nomatch h)⟩)⟩)) ?_
            intro w80 h81
            have hk83 := h81.kp (Dw := Dw)
            have h82 : El (α := cal_Span) A61 w80 b77 0 x72 := h81.el hA ⟨[.int .i64 x72.from_], _, rfl, rfl, rfl⟩
            have ht84 := Kp.tr (Dw := Dw) hk83 hA hB
            replace hH := Hp.kp (Dw := Dw) hH hk83
            replace h_lists := Sl.tr (Dw := Dw) h_lists ht84
            replace h45 := Sl.tr (Dw := Dw) h45 ht84
            replace h75 := El.tr (Dw := Dw) h75 ht84
            replace hK := Tr.trans (Dw := Dw) hK ht84
            replace hr5 := Tr.trans (Dw := Dw) hr5 ht84
            replace hr31 := Tr.trans (Dw := Dw) hr31 ht84
            replace hr48 := Tr.trans (Dw := Dw) hr48 ht84
            replace hB := Nat.le_trans hB ht84.ex.size
            replace hA := ht84.new
            refine V_to (fun _ _ => rfl) ?_
            refine C_region ?_
            refine V_y (Y_move rfl) rfl rfl rfl ?_
            have h85 := El_cal_Span_0 h82
            refine V_y (Y_fieldAddr Try.underlying30 rfl Try.sizeOf3 (by decide) rfl) rfl rfl rfl ?_
            refine V_y (Y_load (El.int h85) Try.isAgg3 rfl) rfl rfl rfl ?_
            have h86 := El_cal_Span_1 h82
            refine V_y (Y_fieldAddr Try.underlying30 rfl Try.sizeOf3 (by decide) rfl) rfl rfl rfl ?_
            refine V_y (Y_load (El.int h86) Try.isAgg3 rfl) rfl rfl rfl ?_
            refine V_buildSlice (Dw := Dw) (l := ([x72.from_, x72.to_] : List Int)) (len := 2) Try.underlying32 Try.sizeOf3 Try.zeroValue3 rfl (by with_unfolding_all rfl) (show (2 * 1 : Nat) ≠ 0 by decide) (show (2 * 1 : Nat) ≤ 2 ^ 24 by decide) hA ⟨[.int .i64 x72.from_], _, rfl, rfl, ⟨[.int .i64 x72.to_], _, rfl, rfl, rfl⟩⟩ rfl rfl ?_
            intro v87 w88 hk90 h89
            have ht91 := Kp.tr (Dw := Dw) hk90 hA hB
            replace hH := Hp.kp (Dw := Dw) hH hk90
            replace h_lists := Sl.tr (Dw := Dw) h_lists ht91
            replace h45 := Sl.tr (Dw := Dw) h45 ht91
            replace h82 := El.tr (Dw := Dw) h82 ht91
            replace h85 := El.tr (Dw := Dw) h85 ht91
            replace h86 := El.tr (Dw := Dw) h86 ht91
            replace hK := Tr.trans (Dw := Dw) hK ht91
            replace hr5 := Tr.trans (Dw := Dw) hr5 ht91
            replace hr31 := Tr.trans (Dw := Dw) hr31 ht91
            replace hr48 := Tr.trans (Dw := Dw) hr48 ht91
            replace hB := Nat.le_trans hB ht91.ex.size
            replace hA := ht91.new
            obtain ⟨x92, hx92, h64⟩ := Option.bind_eq_some_iff.1 h64
            refine V_appendH (Dw := Dw) (e := 3) (v := v59) (l := s57) (ti := Try.t3) (bytes := 8) (lim := 17592186044416) hH (i := 0) rfl h89 hx92 Try.underlying32 Try_info3 rfl rfl rfl rfl (by decide) (by decide) (by decide) hB hA rfl rfl rfl ?_
            intro v93 w94 A95 hH96 ht97
            replace h_lists := Sl.tr (Dw := Dw) h_lists ht97
            replace h45 := Sl.tr (Dw := Dw) h45 ht97
            replace h82 := El.tr (Dw := Dw) h82 ht97
            replace h85 := El.tr (Dw := Dw) h85 ht97
            replace h86 := El.tr (Dw := Dw) h86 ht97
            replace h89 := Sl.tr (Dw := Dw) h89 ht97
            replace hK := Tr.trans (Dw := Dw) hK ht97
            replace hr5 := Tr.trans (Dw := Dw) hr5 ht97
            replace hr31 := Tr.trans (Dw := Dw) hr31 ht97
            replace hr48 := Tr.trans (Dw := Dw) hr48 ht97
            replace hB := Nat.le_trans hB ht97.ex.size
            replace hA := ht97.new
            replace hH : Hp B A95 w94 (obS (α := Int) 3 v93 x92 :: holds_Y :: L) := hH96
            refine V_y (Y_assign rfl) rfl rfl rfl ?_
            refine V_to (fun _ _ => rfl) ?_
            refine C_region ?_
            refine V_y (Y_addI rfl rfl) rfl rfl rfl ?_
            refine V_y (Y_move rfl) rfl rfl rfl ?_
            obtain rfl := Option.some.inj h64
            refine V_end (fun a ha98 => ?_)
            exact ⟨x92, hlt67, h65, ⟨(v93, A95), ha98.sub ⟨rfl, rfl, rfl, rfl, rfl, rfl, rfl, (congrArg (fun z => some (Value.int .i64 z)) (w64_succ hlt67 hn70)), trivial⟩, ⟨hH, hr48⟩⟩⟩
          · refine C_exit (fun a ha99 => ?_)
            exact ⟨(s57, v59, A61), ha99.sub ⟨rfl, rfl, rfl, rfl, rfl, trivial⟩, ⟨(h68 (eq_of_dec hle66 hc71)).symm, hH, hr48⟩⟩
        rintro ⟨s47, v53, A55⟩ w50 ⟨rfl, hH56, hk51⟩ a ha52
        rw [Lp.andThen_fin] at ho29
        replace h_lists := Sl.tr (Dw := Dw) h_lists hk51
        replace hK := Tr.trans (Dw := Dw) hK hk51
        replace hr5 := Tr.trans (Dw := Dw) hr5 hk51
        replace hr31 := Tr.trans (Dw := Dw) hr31 hk51
        replace hB := Nat.le_trans hB hk51.ex.size
        replace hA := hk51.new
        replace hH : Hp B A55 w50 (obS (α := Int) 3 v53 s47 :: holds_Y :: L) := hH56
        obtain rfl := Option.some.inj ho29
        exact ⟨(v53, A55), ha52.sub ⟨rfl, rfl, rfl, rfl, rfl, trivial⟩, ⟨hH, hr31⟩⟩
      rintro ⟨v32, A37⟩ w34 ⟨hH38, hk35⟩ a ha36
      replace h_lists := Sl.tr (Dw := Dw) h_lists hk35
      replace hK := Tr.trans (Dw := Dw) hK hk35
      replace hr5 := Tr.trans (Dw := Dw) hr5 hk35
      replace hB := Nat.le_trans hB hk35.ex.size
      replace hA := hk35.new
      replace hH : Hp B A37 w34 (obS (α := Int) 3 v32 s30 :: holds_Y :: L) := hH38
      refine C_at (n := ⟨93, [], none⟩) (fun _ _ => rfl) ?_ ha36
      refine C_region ?_
      refine V_y (Y_addI rfl rfl) rfl rfl rfl ?_
      refine V_y (Y_move rfl) rfl rfl rfl ?_
      obtain rfl := Option.some.inj h21
      refine V_end (fun a ha102 => ?_)
      exact ⟨s30, hlt24, h22, ⟨(v32, A37), ha102.sub ⟨rfl, rfl, rfl, rfl, (congrArg (fun z => some (Value.int .i64 z)) (w64_succ hlt24 hn27)), trivial⟩, ⟨hH, hr5⟩⟩⟩
    · refine C_exit (fun a ha103 => ?_)
      exact ⟨(s14, v16, A18), ha103.sub ⟨rfl, rfl, trivial⟩, ⟨(h25 (eq_of_dec hle23 hc28)).symm, hH, hr5⟩⟩
  rintro ⟨s4, v10, A12⟩ w7 ⟨rfl, hH13, hk8⟩ a ha9
  rw [Lp.andThen_fin] at hm
  replace hK := Tr.trans (Dw := Dw) hK hk8
  replace hB := Nat.le_trans hB hk8.ex.size
  replace hA := hk8.new
  replace hH : Hp B A12 w7 (obS (α := Int) 3 v10 s4 :: holds_Y :: L) := hH13
  refine C_at (n := ⟨93, [], none⟩) (fun _ _ => rfl) ?_ ha9
  refine C_seq ?_
  refine C_region ?_
  refine V_y (Y_move rfl) rfl rfl rfl ?_
  obtain ⟨x105, hx105, hm⟩ := Option.bind_eq_some_iff.1 hm
  refine V_call Try.call22 rfl rfl rfl rfl (Try_sortInts (Dw := Dw) hH (i := 0) rfl hB hA hx105) ?_
  rintro _ w106 ⟨rfl, hH107, ht108⟩
  replace hK := Tr.trans (Dw := Dw) hK ht108
  replace hB := Nat.le_trans hB ht108.ex.size
  replace hA := ht108.new
  replace hH : Hp B A12 w106 (obS (α := Int) 3 v10 x105 :: holds_Y :: L) := hH107
  refine V_to (fun _ _ => rfl) ?_
  refine C_seq ?_
  refine C_region ?_
  refine V_y (Y_move rfl) rfl rfl rfl ?_
  obtain ⟨x109, hx109, hm⟩ := Option.bind_eq_some_iff.1 hm
  refine V_call Try.call23 rfl rfl rfl rfl (Try_cp23 (Dw := Dw) hH (i := 0) rfl hB hA hx109) ?_
  rintro v113 w110 ⟨_, rfl, hH111, ht112⟩
  replace hK := Tr.trans (Dw := Dw) hK ht112
  replace hB := Nat.le_trans hB ht112.ex.size
  replace hA := ht112.new
  replace hH : Hp B A12 w110 (obS (α := Int) 3 v113 x109 :: holds_Y :: L) := hH111
  refine V_y (Y_assign rfl) rfl rfl rfl ?_
  refine V_to (fun _ _ => rfl) ?_
  refine C_seq ?_
  refine C_region ?_
  refine V_y (Y_assign rfl) rfl rfl rfl ?_
  refine V_to (fun _ _ => rfl) ?_
  refine C_seq ?_
  refine C_seq ?_
  refine C_region ?_
  refine V_y (Y_assign rfl) rfl rfl rfl ?_
  refine V_to (fun _ _ => rfl) ?_
  replace hH : Hp B A12 w110 (obS (α := cal_Span) 30 (.slice none 0 0) ([] : (List cal_Span)) :: obS (α := Int) 3 v113 x109 :: holds_Y :: L) := Hp.addNil (α := cal_Span) (e := 30) hH
  obtain ⟨o114, ho114, hm⟩ := Option.bind_eq_some_iff.1 hm
  refine C_cutG (ι := (((List cal_Span) × Int) × Value × (Nat → Prop))) (fun ⟨s115, v121, A123⟩ => [(10, v121)]) (fun ⟨s115, v121, A123⟩ => fun w' => o114 = .fin s115 ∧ Hp B A123 w' (obS (α := cal_Span) 30 v121 s115.1 :: obS (α := Int) 3 v113 x109 :: holds_Y :: L) ∧ Tr Dw B A12 w110 A123 w') ?_ ?_
  · refine C_block ?_
    refine C_while ho114 (fun s125 a w' => ∃ i : (Value × (Nat → Prop)), Has ⟨93, [], none⟩ a ([(0, holds_v), (5, v113), (10, i.1), (11, .int .i64 s125.2)]) ∧ Hp B i.2 w' (obS (α := cal_Span) 30 i.1 s125.1 :: obS (α := Int) 3 v113 x109 :: holds_Y :: L) ∧ Tr Dw B A12 w110 i.2 w') (fun a ha => ⟨(.slice none 0 0, A12), ha.sub ⟨rfl, rfl, rfl, rfl, trivial⟩, ⟨hH, Tr.refl (Dw := Dw) hA⟩⟩) ?_
    rintro K s125 a w126 ⟨⟨v127, A129⟩, ha230, hH130, hr116⟩ K137
    refine C_of ?_ ha230
    replace hK := Tr.trans (Dw := Dw) hK hr116
    replace hB := Nat.le_trans hB hr116.ex.size
    replace hA := hr116.new
    replace hH : Hp B A129 w126 (obS (α := cal_Span) 30 v127 s125.1 :: obS (α := Int) 3 v113 x109 :: holds_Y :: L) := hH130
    obtain ⟨x131, h132, h133⟩ := K137
    refine C_seq ?_
    refine C_seq ?_
    refine C_region ?_
    refine V_y (Y_move rfl) rfl rfl rfl ?_
    refine V_y (Y_addI rfl rfl) rfl rfl rfl ?_
    refine V_y (Y_move rfl) rfl rfl rfl ?_
    refine V_y (Y_lenSl (Hp.any (α := Int) (e := 3) (v := v113) (l := x109) hH (i := 1) rfl) rfl Try.underlying32 rfl) rfl rfl rfl ?_
    refine V_y (Y_lss rfl rfl) rfl rfl rfl ?_
    refine V_to (fun _ _ => rfl) ?_
    refine C_cond rfl (fun hc138 => ?_) (fun hc138 => ?_)
    · rw [if_pos hc138] at h132
      refine C_skip_to (fun _ _ => rfl) ?_
      refine C_seq ?_
      obtain ⟨s140, ho139, h132⟩ := Option.bind_eq_some_iff.1 h132
      refine C_cutG (ι := (Value × (Nat → Prop))) (fun ⟨v142, A147⟩ => [(0, holds_v), (5, v113), (10, v142), (11, .int .i64 s125.2)]) (fun ⟨v142, A147⟩ => fun w' => Hp B A147 w' (obS (α := cal_Span) 30 v142 s140 :: obS (α := Int) 3 v113 x109 :: holds_Y :: L) ∧ Tr Dw B A129 w126 A147 w') ?_ ?_
      · have hr141 : Tr Dw B A129 w126 A129 w126 := Tr.refl (Dw := Dw) hA
        refine C_block ?_
        refine C_seq ?_
        refine C_seq ?_
        refine C_region ?_
        refine V_y (Y_move rfl) rfl rfl rfl ?_
        refine V_y (Y_move rfl) rfl rfl rfl ?_
        refine V_y (Y_move rfl) rfl rfl rfl ?_
        obtain ⟨x149, hx149, ho139⟩ := Option.bind_eq_some_iff.1 ho139
        refine V_indexAddrH (α := Int) (e := 3) (v := v113) (l := x109) hH (i := 1) rfl hx149 Try.underlying32 Try.sizeOf3 rfl rfl rfl ?_
        intro b150 o151 h152 hl153
        refine V_y (Y_load (El.int h152) Try.isAgg3 rfl) rfl rfl rfl ?_
        obtain ⟨x154, hx154, ho139⟩ := Option.bind_eq_some_iff.1 ho139
        replace hH : Hp B A129 w126 (holds_Y :: obS (α := cal_Span) 30 v127 s125.1 :: obS (α := Int) 3 v113 x109 :: L) := Hp.front hH (i := 2) rfl
        refine V_callV rfl rfl rfl (holds_spec w126 _ _ x149 x154 hB hA hK hH hx154) ?_
        rintro _ w155 ⟨rfl, A156, ht158, hH157⟩
        replace hK := Tr.trans (Dw := Dw) hK ht158
        replace hr116 := Tr.trans (Dw := Dw) hr116 ht158
        replace hr141 := Tr.trans (Dw := Dw) hr141 ht158
        replace hB := Nat.le_trans hB ht158.ex.size
        replace hA := ht158.new
        replace hH : Hp B A156 w155 (holds_Y :: obS (α := cal_Span) 30 v127 s125.1 :: obS (α := Int) 3 v113 x109 :: L) := hH157
        refine V_y (Y_not rfl) rfl rfl rfl ?_
        refine V_to (fun _ _ => rfl) ?_
        refine C_cond rfl (fun hc159 => ?_) (fun hc159 => ?_)
        · rw [if_pos hc159] at ho139
          obtain rfl := Option.some.inj ho139
          refine C_exit (fun a ha160 => ?_)
          replace hH : Hp B A156 w155 (obS (α := Int) 3 v113 x109 :: holds_Y :: obS (α := cal_Span) 30 v127 s125.1 :: L) := Hp.front hH (i := 2) rfl
          replace hH : Hp B A156 w155 (obS (α := cal_Span) 30 v127 s125.1 :: obS (α := Int) 3 v113 x109 :: holds_Y :: L) := Hp.front hH (i := 2) rfl
          exact ⟨(v127, A156), ha160.sub ⟨rfl, rfl, rfl, rfl, trivial⟩, ⟨hH, hr141⟩⟩
        · rw [if_neg (nt hc159)] at ho139
          refine C_skip_to (fun _ _ => rfl) ?_
          refine C_seq ?_
          refine C_region ?_
          refine V_y (Y_move rfl) rfl rfl rfl ?_
          refine V_y (Y_lenSl (Hp.any (α := cal_Span) (e := 30) (v := v127) (l := s125.1) hH (i := 1) rfl) rfl Try.underlying22 rfl) rfl rfl rfl ?_
          refine V_y (Y_assign rfl) rfl rfl rfl ?_
          refine V_to (fun _ _ => rfl) ?_
          refine C_seq ?_
          refine C_region_q (Dw := Dw) Try_mixed (by kernel_rfl) ?_
          refine VQ_y (fun w' hw' => Y_move rfl) rfl rfl rfl ?_
          refine VQ_y (fun w' hw' => Y_gtr rfl rfl) rfl rfl rfl ?_
          refine VQ_y (fun w' hw' => Y_move rfl) rfl rfl rfl ?_
          obtain ⟨s162, hs162, ho139⟩ := Option.bind_eq_some_iff.1 ho139
          refine VQ_cut 12 (fun _ : Unit => [(0, holds_v), (5, v113), (10, v127), (11, .int .i64 s125.2), (12, .int .i64 (s125.1.length : Int)), (68, .bool s162)]) (fun _ => True) ?_ ?_
          · simp only [List.take, List.drop]
            rcases Bool.eq_false_or_eq_true (decide ((0 : Int) < (s125.1.length : Int))) with hc161 | hc161
            · rw [if_pos hc161] at hs162
              refine VQ_ge rfl rfl rfl hc161 ?_
              refine VQ_y (fun w' hw' => Y_move rfl) rfl rfl rfl ?_
              refine VQ_ge rfl rfl rfl hc161 ?_
              refine VQ_y (fun w' hw' => Y_move rfl) rfl rfl rfl ?_
              refine VQ_ge rfl rfl rfl hc161 ?_
              refine VQ_y (fun w' hw' => Y_subI rfl rfl) rfl rfl rfl ?_
              refine VQ_ge rfl rfl rfl hc161 ?_
              obtain ⟨x163, hx163, hs162⟩ := Option.bind_eq_some_iff.1 hs162
              refine VQ_indexAddrH (α := cal_Span) (e := 30) (v := v127) (l := s125.1) hH (i := 1) rfl hx163 Try.underlying22 Try.sizeOf30 rfl rfl rfl ?_
              intro b164 o165 h166 hl167
              refine VQ_ge rfl rfl rfl hc161 ?_
              have h168 := El_cal_Span_1 h166
              refine VQ_y (fun w' hw' => Y_fieldAddr Try.underlying30 rfl Try.sizeOf3 (by decide) rfl) rfl rfl rfl ?_
              refine VQ_ge rfl rfl rfl hc161 ?_
              refine VQ_y (fun w' hw' => Y_load (El.int (El.kp (Dw := Dw) h168 hw')) Try.isAgg3 rfl) rfl rfl rfl ?_
              refine VQ_ge rfl rfl rfl hc161 ?_
              refine VQ_y (fun w' hw' => Y_move rfl) rfl rfl rfl ?_
              refine VQ_ge rfl rfl rfl hc161 ?_
              refine VQ_y (fun w' hw' => Y_move rfl) rfl rfl rfl ?_
              refine VQ_ge rfl rfl rfl hc161 ?_
              refine VQ_indexAddrH (α := Int) (e := 3) (v := v113) (l := x109) hH (i := 2) rfl hx149 Try.underlying32 Try.sizeOf3 rfl rfl rfl ?_
              intro b169 o170 h171 hl172
              refine VQ_ge rfl rfl rfl hc161 ?_
              refine VQ_y (fun w' hw' => Y_load (El.int (El.kp (Dw := Dw) h171 hw')) Try.isAgg3 rfl) rfl rfl rfl ?_
              refine VQ_ge rfl rfl rfl hc161 ?_
              refine VQ_y (fun w' hw' => Y_eql rfl rfl) rfl rfl rfl ?_
              refine VQ_y (fun _ _ => Y_pick_te rfl hc161 rfl) rfl rfl rfl ?_
              obtain rfl := Option.some.inj hs162
              exact VQ_end fun a ha => ⟨(), ha.sub ⟨rfl, rfl, rfl, rfl, rfl, rfl, trivial⟩, trivial⟩
            · rw [if_neg (nt hc161)] at hs162
              refine VQ_gn rfl rfl rfl hc161 rfl rfl rfl ?_
              refine VQ_gn rfl rfl rfl hc161 rfl rfl rfl ?_
              refine VQ_gn rfl rfl rfl hc161 rfl rfl rfl ?_
              refine VQ_gn rfl rfl rfl hc161 rfl rfl rfl ?_
              refine VQ_gn rfl rfl rfl hc161 rfl rfl rfl ?_
              refine VQ_gn rfl rfl rfl hc161 rfl rfl rfl ?_
              refine VQ_gn rfl rfl rfl hc161 rfl rfl rfl ?_
              refine VQ_gn rfl rfl rfl hc161 rfl rfl rfl ?_
              refine VQ_gn rfl rfl rfl hc161 rfl rfl rfl ?_
              refine VQ_gn rfl rfl rfl hc161 rfl rfl rfl ?_
              refine VQ_gn rfl rfl rfl hc161 rfl rfl rfl ?_
              refine VQ_y (fun _ _ => Y_pick_fe rfl hc161 rfl) rfl rfl rfl ?_
              obtain rfl := Option.some.inj hs162
              exact VQ_end fun a ha => ⟨(), ha.sub ⟨rfl, rfl, rfl, rfl, rfl, rfl, trivial⟩, trivial⟩
          simp only [List.take, List.drop]
          rintro _ _
          refine VQ_to (fun _ _ => rfl) (fun w173 hk174 => ?_)
          have ht175 := Kp.tr (Dw := Dw) hk174 hA hB
          replace hH := Hp.kp (Dw := Dw) hH hk174
          replace hK := Tr.trans (Dw := Dw) hK ht175
          replace hr116 := Tr.trans (Dw := Dw) hr116 ht175
          replace hr141 := Tr.trans (Dw := Dw) hr141 ht175
          replace hB := Nat.le_trans hB ht175.ex.size
          replace hA := ht175.new
          obtain ⟨s177, ho176, ho139⟩ := Option.bind_eq_some_iff.1 ho139
          refine C_cutG (ι := (Value × (Nat → Prop))) (fun ⟨v179, A184⟩ => [(0, holds_v), (5, v113), (10, v179), (11, .int .i64 s125.2)]) (fun ⟨v179, A184⟩ => fun w' => Hp B A184 w' (holds_Y :: obS (α := cal_Span) 30 v179 s177 :: obS (α := Int) 3 v113 x109 :: L) ∧ Tr Dw B A156 w173 A184 w') ?_ ?_
          · have hr178 : Tr Dw B A156 w173 A156 w173 := Tr.refl (Dw := Dw) hA
            refine C_cond rfl (fun hc186 => ?_) (fun hc186 => ?_)
            · rw [if_pos hc186] at ho176
              refine C_region ?_
              refine V_y (Y_move rfl) rfl rfl rfl ?_
              refine V_y (Y_move rfl) rfl rfl rfl ?_
              refine V_y (Y_subI rfl rfl) rfl rfl rfl ?_
              refine V_y (Y_move rfl) rfl rfl rfl ?_
              refine V_y (Y_move rfl) rfl rfl rfl ?_
              refine V_y (Y_addI rfl rfl) rfl rfl rfl ?_
              obtain ⟨x187, hx187, ho176⟩ := Option.bind_eq_some_iff.1 ho176
              refine V_indexAddrH (α := Int) (e := 3) (v := v113) (l := x109) hH (i := 2) rfl hx187 Try.underlying32 Try.sizeOf3 rfl rfl rfl ?_
              intro b188 o189 h190 hl191
              refine V_y (Y_load (El.int h190) Try.isAgg3 rfl) rfl rfl rfl ?_
              obtain ⟨x192, hx192, ho176⟩ := Option.bind_eq_some_iff.1 ho176
              refine V_indexAddrH (α := cal_Span) (e := 30) (v := v127) (l := s125.1) hH (i := 1) rfl hx192 Try.underlying22 Try.sizeOf30 rfl rfl rfl ?_
              intro b193 o194 h195 hl196
              have h197 := El_cal_Span_1 h195
              refine V_y (Y_fieldAddr Try.underlying30 rfl Try.sizeOf3 (by decide) rfl) rfl rfl rfl ?_
              obtain ⟨x198, hx198, ho176⟩ := Option.bind_eq_some_iff.1 ho176
              refine V_storeFH (Dw := Dw) (α := cal_Span) (e := 30) (v := v127) (l := s125.1) (foff := 1) hH (i := 1) rfl hl196 hx192 hx198 (fun _ h => by obtain ⟨_, _, rfl, rfl, rfl⟩ := h; exact ⟨[_], _, rfl, rfl, rfl⟩) Try.sizeOf3 rfl (by simp [Value.cells, Value.oneCell']) (by decide) hB hA (congrArg (fun z => some (Value.pointer (some ⟨_, z, none⟩))) (by simp [Nat.add_assoc])) rfl ?_
              intro w199 hH200 ht201
              replace hK := Tr.trans (Dw := Dw) hK ht201
              replace hr116 := Tr.trans (Dw := Dw) hr116 ht201
              replace hr141 := Tr.trans (Dw := Dw) hr141 ht201
              replace hr178 := Tr.trans (Dw := Dw) hr178 ht201
              replace hB := Nat.le_trans hB ht201.ex.size
              replace hA := ht201.new
              replace hH : Hp B A156 w199 (holds_Y :: obS (α := cal_Span) 30 v127 x198 :: obS (α := Int) 3 v113 x109 :: L) := hH200
              obtain rfl := Option.some.inj ho176
              refine V_end (fun a ha202 => ?_)
              exact ⟨(v127, A156), ha202.sub ⟨rfl, rfl, rfl, rfl, trivial⟩, ⟨hH, hr178⟩⟩
            · rw [if_neg (nt hc186)] at ho176
              refine C_region_ch (Dw := Dw) A156 14 [(1, 0), (1, 1), (1, 2), (0, 3), (0, 4), (1, 5), (1, 6), (1, 7), (0, 8), (0, 9), (1, 10), (2, 11), (4, 12), (1, 13)] Try_mixed (by kernel_rfl) (fun w203 hk204 => ?_)
              have ht205 := Kp.tr (Dw := Dw) hk204 hA hB
              replace hH := Hp.kp (Dw := Dw) hH hk204
              replace hK := Tr.trans (Dw := Dw) hK ht205
              replace hr116 := Tr.trans (Dw := Dw) hr116 ht205
              replace hr141 := Tr.trans (Dw := Dw) hr141 ht205
              replace hr178 := Tr.trans (Dw := Dw) hr178 ht205
              replace hB := Nat.le_trans hB ht205.ex.size
              replace hA := ht205.new
              refine CH_q2 (Dw := Dw) rfl ?_
              refine VQ_y (fun w' hw' => Y_move rfl) rfl rfl rfl ?_
              refine VQ_CH (Dw := Dw) ?_
              refine CH_q2 (Dw := Dw) rfl ?_
              refine VQ_y (fun w' hw' => Y_move rfl) rfl rfl rfl ?_
              refine VQ_CH (Dw := Dw) ?_
              refine CH_q2 (Dw := Dw) rfl ?_
              refine VQ_y (fun w' hw' => Y_move rfl) rfl rfl rfl ?_
              refine VQ_CH (Dw := Dw) ?_
              refine CH_q1 (Dw := Dw) rfl ?_
              refine VQ_indexAddrH (α := Int) (e := 3) (v := v113) (l := x109) hH (i := 2) rfl hx149 Try.underlying32 Try.sizeOf3 rfl rfl rfl ?_
              intro b206 o207 h208 hl209
              refine VQ_CH (Dw := Dw) ?_
              refine CH_q1 (Dw := Dw) rfl ?_
              refine VQ_y (fun w' hw' => Y_load (El.int (El.kp (Dw := Dw) h208 hw')) Try.isAgg3 rfl) rfl rfl rfl ?_
              refine VQ_CH (Dw := Dw) ?_
              refine CH_q2 (Dw := Dw) rfl ?_
              refine VQ_y (fun w' hw' => Y_move rfl) rfl rfl rfl ?_
              refine VQ_CH (Dw := Dw) ?_
              refine CH_q2 (Dw := Dw) rfl ?_
              refine VQ_y (fun w' hw' => Y_move rfl) rfl rfl rfl ?_
              refine VQ_CH (Dw := Dw) ?_
              refine CH_q2 (Dw := Dw) rfl ?_
              refine VQ_y (fun w' hw' => Y_addI rfl rfl) rfl rfl rfl ?_
              refine VQ_CH (Dw := Dw) ?_
              refine CH_q1 (Dw := Dw) rfl ?_
              obtain ⟨x210, hx210, ho176⟩ := Option.bind_eq_some_iff.1 ho176
              refine VQ_indexAddrH (α := Int) (e := 3) (v := v113) (l := x109) hH (i := 2) rfl hx210 Try.underlying32 Try.sizeOf3 rfl rfl rfl ?_
              intro b211 o212 h213 hl214
              refine VQ_CH (Dw := Dw) ?_
              refine CH_q1 (Dw := Dw) rfl ?_
              refine VQ_y (fun w' hw' => Y_load (El.int (El.kp (Dw := Dw) h213 hw')) Try.isAgg3 rfl) rfl rfl rfl ?_
              refine VQ_CH (Dw := Dw) ?_
              refine CH_q2 (Dw := Dw) rfl ?_
              refine VQ_y (fun w' hw' => Y_build Try.underlying30 Try.zeroValue30 (Try_places30 _ Try.underlying30) rfl (by with_unfolding_all rfl)) rfl rfl rfl ?_
              refine VQ_CH (Dw := Dw) ?_
              refine CH_l1 (Dw := Dw) (k := 0) rfl ?_
              refine V_buildSlice (Dw := Dw) (cells := #[.int .i64 x149, .int .i64 x210]) (l := ([(⟨x149, x210⟩ : cal_Span)] : List cal_Span)) (len := 1) Try.underlying22 Try.sizeOf30 Try.zeroValue30 rfl (by kernel_rfl) (show (1 * 2 : Nat) ≠ 0 by decide) (show (1 * 2 : Nat) ≤ 2 ^ 24 by decide) hA ⟨[.int .i64 x149, .int .i64 x210], _, rfl, ⟨[.int .i64 x149], _, rfl, rfl, rfl⟩, rfl⟩ rfl rfl ?_
              intro v215 w216 hk218 h217
              have ht219 := Kp.tr (Dw := Dw) hk218 hA hB
              replace hH := Hp.kp (Dw := Dw) hH hk218
              replace h208 := El.kp (Dw := Dw) h208 hk218
              replace h213 := El.kp (Dw := Dw) h213 hk218
              replace hK := Tr.trans (Dw := Dw) hK ht219
              replace hr116 := Tr.trans (Dw := Dw) hr116 ht219
              replace hr141 := Tr.trans (Dw := Dw) hr141 ht219
              replace hr178 := Tr.trans (Dw := Dw) hr178 ht219
              replace hB := Nat.le_trans hB ht219.ex.size
              replace hA := ht219.new
              refine V_CH (Dw := Dw) (hk218) ?_
              refine CH_l1 (Dw := Dw) (k := 2) rfl ?_
              obtain ⟨x220, hx220, ho176⟩ := Option.bind_eq_some_iff.1 ho176
              refine V_appendH (Dw := Dw) (e := 30) (v := v127) (l := s125.1) (ti := Try.t30) (bytes := 16) (lim := 8796093022208) hH (i := 1) rfl h217 hx220 Try.underlying22 Try_info30 rfl rfl rfl rfl (by decide) (by decide) (by decide) hB hA rfl rfl rfl ?_
              intro v221 w222 A223 hH224 ht225
              replace h217 := Sl.tr (Dw := Dw) h217 ht225
              replace hK := Tr.trans (Dw := Dw) hK ht225
              replace hr116 := Tr.trans (Dw := Dw) hr116 ht225
              replace hr141 := Tr.trans (Dw := Dw) hr141 ht225
              replace hr178 := Tr.trans (Dw := Dw) hr178 ht225
              replace hB := Nat.le_trans hB ht225.ex.size
              replace hA := ht225.new
              replace hH : Hp B A223 w222 (holds_Y :: obS (α := cal_Span) 30 v221 x220 :: obS (α := Int) 3 v113 x109 :: L) := hH224
              refine V_CHw (Dw := Dw) ?_
              refine CH_q2 (Dw := Dw) rfl ?_
              refine VQ_y (fun w' hw' => Y_assign rfl) rfl rfl rfl ?_
              refine VQ_CH (Dw := Dw) ?_
              refine CH_tail (Dw := Dw) ?_
              show V _ _ _ _ [] _ _
              obtain rfl := Option.some.inj ho176
              refine V_end (fun a ha226 => ?_)
              exact ⟨(v221, A223), ha226.sub ⟨rfl, rfl, rfl, rfl, trivial⟩, ⟨hH, hr178⟩⟩
          rintro ⟨v179, A184⟩ w181 ⟨hH185, hk182⟩ a ha183
          replace hK := Tr.trans (Dw := Dw) hK hk182
          replace hr116 := Tr.trans (Dw := Dw) hr116 hk182
          replace hr141 := Tr.trans (Dw := Dw) hr141 hk182
          replace hB := Nat.le_trans hB hk182.ex.size
          replace hA := hk182.new
          replace hH : Hp B A184 w181 (holds_Y :: obS (α := cal_Span) 30 v179 s177 :: obS (α := Int) 3 v113 x109 :: L) := hH185
          obtain rfl := Option.some.inj ho139
          replace hH : Hp B A184 w181 (obS (α := Int) 3 v113 x109 :: holds_Y :: obS (α := cal_Span) 30 v179 s177 :: L) := Hp.front hH (i := 2) rfl
          replace hH : Hp B A184 w181 (obS (α := cal_Span) 30 v179 s177 :: obS (α := Int) 3 v113 x109 :: holds_Y :: L) := Hp.front hH (i := 2) rfl
          exact ⟨(v179, A184), ha183.sub ⟨rfl, rfl, rfl, rfl, trivial⟩, ⟨hH, hr141⟩⟩
      rintro ⟨v142, A147⟩ w144 ⟨hH148, hk145⟩ a ha146
      replace hK := Tr.trans (Dw := Dw) hK hk145
      replace hr116 := Tr.trans (Dw := Dw) hr116 hk145
      replace hB := Nat.le_trans hB hk145.ex.size
      replace hA := hk145.new
      replace hH : Hp B A147 w144 (obS (α := cal_Span) 30 v142 s140 :: obS (α := Int) 3 v113 x109 :: holds_Y :: L) := hH148
      refine C_at (n := ⟨93, [], none⟩) (fun _ _ => rfl) ?_ ha146
      refine C_region ?_
      refine V_y (Y_move rfl) rfl rfl rfl ?_
      refine V_y (Y_addI rfl rfl) rfl rfl rfl ?_
      refine V_y (Y_assign rfl) rfl rfl rfl ?_
      obtain rfl := Option.some.inj h132
      refine V_end (fun a ha228 => ?_)
      exact ⟨(s140, w64 (s125.2 + 1)), h133, ⟨(v142, A147), ha228.sub ⟨rfl, rfl, rfl, rfl, trivial⟩, ⟨hH, hr116⟩⟩⟩
    · rw [if_neg (nt hc138)] at h132
      obtain rfl := Option.some.inj h132
      refine C_exit (fun a ha229 => ?_)
      exact ⟨((s125.1, s125.2), v127, A129), ha229.sub ⟨rfl, trivial⟩, ⟨h133.symm, hH, hr116⟩⟩
  rintro ⟨s115, v121, A123⟩ w118 ⟨rfl, hH124, hk119⟩ a ha120
  rw [Lp.andThen_fin] at hm
  replace hK := Tr.trans (Dw := Dw) hK hk119
  replace hB := Nat.le_trans hB hk119.ex.size
  replace hA := hk119.new
  replace hH : Hp B A123 w118 (obS (α := cal_Span) 30 v121 s115.1 :: obS (α := Int) 3 v113 x109 :: holds_Y :: L) := hH124
  refine C_at (n := ⟨93, [], none⟩) (fun _ _ => rfl) ?_ ha120
  refine C_seq ?_
  refine C_region ?_
  refine V_y (Y_move rfl) rfl rfl rfl ?_
  refine V_y (Y_assign rfl) rfl rfl rfl ?_
  refine V_to (fun _ _ => rfl) ?_
  obtain rfl := Option.some.inj hm
  replace hH : Hp B A123 w118 (holds_Y :: obS (α := cal_Span) 30 v121 s115.1 :: obS (α := Int) 3 v113 x109 :: L) := Hp.front hH (i := 2) rfl
  replace hH : Hp B A123 w118 (obS (α := cal_Span) 30 v121 s115.1 :: holds_Y :: obS (α := Int) 3 v113 x109 :: L) := Hp.front hH (i := 1) rfl
  replace hH : Hp B A123 w118 (obS (α := cal_Span) 30 v121 s115.1 :: holds_Y :: L) := Hp.drop hH (i := 2) rfl
  refine C_ret ?_
  try simp only [↓inBlock_ret, ↓then_ret]
  exact retQ rfl (Res.one Try.results14 rfl) ⟨v121, A123, rfl, hH, hK⟩

set_option maxRecDepth 4000 in
set_option maxHeartbeats 4000000 in
theorem slices_IndexFunc_Lcal_Span_cal_Span_c (w : World) {A : Nat → Prop} (hA : ∀ b, w.heap.size ≤ b → A b) (s : (List cal_Span)) (v_s : Value) (h_s : Sl A w v_s s) (f : cal_Span → Option Bool) (f_f : FuncId) (f_a f_c : Array Value) (f_call : ∀ (args : Array Value) (w : World), (callFunc f_f args).run Try.prog w = .ok (.enter f_f args) w) (f_spec : ∀ (w1 : World) (A1 : Nat → Prop), Tr Dw w.heap.size A w A1 w1 → (∀ b, w1.heap.size ≤ b → A1 b) → ∀ (y0 : cal_Span) (r : Bool), f y0 = some r → Ret Try.prog f_f (f_a ++ #[.agg #[.int .i64 y0.from_, .int .i64 y0.to_]] ++ f_c) w1 fun v w' => v = .bool r ∧ Kp Dw w1 w') {r : Int} (hm : slices_IndexFunc_Lcal_Span_cal_Span s f = some r) : Ret Try.prog 34 #[v_s, .func (.func f_f) f_a f_c] w fun v w' => v = .int .i64 r ∧ Kp Dw w w' := by
  unfold slices_IndexFunc_Lcal_Span_cal_Span at hm
  refine enter Try.func34 rfl Try.ntmps34 rfl ?_
  have hA0 := hA
  have hB := Nat.le_refl w.heap.size
  have hK : Tr Dw w.heap.size A w A w := Tr.refl (Dw := Dw) hA
  have hH : Hp w.heap.size A w [] := Hp.nil
  refine C_seq ?_
  refine C_region ?_
  refine V_y (Y_assign rfl) rfl rfl rfl ?_
  refine V_to (fun _ _ => rfl) ?_
  refine C_seq ?_
  refine C_seq ?_
  refine C_region ?_
  refine V_y (Y_move rfl) rfl rfl rfl ?_
  refine V_y (Y_lenSl h_s rfl Try.underlying22 rfl) rfl rfl rfl ?_
  refine V_y (Y_move rfl) rfl rfl rfl ?_
  refine V_to (fun _ _ => rfl) ?_
  have hn23 := Sl.le h_s
  obtain ⟨o3, ho3, hm⟩ := Option.bind_eq_some_iff.1 hm
  refine C_cutG (ι := (Unit × (Nat → Prop))) (fun ⟨s4, A10⟩ => []) (fun ⟨s4, A10⟩ => fun w' => o3 = .fin s4 ∧ Hp w.heap.size A10 w' ([]) ∧ Tr Dw w.heap.size A w A10 w') ?_ ?_
  · refine C_block ?_
    refine C_range ho3 (fun k6 _ a w' => ∃ i : (Nat → Prop), Has ⟨19, [], none⟩ a ([(0, v_s), (1, .func (.func f_f) f_a f_c), (7, .int .i64 (s.length : Int)), (8, .int .i64 (k6 : Int))]) ∧ Hp w.heap.size i w' ([]) ∧ Tr Dw w.heap.size A w i w') (fun a ha => ⟨A, ha.sub ⟨rfl, rfl, rfl, rfl, trivial⟩, ⟨hH, Tr.refl (Dw := Dw) hA⟩⟩) ?_
    rintro K k6 _ a w13 ⟨A14, ha37, hH15, hr5⟩ hle19 K22 h21
    refine C_of ?_ ha37
    replace h_s := Sl.tr (Dw := Dw) h_s hr5
    replace hK := Tr.trans (Dw := Dw) hK hr5
    replace hB := Nat.le_trans hB hr5.ex.size
    replace hA := hr5.new
    replace hH : Hp w.heap.size A14 w13 ([]) := hH15
    refine C_seq (C_region (V_y (Y_lss rfl rfl) rfl rfl rfl (V_to (fun _ _ => rfl) ?_)))
    refine C_seq ?_
    refine C_cond rfl (fun hc24 => ?_) (fun hc24 => ?_)
    · have hlt20 := lt_of_dec hc24
      obtain ⟨x16, h17, h18⟩ := K22 hlt20
      refine C_skip_to (fun _ _ => rfl) ?_
      refine C_seq ?_
      refine C_block ?_
      refine C_seq ?_
      refine C_region ?_
      refine V_y (Y_move rfl) rfl rfl rfl ?_
      refine V_y (Y_assign rfl) rfl rfl rfl ?_
      refine V_to (fun _ _ => rfl) ?_
      refine C_seq ?_
      refine C_region ?_
      refine V_y (Y_move rfl) rfl rfl rfl ?_
      refine V_y (Y_move rfl) rfl rfl rfl ?_
      refine V_y (Y_move rfl) rfl rfl rfl ?_
      obtain ⟨x25, hx25, h17⟩ := Option.bind_eq_some_iff.1 h17
      refine V_indexAddr h_s hx25 Try.underlying22 Try.sizeOf30 rfl rfl rfl ?_
      intro b26 o27 h28
      obtain ⟨h29, _⟩ := El_cal_Span h28
      refine V_y (Y_loadA h29 Try.isAgg30 Try.sizeOf30 rfl) rfl rfl rfl ?_
      obtain ⟨x30, hx30, h17⟩ := Option.bind_eq_some_iff.1 h17
      refine V_call f_call rfl rfl rfl rfl (f_spec w13 _ hK hA x25 _ hx30) ?_
      rintro _ w31 ⟨rfl, hk32⟩
      have ht33 := Kp.tr (Dw := Dw) hk32 hA hB
      replace hH := Hp.kp (Dw := Dw) hH hk32
      replace h_s := Sl.tr (Dw := Dw) h_s ht33
      replace h28 := El.tr (Dw := Dw) h28 ht33
      replace hK := Tr.trans (Dw := Dw) hK ht33
      replace hr5 := Tr.trans (Dw := Dw) hr5 ht33
      replace hB := Nat.le_trans hB ht33.ex.size
      replace hA := ht33.new
      refine V_to (fun _ _ => rfl) ?_
      refine C_cond rfl (fun hc34 => ?_) (fun hc34 => ?_)
      · rw [if_pos hc34] at h17
        refine C_seq ?_
        refine C_region ?_
        refine V_y (Y_move rfl) rfl rfl rfl ?_
        refine V_y (Y_assign rfl) rfl rfl rfl ?_
        refine V_to (fun _ _ => rfl) ?_
        obtain rfl := Option.some.inj h17
        obtain rfl := (h18 : Lp.rt _ = _)
        rw [Lp.andThen_rt] at hm
        obtain rfl := Option.some.inj hm
        refine C_ret ?_
        try simp only [↓inBlock_ret, ↓then_ret]
        exact retQ rfl (Res.one Try.results34 rfl) ⟨rfl, hK.kp⟩
      · rw [if_neg (nt hc34)] at h17
        refine C_skip_to (fun _ _ => rfl) ?_
        refine C_region ?_
        refine V_y (Y_addI rfl rfl) rfl rfl rfl ?_
        refine V_y (Y_move rfl) rfl rfl rfl ?_
        obtain rfl := Option.some.inj h17
        refine V_end (fun a ha35 => ?_)
        exact ⟨(), hlt20, h18, ⟨A14, ha35.sub ⟨rfl, rfl, rfl, (congrArg (fun z => some (Value.int .i64 z)) (w64_succ hlt20 hn23)), trivial⟩, ⟨hH, hr5⟩⟩⟩
    · refine C_exit (fun a ha36 => ?_)
      exact ⟨((), A14), ha36.sub trivial, ⟨(h21 (eq_of_dec hle19 hc24)).symm, hH, hr5⟩⟩
  rintro ⟨s4, A10⟩ w7 ⟨rfl, hH11, hk8⟩ a ha9
  rw [Lp.andThen_fin] at hm
  replace hK := Tr.trans (Dw := Dw) hK hk8
  replace hB := Nat.le_trans hB hk8.ex.size
  replace hA := hk8.new
  replace hH : Hp w.heap.size A10 w7 ([]) := hH11
  refine C_at (n := ⟨19, [], none⟩) (fun _ _ => rfl) ?_ ha9
  refine C_seq ?_
  refine C_region ?_
  refine V_y (Y_assign rfl) rfl rfl rfl ?_
  refine V_to (fun _ _ => rfl) ?_
  obtain rfl := Option.some.inj hm
  refine C_ret ?_
  try simp only [↓inBlock_ret, ↓then_ret]
  exact retQ rfl (Res.one Try.results34 rfl) ⟨rfl, hK.kp⟩

set_option maxRecDepth 4000 in
set_option maxHeartbeats 4000000 in
theorem slices_ContainsFunc_Lcal_Span_cal_Span_c (w : World) {A : Nat → Prop} (hA : ∀ b, w.heap.size ≤ b → A b) (s : (List cal_Span)) (v_s : Value) (h_s : Sl A w v_s s) (f : cal_Span → Option Bool) (f_f : FuncId) (f_a f_c : Array Value) (f_call : ∀ (args : Array Value) (w : World), (callFunc f_f args).run Try.prog w = .ok (.enter f_f args) w) (f_spec : ∀ (w1 : World) (A1 : Nat → Prop), Tr Dw w.heap.size A w A1 w1 → (∀ b, w1.heap.size ≤ b → A1 b) → ∀ (y0 : cal_Span) (r : Bool), f y0 = some r → Ret Try.prog f_f (f_a ++ #[.agg #[.int .i64 y0.from_, .int .i64 y0.to_]] ++ f_c) w1 fun v w' => v = .bool r ∧ Kp Dw w1 w') {r : Bool} (hm : slices_ContainsFunc_Lcal_Span_cal_Span s f = some r) : Ret Try.prog 24 #[v_s, .func (.func f_f) f_a f_c] w fun v w' => v = .bool r ∧ Kp Dw w w' := by
  unfold slices_ContainsFunc_Lcal_Span_cal_Span at hm
  refine enter Try.func24 rfl Try.ntmps24 rfl ?_
  have hA0 := hA
  have hB := Nat.le_refl w.heap.size
  have hK : Tr Dw w.heap.size A w A w := Tr.refl (Dw := Dw) hA
  have hH : Hp w.heap.size A w [] := Hp.nil
  refine C_seq ?_
  refine C_region ?_
  refine V_y (Y_assign rfl) rfl rfl rfl ?_
  refine V_to (fun _ _ => rfl) ?_
  refine C_seq ?_
  refine C_region ?_
  refine V_y (Y_move rfl) rfl rfl rfl ?_
  refine V_y (Y_move rfl) rfl rfl rfl ?_
  obtain ⟨x3, hx3, hm⟩ := Option.bind_eq_some_iff.1 hm
  refine V_call Try.call34 rfl rfl rfl rfl (slices_IndexFunc_Lcal_Span_cal_Span_c (Dw := Dw) w hA s v_s h_s f f_f f_a f_c f_call (fun w1 A1 ht => f_spec w1 A1 (Tr.trans (Dw := Dw) hK (Tr.lower (Dw := Dw) ht hB))) hx3) ?_
  rintro _ w4 ⟨rfl, hk5⟩
  have ht6 := Kp.tr (Dw := Dw) hk5 hA hB
  replace hH := Hp.kp (Dw := Dw) hH hk5
  replace h_s := Sl.tr (Dw := Dw) h_s ht6
  replace hK := Tr.trans (Dw := Dw) hK ht6
  replace hB := Nat.le_trans hB ht6.ex.size
  replace hA := ht6.new
  refine V_y (Y_geq rfl rfl) rfl rfl rfl ?_
  refine V_y (Y_assign rfl) rfl rfl rfl ?_
  refine V_to (fun _ _ => rfl) ?_
  obtain rfl := Option.some.inj hm
  refine C_ret ?_
  try simp only [↓inBlock_ret, ↓then_ret]
  exact retQ rfl (Res.one Try.results24 rfl) ⟨rfl, hK.kp⟩

set_option maxRecDepth 4000 in
set_option maxHeartbeats 4000000 in
theorem portref2_within_1_c (w : World) {A : Nat → Prop} (hA : ∀ b, w.heap.size ≤ b → A b) (s : cal_Span) (p1 : Int) (b_p1 : Nat) (h_p1 : El A w b_p1 0 p1) {r : Bool} (hm : portref2_within_1 s p1 = some r) : Ret Try.prog 25 #[.agg #[.int .i64 s.from_, .int .i64 s.to_], .pointer (some ⟨b_p1, 0, none⟩)] w fun v w' => v = .bool r ∧ Kp Dw w w' := by
  unfold portref2_within_1 at hm
  refine enter Try.func25 rfl Try.ntmps25 rfl ?_
  have hA0 := hA
  have hB := Nat.le_refl w.heap.size
  have hK : Tr Dw w.heap.size A w A w := Tr.refl (Dw := Dw) hA
  have hH : Hp w.heap.size A w [] := Hp.nil
  refine C_seq ?_
  refine C_region ?_
  refine V_box rfl rfl ?_
  intro b1 w2 h3
  have hk5 := h3.kp (Dw := Dw)
  have h4 : El (α := cal_Span) A w2 b1 0 s := h3.el hA ⟨[.int .i64 s.from_], _, rfl, rfl, rfl⟩
  have ht6 := Kp.tr (Dw := Dw) hk5 hA hB
  replace hH := Hp.kp (Dw := Dw) hH hk5
  replace h_p1 := El.tr (Dw := Dw) h_p1 ht6
  replace hK := Tr.trans (Dw := Dw) hK ht6
  replace hB := Nat.le_trans hB ht6.ex.size
  replace hA := ht6.new
  refine V_y (Y_assign rfl) rfl rfl rfl ?_
  refine V_to (fun _ _ => rfl) ?_
  refine C_seq ?_
  refine C_region ?_
  have h7 := El_cal_Span_0 h4
  refine V_y (Y_fieldAddr Try.underlying30 rfl Try.sizeOf3 (by decide) rfl) rfl rfl rfl ?_
  refine V_y (Y_load (El.int h7) Try.isAgg3 rfl) rfl rfl rfl ?_
  refine V_y (Y_load (El.int h_p1) Try.isAgg3 rfl) rfl rfl rfl ?_
  refine V_y (Y_leq rfl rfl) rfl rfl rfl ?_
  refine V_y (Y_move rfl) rfl rfl rfl ?_
  refine V_cut 5 (fun _ : Unit => [(13, .bool ((decide (s.from_ ≤ p1)) && (decide (p1 < s.to_))))]) (fun _ w' => w2 = w') ?_ ?_
  · simp only [List.take, List.drop]
    rcases Bool.eq_false_or_eq_true (decide (s.from_ ≤ p1)) with hc8 | hc8
    · refine V_ge rfl rfl rfl hc8 ?_
      refine V_y (Y_load (El.int h_p1) Try.isAgg3 rfl) rfl rfl rfl ?_
      refine V_ge rfl rfl rfl hc8 ?_
      have h10 := El_cal_Span_1 h4
      refine V_y (Y_fieldAddr Try.underlying30 rfl Try.sizeOf3 (by decide) rfl) rfl rfl rfl ?_
      refine V_ge rfl rfl rfl hc8 ?_
      refine V_y (Y_load (El.int h10) Try.isAgg3 rfl) rfl rfl rfl ?_
      refine V_ge rfl rfl rfl hc8 ?_
      refine V_y (Y_lss rfl rfl) rfl rfl rfl ?_
      refine V_y (Y_pick_te rfl hc8 rfl) rfl rfl rfl ?_
      exact V_end fun a ha => ⟨(), ha.sub ⟨(by rw [hc8]; rfl), trivial⟩, rfl⟩
    · refine V_gn rfl rfl rfl hc8 rfl rfl rfl ?_
      refine V_gn rfl rfl rfl hc8 rfl rfl rfl ?_
      refine V_gn rfl rfl rfl hc8 rfl rfl rfl ?_
      refine V_gn rfl rfl rfl hc8 rfl rfl rfl ?_
      refine V_y (Y_pick_fe rfl hc8 rfl) rfl rfl rfl ?_
      exact V_end fun a ha => ⟨(), ha.sub ⟨(by rw [hc8]; rfl), trivial⟩, rfl⟩
  simp only [List.take, List.drop]
  rintro _ _ rfl
  refine V_y (Y_assign rfl) rfl rfl rfl ?_
  refine V_to (fun _ _ => rfl) ?_
  obtain rfl := Option.some.inj hm
  refine C_ret ?_
  try simp only [↓inBlock_ret, ↓then_ret]
  exact retQ rfl (Res.one Try.results25 rfl) ⟨rfl, hK.kp⟩

set_option maxRecDepth 4000 in
set_option maxHeartbeats 4000000 in
theorem portref2_within_c (w : World) {A : Nat → Prop} (hA : ∀ b, w.heap.size ≤ b → A b) (l : (List cal_Span)) (v_l : Value) (h_l : Sl A w v_l l) (m : Int) {r : Bool} (hm : portref2_within l m = some r) : Ret Try.prog 16 #[v_l, .int .i64 m] w fun v w' => v = .bool r ∧ Kp Dw w w' := by
  unfold portref2_within at hm
  refine enter Try.func16 rfl Try.ntmps16 rfl ?_
  have hA0 := hA
  have hB := Nat.le_refl w.heap.size
  have hK : Tr Dw w.heap.size A w A w := Tr.refl (Dw := Dw) hA
  have hH : Hp w.heap.size A w [] := Hp.nil
  refine C_seq ?_
  refine C_region ?_
  refine V_box rfl rfl ?_
  intro b3 w4 h5
  have hk7 := h5.kp (Dw := Dw)
  have h6 : El (α := Int) A w4 b3 0 m := h5.el hA rfl
  have ht8 := Kp.tr (Dw := Dw) hk7 hA hB
  replace hH := Hp.kp (Dw := Dw) hH hk7
  replace h_l := Sl.tr (Dw := Dw) h_l ht8
  replace hK := Tr.trans (Dw := Dw) hK ht8
  replace hB := Nat.le_trans hB ht8.ex.size
  replace hA := ht8.new
  refine V_y (Y_assign rfl) rfl rfl rfl ?_
  refine V_to (fun _ _ => rfl) ?_
  refine C_seq ?_
  refine C_region ?_
  refine V_y (Y_move rfl) rfl rfl rfl ?_
  refine V_y (Y_makeFunc rfl rfl) rfl rfl rfl ?_
  obtain ⟨x10, hx10, hm⟩ := Option.bind_eq_some_iff.1 hm
  refine V_call Try.call24 rfl rfl rfl rfl (slices_ContainsFunc_Lcal_Span_cal_Span_c (Dw := Dw) w4 hA l v_l h_l (fun y18 => portref2_within_1 y18 m) 25 #[] #[.pointer (some ⟨b3, 0, none⟩)] Try.call25 (fun w14 A15 ht16 h17 y11 r12 h13 => (portref2_within_1_c (Dw := Dw) w14 h17 y11 m b3 (El.tr (Dw := Dw) h6 ht16) h13).mono (fun _ _ h => ⟨h.1, h.2⟩)) hx10) ?_
  rintro _ w19 ⟨rfl, hk20⟩
  have ht21 := Kp.tr (Dw := Dw) hk20 hA hB
  replace hH := Hp.kp (Dw := Dw) hH hk20
  replace h_l := Sl.tr (Dw := Dw) h_l ht21
  replace h6 := El.tr (Dw := Dw) h6 ht21
  replace hK := Tr.trans (Dw := Dw) hK ht21
  replace hB := Nat.le_trans hB ht21.ex.size
  replace hA := ht21.new
  refine V_y (Y_assign rfl) rfl rfl rfl ?_
  refine V_to (fun _ _ => rfl) ?_
  obtain rfl := Option.some.inj hm
  refine C_ret ?_
  try simp only [↓inBlock_ret, ↓then_ret]
  exact retQ rfl (Res.one Try.results16 rfl) ⟨rfl, hK.kp⟩

set_option maxRecDepth 4000 in
set_option maxHeartbeats 4000000 in
theorem portref2_SetOf_1_c (w : World) {A : Nat → Prop} (hA : ∀ b, w.heap.size ≤ b → A b) (m : Int) (p1 : (List cal_Span)) (b_p1 : Nat) (h_p1 : El A w b_p1 0 p1) (p2 : (List cal_Span)) (b_p2 : Nat) (h_p2 : El A w b_p2 0 p2) (p3 : ByteArray) (b_p3 : Nat) (h_p3 : El A w b_p3 0 p3) {r : Bool} (hm : portref2_SetOf_1 m p1 p2 p3 = some r) : Ret Try.prog 15 #[.int .i64 m, .pointer (some ⟨b_p1, 0, none⟩), .pointer (some ⟨b_p2, 0, none⟩), .pointer (some ⟨b_p3, 0, none⟩)] w fun v w' => v = .bool r ∧ Kp Dw w w' := by
  unfold portref2_SetOf_1 at hm
  refine enter Try.func15 rfl Try.ntmps15 rfl ?_
  have hA0 := hA
  have hB := Nat.le_refl w.heap.size
  have hK : Tr Dw w.heap.size A w A w := Tr.refl (Dw := Dw) hA
  have hH : Hp w.heap.size A w [] := Hp.nil
  refine C_seq ?_
  refine C_region ?_
  refine V_y (Y_assign rfl) rfl rfl rfl ?_
  refine V_to (fun _ _ => rfl) ?_
  refine C_seq ?_
  refine C_region_q (Dw := Dw) Try_mixed (by kernel_rfl) ?_
  obtain ⟨v1, h2, h3⟩ := El.list h_p1
  refine VQ_y (fun w' hw' => Y_load ((World.cell?_of_block (hw'.block _ (World.block_lt_of_cell? _ _ h2))).trans h2) Try.isAgg22 rfl) rfl rfl rfl ?_
  refine VQ_y (fun w' hw' => Y_move rfl) rfl rfl rfl ?_
  obtain ⟨x4, hx4, hm⟩ := Option.bind_eq_some_iff.1 hm
  refine VQ_call (.bool x4) Try.call16 rfl rfl rfl rfl (fun w' hw' => (portref2_within_c (Dw := Dw) w' (fun b hb => hA b (Nat.le_trans hw'.size hb)) p1 v1 (Sl.kp (Dw := Dw) h3 hw') m hx4).mono (fun _ _ h => ⟨h.1, Kp.trans (Dw := Dw) hw' h.2⟩)) ?_
  obtain ⟨v5, h6, h7⟩ := El.list h_p2
  refine VQ_y (fun w' hw' => Y_load ((World.cell?_of_block (hw'.block _ (World.block_lt_of_cell? _ _ h6))).trans h6) Try.isAgg22 rfl) rfl rfl rfl ?_
  refine VQ_y (fun w' hw' => Y_move rfl) rfl rfl rfl ?_
  obtain ⟨x8, hx8, hm⟩ := Option.bind_eq_some_iff.1 hm
  refine VQ_call (.bool x8) Try.call16 rfl rfl rfl rfl (fun w' hw' => (portref2_within_c (Dw := Dw) w' (fun b hb => hA b (Nat.le_trans hw'.size hb)) p2 v5 (Sl.kp (Dw := Dw) h7 hw') m hx8).mono (fun _ _ h => ⟨h.1, Kp.trans (Dw := Dw) hw' h.2⟩)) ?_
  refine VQ_y (fun w' hw' => Y_assign rfl) rfl rfl rfl ?_
  refine VQ_y (fun w' hw' => Y_assign rfl) rfl rfl rfl ?_
  refine VQ_to (fun _ _ => rfl) (fun w9 hk10 => ?_)
  have ht11 := Kp.tr (Dw := Dw) hk10 hA hB
  replace hH := Hp.kp (Dw := Dw) hH hk10
  replace h_p3 := El.tr (Dw := Dw) h_p3 ht11
  replace hK := Tr.trans (Dw := Dw) hK ht11
  replace hB := Nat.le_trans hB ht11.ex.size
  replace hA := ht11.new
  refine C_seq ?_
  refine C_seq ?_
  refine C_region ?_
  refine V_y (Y_load (El.str h_p3) Try.isAgg9 rfl) rfl rfl rfl ?_
  refine V_to (fun _ _ => rfl) ?_
  refine C_block ?_
  refine C_seq ?_
  refine C_region ?_
  refine V_y (Y_seql rfl rfl) rfl rfl rfl ?_
  refine V_y (Y_assign rfl) rfl rfl rfl ?_
  refine V_to (fun _ _ => rfl) ?_
  refine C_cond rfl (fun hc12 => ?_) (fun hc12 => ?_)
  · rw [if_pos hc12] at hm
    refine C_seq ?_
    refine C_region ?_
    refine V_y (Y_move rfl) rfl rfl rfl ?_
    refine V_y (Y_move rfl) rfl rfl rfl ?_
    refine V_cut 2 (fun _ : Unit => [(20, .bool (x4 || x8))]) (fun _ w' => w9 = w') ?_ ?_
    · simp only [List.take, List.drop]
      rcases Bool.eq_false_or_eq_true (x4) with hc13 | hc13
      · refine V_gn rfl rfl rfl hc13 rfl rfl rfl ?_
        refine V_y (Y_pick_te rfl hc13 rfl) rfl rfl rfl ?_
        exact V_end fun a ha => ⟨(), ha.sub ⟨(by rw [hc13]; rfl), trivial⟩, rfl⟩
      · refine V_ge rfl rfl rfl hc13 ?_
        refine V_y (Y_move rfl) rfl rfl rfl ?_
        refine V_y (Y_pick_fe rfl hc13 rfl) rfl rfl rfl ?_
        exact V_end fun a ha => ⟨(), ha.sub ⟨(by rw [hc13]; rfl), trivial⟩, rfl⟩
    simp only [List.take, List.drop]
    rintro _ _ rfl
    refine V_y (Y_assign rfl) rfl rfl rfl ?_
    refine V_to (fun _ _ => rfl) ?_
    obtain rfl := Option.some.inj hm
    refine C_ret ?_
    try simp only [↓inBlock_ret, ↓then_ret]
    exact retQ rfl (Res.one Try.results15 rfl) ⟨rfl, hK.kp⟩
  · rw [if_neg (nt hc12)] at hm
    refine C_seq ?_
    refine C_region ?_
    refine V_y (Y_seql rfl rfl) rfl rfl rfl ?_
    refine V_y (Y_assign rfl) rfl rfl rfl ?_
    refine V_to (fun _ _ => rfl) ?_
    refine C_cond rfl (fun hc15 => ?_) (fun hc15 => ?_)
    · rw [if_pos hc15] at hm
      refine C_seq ?_
      refine C_region ?_
      refine V_y (Y_move rfl) rfl rfl rfl ?_
      refine V_y (Y_move rfl) rfl rfl rfl ?_
      refine V_cut 2 (fun _ : Unit => [(26, .bool (x4 && x8))]) (fun _ w' => w9 = w') ?_ ?_
      · simp only [List.take, List.drop]
        rcases Bool.eq_false_or_eq_true (x4) with hc16 | hc16
        · refine V_ge rfl rfl rfl hc16 ?_
          refine V_y (Y_move rfl) rfl rfl rfl ?_
          refine V_y (Y_pick_te rfl hc16 rfl) rfl rfl rfl ?_
          exact V_end fun a ha => ⟨(), ha.sub ⟨(by rw [hc16]; rfl), trivial⟩, rfl⟩
        · refine V_gn rfl rfl rfl hc16 rfl rfl rfl ?_
          refine V_y (Y_pick_fe rfl hc16 rfl) rfl rfl rfl ?_
          exact V_end fun a ha => ⟨(), ha.sub ⟨(by rw [hc16]; rfl), trivial⟩, rfl⟩
      simp only [List.take, List.drop]
      rintro _ _ rfl
      refine V_y (Y_assign rfl) rfl rfl rfl ?_
      refine V_to (fun _ _ => rfl) ?_
      obtain rfl := Option.some.inj hm
      refine C_ret ?_
      try simp only [↓inBlock_ret, ↓then_ret]
      exact retQ rfl (Res.one Try.results15 rfl) ⟨rfl, hK.kp⟩
    · rw [if_neg (nt hc15)] at hm
      refine C_skip_to (fun _ _ => rfl) ?_
      refine C_seq ?_
      refine C_region ?_
      refine V_y (Y_move rfl) rfl rfl rfl ?_
      refine V_y (Y_move rfl) rfl rfl rfl ?_
      refine V_cut 3 (fun _ : Unit => [(31, .bool (x4 && (!x8)))]) (fun _ w' => w9 = w') ?_ ?_
      · simp only [List.take, List.drop]
        rcases Bool.eq_false_or_eq_true (x4) with hc18 | hc18
        · refine V_ge rfl rfl rfl hc18 ?_
          refine V_y (Y_move rfl) rfl rfl rfl ?_
          refine V_ge rfl rfl rfl hc18 ?_
          refine V_y (Y_not rfl) rfl rfl rfl ?_
          refine V_y (Y_pick_te rfl hc18 rfl) rfl rfl rfl ?_
          exact V_end fun a ha => ⟨(), ha.sub ⟨(by rw [hc18]; rfl), trivial⟩, rfl⟩
        · refine V_gn rfl rfl rfl hc18 rfl rfl rfl ?_
          refine V_gn rfl rfl rfl hc18 rfl rfl rfl ?_
          refine V_y (Y_pick_fe rfl hc18 rfl) rfl rfl rfl ?_
          exact V_end fun a ha => ⟨(), ha.sub ⟨(by rw [hc18]; rfl), trivial⟩, rfl⟩
      simp only [List.take, List.drop]
      rintro _ _ rfl
      refine V_y (Y_assign rfl) rfl rfl rfl ?_
      refine V_to (fun _ _ => rfl) ?_
      obtain rfl := Option.some.inj hm
      refine C_ret ?_
      try simp only [↓inBlock_ret, ↓then_ret]
      exact retQ rfl (Res.one Try.results15 rfl) ⟨rfl, hK.kp⟩

set_option maxRecDepth 4000 in
set_option maxHeartbeats 4000000 in
theorem portref2_SetOf_c (w : World) {A : Nat → Prop} (hA : ∀ b, w.heap.size ≤ b → A b) (op : ByteArray) (a_ : (List cal_Span)) (v_a_ : Value) (h_a_ : Sl A w v_a_ a_) (b : (List cal_Span)) (v_b : Value) (h_b : Sl A w v_b b) {r : ((List cal_Span) × Int)} (hm : portref2_SetOf op a_ b = some r) : Ret Try.prog 7 #[.string op, v_a_, v_b] w fun v w' => ∃ s0, v = .tuple #[s0, .int .i64 r.2] ∧ Ownd 30 w w' s0 r.1 ∧ Kp Dw w w' := by
  unfold portref2_SetOf at hm
  refine enter Try.func7 rfl Try.ntmps7 rfl ?_
  have hA0 := hA
  have hB := Nat.le_refl w.heap.size
  have hK : Tr Dw w.heap.size A w A w := Tr.refl (Dw := Dw) hA
  have hH : Hp w.heap.size A w [] := Hp.nil
  refine C_seq ?_
  refine C_region ?_
  refine V_box rfl rfl ?_
  intro b5 w6 h7
  have hk9 := h7.kp (Dw := Dw)
  have h8 : El (α := ByteArray) A w6 b5 0 op := h7.el hA rfl
  have ht10 := Kp.tr (Dw := Dw) hk9 hA hB
  replace hH := Hp.kp (Dw := Dw) hH hk9
  replace h_a_ := Sl.tr (Dw := Dw) h_a_ ht10
  replace h_b := Sl.tr (Dw := Dw) h_b ht10
  replace hK := Tr.trans (Dw := Dw) hK ht10
  replace hB := Nat.le_trans hB ht10.ex.size
  replace hA := ht10.new
  refine V_box rfl rfl ?_
  intro b11 w12 h13
  have h18 : (v_a_).oneCell' = true := by obtain ⟨_, _, e, _⟩ := Sl.form h_a_; rw [e]; rfl
  have hk15 := h13.kp (Dw := Dw)
  have h14 : El (α := (List cal_Span)) A w12 b11 0 a_ := h13.el hA (by rw [Value.cells_one h18]; exact ⟨_, rfl, h_a_⟩)
  have ht19 := Kp.tr (Dw := Dw) hk15 hA hB
  replace hH := Hp.kp (Dw := Dw) hH hk15
  replace h_a_ := Sl.tr (Dw := Dw) h_a_ ht19
  replace h_b := Sl.tr (Dw := Dw) h_b ht19
  replace h8 := El.tr (Dw := Dw) h8 ht19
  replace hK := Tr.trans (Dw := Dw) hK ht19
  replace hB := Nat.le_trans hB ht19.ex.size
  replace hA := ht19.new
  refine V_box rfl rfl ?_
  intro b20 w21 h22
  have h27 : (v_b).oneCell' = true := by obtain ⟨_, _, e, _⟩ := Sl.form h_b; rw [e]; rfl
  have hk24 := h22.kp (Dw := Dw)
  have h23 : El (α := (List cal_Span)) A w21 b20 0 b := h22.el hA (by rw [Value.cells_one h27]; exact ⟨_, rfl, h_b⟩)
  have ht28 := Kp.tr (Dw := Dw) hk24 hA hB
  replace hH := Hp.kp (Dw := Dw) hH hk24
  replace h_a_ := Sl.tr (Dw := Dw) h_a_ ht28
  replace h_b := Sl.tr (Dw := Dw) h_b ht28
  replace h8 := El.tr (Dw := Dw) h8 ht28
  replace h14 := El.tr (Dw := Dw) h14 ht28
  replace hK := Tr.trans (Dw := Dw) hK ht28
  replace hB := Nat.le_trans hB ht28.ex.size
  replace hA := ht28.new
  refine V_y (Y_assign rfl) rfl rfl rfl ?_
  refine V_y (Y_assign rfl) rfl rfl rfl ?_
  refine V_to (fun _ _ => rfl) ?_
  refine C_seq ?_
  refine C_seq ?_
  refine C_region ?_
  obtain ⟨v29, h30, h31⟩ := El.list h14
  refine V_y (Y_load h30 Try.isAgg22 rfl) rfl rfl rfl ?_
  obtain ⟨v32, h33, h34⟩ := El.list h23
  refine V_y (Y_load h33 Try.isAgg22 rfl) rfl rfl rfl ?_
  refine V_buildSlice (Dw := Dw) (cells := #[v29, v32]) (l := ([a_, b] : List (List cal_Span))) (len := 2) Try.underlying34 Try.sizeOf22 Try.zeroValue22 rfl (by obtain ⟨a39, c40, e41, _⟩ := Sl.form h31; subst e41; obtain ⟨a42, c43, e44, _⟩ := Sl.form h34; subst e44; kernel_rfl) (show (2 * 1 : Nat) ≠ 0 by decide) (show (2 * 1 : Nat) ≤ 2 ^ 24 by decide) hA ⟨[v29], _, rfl, ⟨_, rfl, h31⟩, ⟨[v32], _, rfl, ⟨_, rfl, h34⟩, rfl⟩⟩ rfl rfl ?_
  intro v35 w36 hk38 h37
  have ht45 := Kp.tr (Dw := Dw) hk38 hA hB
  replace hH := Hp.kp (Dw := Dw) hH hk38
  replace h8 := El.tr (Dw := Dw) h8 ht45
  replace h14 := El.tr (Dw := Dw) h14 ht45
  replace h23 := El.tr (Dw := Dw) h23 ht45
  replace h31 := Sl.tr (Dw := Dw) h31 ht45
  replace h34 := Sl.tr (Dw := Dw) h34 ht45
  replace hK := Tr.trans (Dw := Dw) hK ht45
  replace hB := Nat.le_trans hB ht45.ex.size
  replace hA := ht45.new
  refine V_y (Y_lenSl h37 rfl Try.underlying34 rfl) rfl rfl rfl ?_
  refine V_y (Y_move rfl) rfl rfl rfl ?_
  refine V_to (fun _ _ => rfl) ?_
  have hn66 := Sl.le h37
  obtain ⟨o46, ho46, hm⟩ := Option.bind_eq_some_iff.1 hm
  refine C_cutG (ι := (Unit × (Nat → Prop))) (fun ⟨s47, A53⟩ => [(3, .pointer (some ⟨b5, 0, none⟩)), (4, .pointer (some ⟨b11, 0, none⟩)), (5, .pointer (some ⟨b20, 0, none⟩))]) (fun ⟨s47, A53⟩ => fun w' => o46 = .fin s47 ∧ Hp w.heap.size A53 w' ([]) ∧ Tr Dw w.heap.size A w36 A53 w') ?_ ?_
  · refine C_block ?_
    refine C_range ho46 (fun k49 _ a w' => ∃ i : (Nat → Prop), Has ⟨35, [], none⟩ a ([(3, .pointer (some ⟨b5, 0, none⟩)), (4, .pointer (some ⟨b11, 0, none⟩)), (5, .pointer (some ⟨b20, 0, none⟩)), (14, v35), (15, .int .i64 (([a_, b] : List (List cal_Span)).length : Int)), (16, .int .i64 (k49 : Int))]) ∧ Hp w.heap.size i w' ([]) ∧ Tr Dw w.heap.size A w36 i w') (fun a ha => ⟨A, ha.sub ⟨rfl, rfl, rfl, rfl, rfl, rfl, trivial⟩, ⟨hH, Tr.refl (Dw := Dw) hA⟩⟩) ?_
    rintro K k49 _ a w56 ⟨A57, ha82, hH58, hr48⟩ hle62 K65 h64
    refine C_of ?_ ha82
    replace h8 := El.tr (Dw := Dw) h8 hr48
    replace h14 := El.tr (Dw := Dw) h14 hr48
    replace h23 := El.tr (Dw := Dw) h23 hr48
    replace h37 := Sl.tr (Dw := Dw) h37 hr48
    replace hK := Tr.trans (Dw := Dw) hK hr48
    replace hB := Nat.le_trans hB hr48.ex.size
    replace hA := hr48.new
    replace hH : Hp w.heap.size A57 w56 ([]) := hH58
    refine C_seq (C_region (V_y (Y_lss rfl rfl) rfl rfl rfl (V_to (fun _ _ => rfl) ?_)))
    refine C_seq ?_
    refine C_cond rfl (fun hc67 => ?_) (fun hc67 => ?_)
    · have hlt63 := lt_of_dec hc67
      obtain ⟨x59, h60, h61⟩ := K65 hlt63
      refine C_skip_to (fun _ _ => rfl) ?_
      refine C_seq ?_
      refine C_block ?_
      refine C_seq ?_
      refine C_region ?_
      obtain ⟨x68, hx68, h60⟩ := Option.bind_eq_some_iff.1 h60
      refine V_indexAddr h37 hx68 Try.underlying34 Try.sizeOf22 rfl rfl rfl ?_
      intro b69 o70 h71
      obtain ⟨v72, h73, h74⟩ := El.list h71
      refine V_y (Y_load h73 Try.isAgg22 rfl) rfl rfl rfl ?_
      refine V_y (Y_assign rfl) rfl rfl rfl ?_
      refine V_to (fun _ _ => rfl) ?_
      refine C_seq ?_
      refine C_region ?_
      refine V_y (Y_move rfl) rfl rfl rfl ?_
      obtain ⟨x75, hx75, h60⟩ := Option.bind_eq_some_iff.1 h60
      refine V_call Try.call13 rfl rfl rfl rfl (portref2_SpansFault_c (Dw := Dw) w56 hA x68 v72 h74 hx75) ?_
      rintro _ w76 ⟨rfl, hk77⟩
      have ht78 := Kp.tr (Dw := Dw) hk77 hA hB
      replace hH := Hp.kp (Dw := Dw) hH hk77
      replace h8 := El.tr (Dw := Dw) h8 ht78
      replace h14 := El.tr (Dw := Dw) h14 ht78
      replace h23 := El.tr (Dw := Dw) h23 ht78
      replace h37 := Sl.tr (Dw := Dw) h37 ht78
      replace h74 := Sl.tr (Dw := Dw) h74 ht78
      replace hK := Tr.trans (Dw := Dw) hK ht78
      replace hr48 := Tr.trans (Dw := Dw) hr48 ht78
      replace hB := Nat.le_trans hB ht78.ex.size
      replace hA := ht78.new
      refine V_y (Y_assign rfl) rfl rfl rfl ?_
      refine V_to (fun _ _ => rfl) ?_
      refine C_seq ?_
      refine C_region ?_
      refine V_y (Y_move rfl) rfl rfl rfl ?_
      refine V_y (Y_neq rfl rfl) rfl rfl rfl ?_
      refine V_to (fun _ _ => rfl) ?_
      refine C_cond rfl (fun hc79 => ?_) (fun hc79 => ?_)
      · rw [if_pos hc79] at h60
        refine C_seq ?_
        refine C_region ?_
        refine V_y (Y_move rfl) rfl rfl rfl ?_
        refine V_y (Y_assign rfl) rfl rfl rfl ?_
        refine V_y (Y_assign rfl) rfl rfl rfl ?_
        refine V_to (fun _ _ => rfl) ?_
        obtain rfl := Option.some.inj h60
        obtain rfl := (h61 : Lp.rt _ = _)
        rw [Lp.andThen_rt] at hm
        obtain rfl := Option.some.inj hm
        replace hH : Hp w.heap.size A57 w76 (obS (α := cal_Span) 30 (.slice none 0 0) ([] : (List cal_Span)) :: []) := Hp.addNil (α := cal_Span) (e := 30) hH
        refine C_ret ?_
        try simp only [↓inBlock_ret, ↓then_ret]
        exact retQ rfl (Res.two Try.results7 rfl rfl) ⟨.slice none 0 0, rfl, (Hp.ownd hH (i := 0) rfl), hK.kp⟩
      · rw [if_neg (nt hc79)] at h60
        refine C_skip_to (fun _ _ => rfl) ?_
        refine C_region ?_
        refine V_y (Y_addI rfl rfl) rfl rfl rfl ?_
        refine V_y (Y_move rfl) rfl rfl rfl ?_
        obtain rfl := Option.some.inj h60
        refine V_end (fun a ha80 => ?_)
        exact ⟨(), hlt63, h61, ⟨A57, ha80.sub ⟨rfl, rfl, rfl, rfl, rfl, (congrArg (fun z => some (Value.int .i64 z)) (w64_succ hlt63 hn66)), trivial⟩, ⟨hH, hr48⟩⟩⟩
    · refine C_exit (fun a ha81 => ?_)
      exact ⟨((), A57), ha81.sub ⟨rfl, rfl, rfl, trivial⟩, ⟨(h64 (eq_of_dec hle62 hc67)).symm, hH, hr48⟩⟩
  rintro ⟨s47, A53⟩ w50 ⟨rfl, hH54, hk51⟩ a ha52
  rw [Lp.andThen_fin] at hm
  replace h8 := El.tr (Dw := Dw) h8 hk51
  replace h14 := El.tr (Dw := Dw) h14 hk51
  replace h23 := El.tr (Dw := Dw) h23 hk51
  replace hK := Tr.trans (Dw := Dw) hK hk51
  replace hB := Nat.le_trans hB hk51.ex.size
  replace hA := hk51.new
  replace hH : Hp w.heap.size A53 w50 ([]) := hH54
  refine C_at (n := ⟨35, [], none⟩) (fun _ _ => rfl) ?_ ha52
  refine C_seq ?_
  refine C_region ?_
  refine V_y (Y_makeFunc rfl rfl) rfl rfl rfl ?_
  obtain ⟨v83, h84, h85⟩ := El.list h14
  refine V_y (Y_load h84 Try.isAgg22 rfl) rfl rfl rfl ?_
  obtain ⟨v86, h87, h88⟩ := El.list h23
  refine V_y (Y_load h87 Try.isAgg22 rfl) rfl rfl rfl ?_
  refine V_buildSlice (Dw := Dw) (cells := #[v83, v86]) (l := ([a_, b] : List (List cal_Span))) (len := 2) Try.underlying34 Try.sizeOf22 Try.zeroValue22 rfl (by obtain ⟨a93, c94, e95, _⟩ := Sl.form h85; subst e95; obtain ⟨a96, c97, e98, _⟩ := Sl.form h88; subst e98; kernel_rfl) (show (2 * 1 : Nat) ≠ 0 by decide) (show (2 * 1 : Nat) ≤ 2 ^ 24 by decide) hA ⟨[v83], _, rfl, ⟨_, rfl, h85⟩, ⟨[v86], _, rfl, ⟨_, rfl, h88⟩, rfl⟩⟩ rfl rfl ?_
  intro v89 w90 hk92 h91
  have ht99 := Kp.tr (Dw := Dw) hk92 hA hB
  replace hH := Hp.kp (Dw := Dw) hH hk92
  replace h8 := El.tr (Dw := Dw) h8 ht99
  replace h14 := El.tr (Dw := Dw) h14 ht99
  replace h23 := El.tr (Dw := Dw) h23 ht99
  replace h85 := Sl.tr (Dw := Dw) h85 ht99
  replace h88 := Sl.tr (Dw := Dw) h88 ht99
  replace hK := Tr.trans (Dw := Dw) hK ht99
  replace hB := Nat.le_trans hB ht99.ex.size
  replace hA := ht99.new
  replace hH : Hp w.heap.size A53 w90 (obT :: []) := Hp.addT hH
  obtain ⟨x101, hx101, hm⟩ := Option.bind_eq_some_iff.1 hm
  refine V_call Try.call14 rfl rfl rfl rfl (portref2_merged_c (Dw := Dw) w90 hB hA (fun y104 => portref2_SetOf_1 y104 a_ b op) (obT) (.func (.func 15) #[] #[.pointer (some ⟨b11, 0, none⟩), .pointer (some ⟨b20, 0, none⟩), .pointer (some ⟨b5, 0, none⟩)]) rfl (fun w2 A2 L2 x2 r2 h1 h2 h3 h4 h5 => CallV.func Try.call15 rfl ((portref2_SetOf_1_c (Dw := Dw) w2 h2 x2 a_ b11 (El.tr (Dw := Dw) h14 h3) b b20 (El.tr (Dw := Dw) h23 h3) op b5 (El.tr (Dw := Dw) h8 h3) h5).mono fun _ w3 h => ⟨h.1, A2, Kp.tr (Dw := Dw) (h.2) h2 h1, Hp.kp (Dw := Dw) h4 (h.2)⟩)) ([a_, b] : List (List cal_Span)) v89 h91 hH hx101) ?_
  rintro v102 w105 ⟨_, A106, rfl, hH107, ht108⟩
  replace h8 := El.tr (Dw := Dw) h8 ht108
  replace h14 := El.tr (Dw := Dw) h14 ht108
  replace h23 := El.tr (Dw := Dw) h23 ht108
  replace h85 := Sl.tr (Dw := Dw) h85 ht108
  replace h88 := Sl.tr (Dw := Dw) h88 ht108
  replace h91 := Sl.tr (Dw := Dw) h91 ht108
  replace hK := Tr.trans (Dw := Dw) hK ht108
  replace hB := Nat.le_trans hB ht108.ex.size
  replace hA := ht108.new
  replace hH : Hp w.heap.size A106 w105 (obS (α := cal_Span) 30 v102 x101 :: obT :: []) := hH107
  refine V_y (Y_assign rfl) rfl rfl rfl ?_
  refine V_to (fun _ _ => rfl) ?_
  refine C_seq ?_
  refine C_seq ?_
  refine C_region ?_
  refine V_y (Y_move rfl) rfl rfl rfl ?_
  refine V_y (Y_lenSl (Hp.any (α := cal_Span) (e := 30) (v := v102) (l := x101) hH (i := 0) rfl) rfl Try.underlying22 rfl) rfl rfl rfl ?_
  refine V_y (Y_gtr rfl rfl) rfl rfl rfl ?_
  refine V_to (fun _ _ => rfl) ?_
  refine C_cond rfl (fun hc109 => ?_) (fun hc109 => ?_)
  · rw [if_pos hc109] at hm
    refine C_seq ?_
    refine C_region ?_
    refine V_y (Y_assign rfl) rfl rfl rfl ?_
    refine V_y (Y_assign rfl) rfl rfl rfl ?_
    refine V_to (fun _ _ => rfl) ?_
    obtain rfl := Option.some.inj hm
    replace hH : Hp w.heap.size A106 w105 (obS (α := cal_Span) 30 (.slice none 0 0) ([] : (List cal_Span)) :: obS (α := cal_Span) 30 v102 x101 :: obT :: []) := Hp.addNil (α := cal_Span) (e := 30) hH
    refine C_ret ?_
    try simp only [↓inBlock_ret, ↓then_ret]
    exact retQ rfl (Res.two Try.results7 rfl rfl) ⟨.slice none 0 0, rfl, (Hp.ownd hH (i := 0) rfl), hK.kp⟩
  · rw [if_neg (nt hc109)] at hm
    refine C_skip_to (fun _ _ => rfl) ?_
    refine C_seq ?_
    refine C_region ?_
    refine V_y (Y_move rfl) rfl rfl rfl ?_
    refine V_y (Y_assign rfl) rfl rfl rfl ?_
    refine V_y (Y_assign rfl) rfl rfl rfl ?_
    refine V_to (fun _ _ => rfl) ?_
    obtain rfl := Option.some.inj hm
    refine C_ret ?_
    try simp only [↓inBlock_ret, ↓then_ret]
    exact retQ rfl (Res.two Try.results7 rfl rfl) ⟨v102, rfl, (Hp.ownd hH (i := 0) rfl), hK.kp⟩

set_option maxRecDepth 4000 in
set_option maxHeartbeats 4000000 in
theorem slices_Equal_Lcal_Span_cal_Span_c (w : World) {A : Nat → Prop} (hA : ∀ b, w.heap.size ≤ b → A b) (s1 : (List cal_Span)) (v_s1 : Value) (h_s1 : Sl A w v_s1 s1) (s2 : (List cal_Span)) (v_s2 : Value) (h_s2 : Sl A w v_s2 s2) {r : Bool} (hm : slices_Equal_Lcal_Span_cal_Span s1 s2 = some r) : Ret Try.prog 8 #[v_s1, v_s2] w fun v w' => v = .bool r ∧ Kp Dw w w' := by
  unfold slices_Equal_Lcal_Span_cal_Span at hm
  refine enter Try.func8 rfl Try.ntmps8 rfl ?_
  have hA0 := hA
  have hB := Nat.le_refl w.heap.size
  have hK : Tr Dw w.heap.size A w A w := Tr.refl (Dw := Dw) hA
  have hH : Hp w.heap.size A w [] := Hp.nil
  refine C_seq ?_
  refine C_region ?_
  refine V_y (Y_assign rfl) rfl rfl rfl ?_
  refine V_to (fun _ _ => rfl) ?_
  refine C_seq ?_
  refine C_seq ?_
  refine C_region ?_
  refine V_y (Y_move rfl) rfl rfl rfl ?_
  refine V_y (Y_lenSl h_s1 rfl Try.underlying22 rfl) rfl rfl rfl ?_
  refine V_y (Y_move rfl) rfl rfl rfl ?_
  refine V_y (Y_lenSl h_s2 rfl Try.underlying22 rfl) rfl rfl rfl ?_
  refine V_y (Y_neq rfl rfl) rfl rfl rfl ?_
  refine V_to (fun _ _ => rfl) ?_
  refine C_cond rfl (fun hc5 => ?_) (fun hc5 => ?_)
  · rw [if_pos hc5] at hm
    refine C_seq ?_
    refine C_region ?_
    refine V_y (Y_assign rfl) rfl rfl rfl ?_
    refine V_to (fun _ _ => rfl) ?_
    obtain rfl := Option.some.inj hm
    refine C_ret ?_
    try simp only [↓inBlock_ret, ↓then_ret]
    exact retQ rfl (Res.one Try.results8 rfl) ⟨rfl, hK.kp⟩
  · rw [if_neg (nt hc5)] at hm
    refine C_skip_to (fun _ _ => rfl) ?_
    refine C_seq ?_
    refine C_seq ?_
    refine C_region ?_
    refine V_y (Y_move rfl) rfl rfl rfl ?_
    refine V_y (Y_lenSl h_s1 rfl Try.underlying22 rfl) rfl rfl rfl ?_
    refine V_y (Y_move rfl) rfl rfl rfl ?_
    refine V_to (fun _ _ => rfl) ?_
    have hn27 := Sl.le h_s1
    obtain ⟨o6, ho6, hm⟩ := Option.bind_eq_some_iff.1 hm
    refine C_cutG (ι := (Unit × (Nat → Prop))) (fun ⟨s7, A13⟩ => []) (fun ⟨s7, A13⟩ => fun w' => o6 = .fin s7 ∧ Hp w.heap.size A13 w' ([]) ∧ Tr Dw w.heap.size A w A13 w') ?_ ?_
    · refine C_block ?_
      refine C_range ho6 (fun k9 _ a w' => ∃ i : (Nat → Prop), Has ⟨26, [], none⟩ a ([(0, v_s1), (1, v_s2), (12, .int .i64 (s1.length : Int)), (13, .int .i64 (k9 : Int))]) ∧ Hp w.heap.size i w' ([]) ∧ Tr Dw w.heap.size A w i w') (fun a ha => ⟨A, ha.sub ⟨rfl, rfl, rfl, rfl, trivial⟩, ⟨hH, Tr.refl (Dw := Dw) hA⟩⟩) ?_
      rintro K k9 _ a w17 ⟨A18, ha45, hH19, hr8⟩ hle23 K26 h25
      refine C_of ?_ ha45
      replace h_s1 := Sl.tr (Dw := Dw) h_s1 hr8
      replace h_s2 := Sl.tr (Dw := Dw) h_s2 hr8
      replace hK := Tr.trans (Dw := Dw) hK hr8
      replace hB := Nat.le_trans hB hr8.ex.size
      replace hA := hr8.new
      replace hH : Hp w.heap.size A18 w17 ([]) := hH19
      refine C_seq (C_region (V_y (Y_lss rfl rfl) rfl rfl rfl (V_to (fun _ _ => rfl) ?_)))
      refine C_seq ?_
      refine C_cond rfl (fun hc28 => ?_) (fun hc28 => ?_)
      · have hlt24 := lt_of_dec hc28
        obtain ⟨x20, h21, h22⟩ := K26 hlt24
        refine C_skip_to (fun _ _ => rfl) ?_
        refine C_seq ?_
        refine C_block ?_
        refine C_seq ?_
        refine C_region ?_
        refine V_y (Y_move rfl) rfl rfl rfl ?_
        refine V_y (Y_assign rfl) rfl rfl rfl ?_
        refine V_to (fun _ _ => rfl) ?_
        refine C_seq ?_
        refine C_region_q (Dw := Dw) Try_mixed (by kernel_rfl) ?_
        refine VQ_y (fun w' hw' => Y_move rfl) rfl rfl rfl ?_
        refine VQ_y (fun w' hw' => Y_move rfl) rfl rfl rfl ?_
        obtain ⟨x29, hx29, h21⟩ := Option.bind_eq_some_iff.1 h21
        refine VQ_indexAddr h_s1 hx29 Try.underlying22 Try.sizeOf30 rfl rfl rfl ?_
        intro b30 o31 h32
        obtain ⟨h33, _⟩ := El_cal_Span h32
        refine VQ_y (fun w' hw' => Y_loadA (At.kp (Dw := Dw) h33 hw' h32.2.1) Try.isAgg30 Try.sizeOf30 rfl) rfl rfl rfl ?_
        refine VQ_y (fun w' hw' => Y_move rfl) rfl rfl rfl ?_
        refine VQ_y (fun w' hw' => Y_move rfl) rfl rfl rfl ?_
        obtain ⟨x34, hx34, h21⟩ := Option.bind_eq_some_iff.1 h21
        refine VQ_indexAddr h_s2 hx34 Try.underlying22 Try.sizeOf30 rfl rfl rfl ?_
        intro b35 o36 h37
        obtain ⟨h38, _⟩ := El_cal_Span h37
        refine VQ_y (fun w' hw' => Y_loadA (At.kp (Dw := Dw) h38 hw' h37.2.1) Try.isAgg30 Try.sizeOf30 rfl) rfl rfl rfl ?_
        refine VQ_y (fun w' hw' => Y_neqA (fun w => Try_eqt30_10000 x29.from_ x29.to_ x34.from_ x34.to_ w) Try_eqg30 rfl rfl) rfl rfl rfl ?_
        refine VQ_to (fun _ _ => rfl) (fun w39 hk40 => ?_)
        have ht41 := Kp.tr (Dw := Dw) hk40 hA hB
        replace hH := Hp.kp (Dw := Dw) hH hk40
        replace h_s1 := Sl.tr (Dw := Dw) h_s1 ht41
        replace h_s2 := Sl.tr (Dw := Dw) h_s2 ht41
        replace hK := Tr.trans (Dw := Dw) hK ht41
        replace hr8 := Tr.trans (Dw := Dw) hr8 ht41
        replace hB := Nat.le_trans hB ht41.ex.size
        replace hA := ht41.new
        refine C_cond rfl (fun hc42 => ?_) (fun hc42 => ?_)
        · rw [if_pos hc42] at h21
          refine C_seq ?_
          refine C_region ?_
          refine V_y (Y_assign rfl) rfl rfl rfl ?_
          refine V_to (fun _ _ => rfl) ?_
          obtain rfl := Option.some.inj h21
          obtain rfl := (h22 : Lp.rt _ = _)
          rw [Lp.andThen_rt] at hm
          obtain rfl := Option.some.inj hm
          refine C_ret ?_
          try simp only [↓inBlock_ret, ↓then_ret]
          exact retQ rfl (Res.one Try.results8 rfl) ⟨rfl, hK.kp⟩
        · rw [if_neg (nt hc42)] at h21
          refine C_skip_to (fun _ _ => rfl) ?_
          refine C_region ?_
          refine V_y (Y_addI rfl rfl) rfl rfl rfl ?_
          refine V_y (Y_move rfl) rfl rfl rfl ?_
          obtain rfl := Option.some.inj h21
          refine V_end (fun a ha43 => ?_)
          exact ⟨(), hlt24, h22, ⟨A18, ha43.sub ⟨rfl, rfl, rfl, (congrArg (fun z => some (Value.int .i64 z)) (w64_succ hlt24 hn27)), trivial⟩, ⟨hH, hr8⟩⟩⟩
      · refine C_exit (fun a ha44 => ?_)
        exact ⟨((), A18), ha44.sub trivial, ⟨(h25 (eq_of_dec hle23 hc28)).symm, hH, hr8⟩⟩
    rintro ⟨s7, A13⟩ w10 ⟨rfl, hH14, hk11⟩ a ha12
    rw [Lp.andThen_fin] at hm
    replace hK := Tr.trans (Dw := Dw) hK hk11
    replace hB := Nat.le_trans hB hk11.ex.size
    replace hA := hk11.new
    replace hH : Hp w.heap.size A13 w10 ([]) := hH14
    refine C_at (n := ⟨26, [], none⟩) (fun _ _ => rfl) ?_ ha12
    refine C_seq ?_
    refine C_region ?_
    refine V_y (Y_assign rfl) rfl rfl rfl ?_
    refine V_to (fun _ _ => rfl) ?_
    obtain rfl := Option.some.inj hm
    refine C_ret ?_
    try simp only [↓inBlock_ret, ↓then_ret]
    exact retQ rfl (Res.one Try.results8 rfl) ⟨rfl, hK.kp⟩

theorem setsOk_some {x y : (List cal_Span) × Int} {u : Unit} (h : setsOk x y = some u) : (x.2 == y.2) = true ∧ slices_Equal_Lcal_Span_cal_Span x.1 y.1 = some true := by
  unfold setsOk at h
  split at h
  case isFalse => cases h
  rename_i hq
  refine ⟨hq, ?_⟩
  obtain ⟨q, h1, h2⟩ := Option.bind_eq_some_iff.1 h
  split at h2
  case isFalse => cases h2
  rename_i h3
  rw [h1, h3]
/-- an entry of the law's map: a name and an operation that answers as the reference does under this name -/
def SetsEntry (Dw : Prop) (a_ b : List cal_Span) (e : MapEntry) : Prop :=
  ∃ (nm : ByteArray) (g : FuncId) (x y : (List cal_Span) × Int), e.key = .string nm ∧ e.val = .func (.func g) #[] #[] ∧ (∀ (args : Array Value) (w : World), (callFunc g args).run Try.prog w = .ok (.enter g args) w) ∧
    (∀ (w : World) (A : Nat → Prop) (hA : ∀ b, w.heap.size ≤ b → A b) (v_a_ : Value) (h_a_ : Sl A w v_a_ a_) (v_b : Value) (h_b : Sl A w v_b b), Ret Try.prog g #[v_a_, v_b] w fun v w' => ∃ s0, v = .tuple #[s0, .int .i64 x.2] ∧ Sl A w' s0 x.1 ∧ Kp Dw w w') ∧
    portref2_SetOf nm a_ b = some y ∧ (x.2 == y.2) = true ∧ slices_Equal_Lcal_Span_cal_Span x.1 y.1 = some true
def setsMap : Array MapEntry := #[{ key := .string ⟨#[117, 110, 105, 111, 110]⟩, val := .func (.func 4) #[] #[], born := 0 }, { key := .string ⟨#[109, 101, 101, 116]⟩, val := .func (.func 5) #[] #[], born := 1 }, { key := .string ⟨#[109, 105, 110, 117, 115]⟩, val := .func (.func 6) #[] #[], born := 2 }]
theorem sets_entries {a_ b : List cal_Span} {r : Bool} (hm : portlaw2_CalSets a_ b = some r) : r = true ∧ ∀ e ∈ setsMap.toList, SetsEntry Dw a_ b e := by
  unfold portlaw2_CalSets at hm
  obtain ⟨x1, hx1, hm⟩ := Option.bind_eq_some_iff.1 hm
  obtain ⟨y1, hy1, hm⟩ := Option.bind_eq_some_iff.1 hm
  obtain ⟨u1, hu1, hm⟩ := Option.bind_eq_some_iff.1 hm
  obtain ⟨x2, hx2, hm⟩ := Option.bind_eq_some_iff.1 hm
  obtain ⟨y2, hy2, hm⟩ := Option.bind_eq_some_iff.1 hm
  obtain ⟨u2, hu2, hm⟩ := Option.bind_eq_some_iff.1 hm
  obtain ⟨x3, hx3, hm⟩ := Option.bind_eq_some_iff.1 hm
  obtain ⟨y3, hy3, hm⟩ := Option.bind_eq_some_iff.1 hm
  obtain ⟨u3, hu3, hm⟩ := Option.bind_eq_some_iff.1 hm
  refine ⟨(Option.some.inj hm).symm, fun e he => ?_⟩
  simp only [setsMap, List.mem_cons, List.not_mem_nil, or_false] at he
  rcases he with rfl | rfl | rfl
  · exact ⟨_, _, x1, y1, rfl, rfl, Try.call4, fun w A hA v_a_ h_a_ v_b h_b => cal_Union_c (Dw := Dw) w hA a_ v_a_ h_a_ b v_b h_b hx1, hy1, setsOk_some hu1⟩
  · exact ⟨_, _, x2, y2, rfl, rfl, Try.call5, fun w A hA v_a_ h_a_ v_b h_b => cal_Meet_c (Dw := Dw) w hA a_ v_a_ h_a_ b v_b h_b hx2, hy2, setsOk_some hu2⟩
  · exact ⟨_, _, x3, y3, rfl, rfl, Try.call6, fun w A hA v_a_ h_a_ v_b h_b => cal_Minus_c (Dw := Dw) w hA a_ v_a_ h_a_ b v_b h_b hx3, hy3, setsOk_some hu3⟩
theorem portlaw2_CalSets_c (w : World) {A : Nat → Prop} (hA : ∀ b, w.heap.size ≤ b → A b) (a_ : (List cal_Span)) (v_a_ : Value) (h_a_ : Sl A w v_a_ a_) (b : (List cal_Span)) (v_b : Value) (h_b : Sl A w v_b b) {r : Bool} (hm : portlaw2_CalSets a_ b = some r) : Ret Try.prog 3 #[v_a_, v_b] w fun v w' => v = .bool r ∧ Kp Dw w w' := by
  obtain ⟨rfl, hent⟩ := sets_entries (Dw := Dw) hm
  refine enter Try.func3 rfl Try.ntmps3 rfl ?_
  have hB := Nat.le_refl w.heap.size
  have hK : Tr Dw w.heap.size A w A w := Tr.refl (Dw := Dw) hA
  have hH : Hp w.heap.size A w [] := Hp.nil
  refine C_seq ?_
  refine C_region ?_
  refine V_y (Y_assign rfl) rfl rfl rfl ?_
  refine V_to (fun _ _ => rfl) ?_
  refine C_seq ?_
  refine C_seq ?_
  refine C_region ?_
  refine V_makeMapE (Dw := Dw) hH hB hA rfl ?_
  intro mb w1 A1 hH1 ht1
  replace hK := Tr.trans (Dw := Dw) hK ht1
  replace hB := Nat.le_trans hB ht1.ex.size
  replace hA := ht1.new
  refine V_insertE (Dw := Dw) (κ := ByteArray) (k := ⟨#[117, 110, 105, 111, 110]⟩) hH1 (i := 0) rfl (by intro e he; cases he) Try.underlying24 Try.underlying9 rfl rfl rfl hB hA ?_
  intro w2 hH2 ht2
  replace hK := Tr.trans (Dw := Dw) hK ht2
  replace hB := Nat.le_trans hB ht2.ex.size
  replace hA := ht2.new
  refine V_insertE (Dw := Dw) (κ := ByteArray) (k := ⟨#[109, 101, 101, 116]⟩) hH2 (i := 0) rfl (by
    intro e he
    simp at he
    subst he
    exact ⟨_, rfl, by decide⟩) Try.underlying24 Try.underlying9 rfl rfl rfl hB hA ?_
  intro w3 hH3 ht3
  replace hK := Tr.trans (Dw := Dw) hK ht3
  replace hB := Nat.le_trans hB ht3.ex.size
  replace hA := ht3.new
  refine V_insertE (Dw := Dw) (κ := ByteArray) (k := ⟨#[109, 105, 110, 117, 115]⟩) hH3 (i := 0) rfl (by
    intro e he
    simp at he
    rcases he with rfl | rfl
    · exact ⟨_, rfl, by decide⟩
    · exact ⟨_, rfl, by decide⟩) Try.underlying24 Try.underlying9 rfl rfl rfl hB hA ?_
  intro w4 hH4 ht4
  replace hK := Tr.trans (Dw := Dw) hK ht4
  replace hB := Nat.le_trans hB ht4.ex.size
  replace hA := ht4.new
  replace hH4 : Hp w.heap.size A1 w4 [obO mb (.map setsMap 3)] := hH4
  refine V_y (Y_move rfl) rfl rfl rfl ?_
  refine V_rangeE (Dw := Dw) hH4 (i := 0) rfl Try.underlying24 rfl hB hA rfl ?_
  intro rb w5 A5 hH5 ht5
  replace hK := Tr.trans (Dw := Dw) hK ht5
  replace hB := Nat.le_trans hB ht5.ex.size
  replace hA := ht5.new
  refine V_to (fun _ _ => rfl) ?_
  refine C_cutG (ι := Unit) (fun _ => []) (fun _ => fun w' => ∃ A', Tr Dw w.heap.size A w A' w') ?_ ?_
  · refine C_block ?_
    refine C_loop (fun m a w' => ∃ (A' : Nat → Prop) (seen : Array Nat) (c0 : Nat), m = (leftOf setsMap seen).size ∧ 3 ≤ c0 ∧ Has ⟨42, [], none⟩ a [(0, v_a_), (1, v_b), (13, .pointer (some ⟨rb, 0, none⟩))] ∧ Hp w.heap.size A' w' [obO rb (.mapIter (some mb) 3 seen c0), obO mb (.map setsMap 3)] ∧ Tr Dw w.heap.size A w A' w') _ (fun a ha => ⟨A5, #[], 3, rfl, Nat.le_refl _, ha.sub ⟨rfl, rfl, rfl, trivial⟩, hH5, hK⟩) ?_
    rintro m a w6 ⟨A6, seen, c0, rfl, hc0, ha, hH, hK⟩
    clear hA hB
    have hB : w.heap.size ≤ w6.heap.size := hK.ex.size
    have hA := hK.new
    refine C_of ?_ ha
    refine C_seq ?_
    refine C_region ?_
    refine V_nextE (Dw := Dw) hH (i := 1) (j := 0) rfl rfl rfl (by decide) hc0 hB hA rfl ?_ ?_
    · intro h0
      refine V_y (Y_extract rfl rfl) rfl rfl rfl ?_
      refine V_to (fun _ _ => rfl) ?_
      refine C_seq ?_
      refine C_false rfl ?_
      refine C_exit (fun a ha => ?_)
      exact ⟨(), ha.sub trivial, A6, hK⟩
    · intro e w7 he hH7 ht7
      replace hK := Tr.trans (Dw := Dw) hK ht7
      replace hB := Nat.le_trans hB ht7.ex.size
      replace hA := ht7.new
      obtain ⟨nm, g, x, y, hkey, hval, hcall, hop, hset, heq, hsame⟩ := hent e (mem_left he).1
      refine V_y (Y_extract rfl rfl) rfl rfl rfl ?_
      refine V_to (fun _ _ => rfl) ?_
      refine C_seq ?_
      refine C_true rfl ?_
      refine C_skip_to (fun _ _ => rfl) ?_
      refine C_block ?_
      refine C_seq ?_
      refine C_region ?_
      refine V_y (Y_entryE (e := e) hH7 (i := 1) (j := 0) rfl rfl rfl (mem_left he).1 (by decide)) rfl rfl rfl ?_
      rw [hkey, hval]
      refine V_y (Y_extract rfl rfl) rfl rfl rfl ?_
      refine V_y (Y_extract rfl rfl) rfl rfl rfl ?_
      refine V_y (Y_assign rfl) rfl rfl rfl ?_
      refine V_y (Y_assign rfl) rfl rfl rfl ?_
      refine V_to (fun _ _ => rfl) ?_
      refine C_seq ?_
      refine C_region ?_
      refine V_y (Y_move rfl) rfl rfl rfl ?_
      refine V_y (Y_move rfl) rfl rfl rfl ?_
      refine V_y (Y_move rfl) rfl rfl rfl ?_
      have h_a1 := Sl.tr (Dw := Dw) h_a_ hK
      have h_b1 := Sl.tr (Dw := Dw) h_b hK
      refine V_call hcall rfl rfl rfl rfl (hop w7 A6 hA v_a_ h_a1 v_b h_b1) ?_
      rintro _ w8 ⟨v8, rfl, h8, hk8⟩
      have ht8 := Kp.tr (Dw := Dw) hk8 hA hB
      replace hH := Hp.kp (Dw := Dw) hH7 hk8
      replace h_a1 := Sl.tr (Dw := Dw) h_a1 ht8
      replace h_b1 := Sl.tr (Dw := Dw) h_b1 ht8
      replace hK := Tr.trans (Dw := Dw) hK ht8
      replace hB := Nat.le_trans hB ht8.ex.size
      replace hA := ht8.new
      refine V_y (Y_move rfl) rfl rfl rfl ?_
      refine V_y (Y_extract rfl rfl) rfl rfl rfl ?_
      refine V_y (Y_extract rfl rfl) rfl rfl rfl ?_
      refine V_y (Y_assign rfl) rfl rfl rfl ?_
      refine V_y (Y_assign rfl) rfl rfl rfl ?_
      refine V_to (fun _ _ => rfl) ?_
      refine C_seq ?_
      refine C_region ?_
      refine V_y (Y_move rfl) rfl rfl rfl ?_
      refine V_y (Y_move rfl) rfl rfl rfl ?_
      refine V_y (Y_move rfl) rfl rfl rfl ?_
      refine V_call Try.call7 rfl rfl rfl rfl (portref2_SetOf_c (Dw := Dw) w8 hA nm a_ v_a_ h_a1 b v_b h_b1 hset) ?_
      rintro _ w9 ⟨v9, rfl, h9, hk9⟩
      obtain ⟨A9, ht9, hH9⟩ := Hp.addOwnd (Dw := Dw) hH hB hA hk9 h9
      replace h8 := Sl.tr (Dw := Dw) h8 ht9
      replace hK := Tr.trans (Dw := Dw) hK ht9
      replace hB := Nat.le_trans hB ht9.ex.size
      replace hA := ht9.new
      refine V_y (Y_move rfl) rfl rfl rfl ?_
      refine V_y (Y_extract rfl rfl) rfl rfl rfl ?_
      refine V_y (Y_extract rfl rfl) rfl rfl rfl ?_
      refine V_y (Y_assign rfl) rfl rfl rfl ?_
      refine V_y (Y_assign rfl) rfl rfl rfl ?_
      refine V_to (fun _ _ => rfl) ?_
      refine C_seq ?_
      refine C_region ?_
      have hc : (x.2 != y.2) = false := by rw [bne, heq]; rfl
      refine V_y (Y_move rfl) rfl rfl rfl ?_
      refine V_y (Y_move rfl) rfl rfl rfl ?_
      refine V_y (Y_neq rfl rfl) rfl rfl rfl ?_
      refine V_y (Y_move rfl) rfl rfl rfl ?_
      refine V_ge rfl rfl rfl hc ?_
      refine V_y (Y_move rfl) rfl rfl rfl ?_
      refine V_ge rfl rfl rfl hc ?_
      refine V_y (Y_move rfl) rfl rfl rfl ?_
      refine V_ge rfl rfl rfl hc ?_
      refine V_call Try.call8 rfl rfl rfl rfl (slices_Equal_Lcal_Span_cal_Span_c (Dw := Dw) w9 (A := fun _ => True) (fun _ _ => trivial) x.1 v8 (Sl.any h8) y.1 v9 (Hp.any (α := cal_Span) (e := 30) (v := v9) (l := y.1) hH9 (i := 0) rfl) hsame) ?_
      rintro _ w10 ⟨rfl, hk10⟩
      have ht10 := Kp.tr (Dw := Dw) hk10 hA hB
      replace hH := Hp.kp (Dw := Dw) hH9 hk10
      replace hK := Tr.trans (Dw := Dw) hK ht10
      refine V_ge rfl rfl rfl hc ?_
      refine V_y (Y_not rfl) rfl rfl rfl ?_
      refine V_y (Y_pick_fe rfl hc rfl) rfl rfl rfl ?_
      refine V_to (fun _ _ => rfl) ?_
      refine C_false rfl ?_
      refine C_skip (fun a ha => ?_)
      exact ⟨_, left_shrinks setsMap seen e he, A9, seen.push e.born, 3, rfl, Nat.le_refl _, ha.sub ⟨rfl, rfl, rfl, trivial⟩, Hp.drop (i := 0) hH rfl, hK⟩
  rintro ⟨⟩ w10 ⟨A10, hk11⟩ a ha12
  refine C_at (n := ⟨42, [], none⟩) (fun _ _ => rfl) ?_ ha12
  refine C_seq ?_
  refine C_region ?_
  refine V_y (Y_assign rfl) rfl rfl rfl ?_
  refine V_to (fun _ _ => rfl) ?_
  refine C_ret ?_
  try simp only [↓inBlock_ret, ↓then_ret]
  exact retQ rfl (Res.one Try.results3 rfl) ⟨rfl, hk11.kp⟩

end Go.Proofs.Ytcebkcahemiaoaa.W
