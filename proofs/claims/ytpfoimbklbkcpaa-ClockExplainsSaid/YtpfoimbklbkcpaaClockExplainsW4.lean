/-
  Written by program (gen.py) from the IR of the dump: each function computes its model.
-/
import Derived.Test.YtpfoimbklbkcpaaClockExplainsW3
namespace Go.Proofs.Ytpfoimbklbkcpaa.W
open Go Go.RowKit Go.Pu Go.Gw Go.Proofs Go.Proofs.Ytpfoimbklbkcpaa.M
set_option linter.unusedVariables false
set_option linter.unusedSimpArgs false

set_option maxRecDepth 4000 in
set_option maxHeartbeats 4000000 in
theorem portref2_ExplainOf_c (w : World) {A : Nat → Prop} (hA : ∀ b, w.heap.size ≤ b → A b) (c : level_Clock) (v_c : Value) (h_c : Sl A w v_c c.pieces) (cals : (List cal_Calendar)) (v_cals : Value) (h_cals : Sl A w v_cals cals) (m : Int) {r : ((List level_Part) × Int)} (hm : portref2_ExplainOf c cals m = some r) : Ret Try.prog 20 #[.agg #[.int .i64 c.kind, .int .i64 c.level, .int .i64 c.minutes, .int .i64 c.start, .int .i64 c.stop, .int .i64 c.end_, v_c], v_cals, .int .i64 m] w fun v w' => ∃ s0, v = .tuple #[s0, .int .i64 r.2] ∧ Ownd 50 w w' s0 r.1 ∧ Kp w w' := by
  unfold portref2_ExplainOf at hm
  refine enter Try.func20 rfl Try.ntmps20 rfl ?_
  have hA0 := hA
  have hB := Nat.le_refl w.heap.size
  have hK : Tr w.heap.size A w A w := Tr.refl hA
  have hH : Hp w.heap.size A w [] := Hp.nil
  refine C_seq ?_
  refine C_region ?_
  refine V_box rfl rfl ?_
  intro b5 w6 h7
  have hk9 := h7.kp
  have h8 : El (α := level_Clock) A w6 b5 0 c := h7.el hA ⟨[.int .i64 c.kind], _, rfl, rfl, ⟨[.int .i64 c.level], _, rfl, rfl, ⟨[.int .i64 c.minutes], _, rfl, rfl, ⟨[.int .i64 c.start], _, rfl, rfl, ⟨[.int .i64 c.stop], _, rfl, rfl, ⟨[.int .i64 c.end_], _, rfl, rfl, ⟨_, rfl, h_c⟩⟩⟩⟩⟩⟩⟩
  have ht10 := Kp.tr hk9 hA hB
  replace hH := Hp.kp hH hk9
  replace h_c := Sl.tr h_c ht10
  replace h_cals := Sl.tr h_cals ht10
  replace hK := Tr.trans hK ht10
  replace hB := Nat.le_trans hB ht10.ex.size
  replace hA := ht10.new
  refine V_y (Y_assign rfl) rfl rfl rfl ?_
  refine V_y (Y_assign rfl) rfl rfl rfl ?_
  refine V_to (fun _ _ => rfl) ?_
  refine C_seq ?_
  refine C_seq ?_
  refine C_region ?_
  obtain ⟨v11, h13, h12⟩ := El_level_Clock h8
  refine V_y (Y_loadA h13 Try.isAgg35 Try.sizeOf35 rfl) rfl rfl rfl ?_
  refine V_buildSlice (l := ([c] : List level_Clock)) (len := 1) Try.underlying56 Try.sizeOf35 Try.zeroValue35 rfl (by with_unfolding_all rfl) (by decide) (by decide) hA ⟨[.int .i64 c.kind, .int .i64 c.level, .int .i64 c.minutes, .int .i64 c.start, .int .i64 c.stop, .int .i64 c.end_, v11], _, rfl, ⟨[.int .i64 c.kind], _, rfl, rfl, ⟨[.int .i64 c.level], _, rfl, rfl, ⟨[.int .i64 c.minutes], _, rfl, rfl, ⟨[.int .i64 c.start], _, rfl, rfl, ⟨[.int .i64 c.stop], _, rfl, rfl, ⟨[.int .i64 c.end_], _, rfl, rfl, ⟨_, rfl, h12⟩⟩⟩⟩⟩⟩⟩, rfl⟩ rfl rfl ?_
  intro v14 w15 hk17 h16
  have ht18 := Kp.tr hk17 hA hB
  replace hH := Hp.kp hH hk17
  replace h_cals := Sl.tr h_cals ht18
  replace h8 := El.tr h8 ht18
  replace h12 := Sl.tr h12 ht18
  replace hK := Tr.trans hK ht18
  replace hB := Nat.le_trans hB ht18.ex.size
  replace hA := ht18.new
  refine V_y (Y_move rfl) rfl rfl rfl ?_
  obtain ⟨x19, hx19, hm⟩ := Option.bind_eq_some_iff.1 hm
  refine V_call Try.call40 rfl rfl rfl rfl (portref2_clocksFault_c w15 hA ([c] : List level_Clock) v14 h16 cals v_cals h_cals hx19) ?_
  rintro _ w20 ⟨rfl, hk21⟩
  have ht22 := Kp.tr hk21 hA hB
  replace hH := Hp.kp hH hk21
  replace h_cals := Sl.tr h_cals ht22
  replace h8 := El.tr h8 ht22
  replace h12 := Sl.tr h12 ht22
  replace h16 := Sl.tr h16 ht22
  replace hK := Tr.trans hK ht22
  replace hB := Nat.le_trans hB ht22.ex.size
  replace hA := ht22.new
  refine V_y (Y_assign rfl) rfl rfl rfl ?_
  refine V_to (fun _ _ => rfl) ?_
  refine C_seq ?_
  refine C_region ?_
  refine V_y (Y_move rfl) rfl rfl rfl ?_
  refine V_y (Y_neq rfl rfl) rfl rfl rfl ?_
  refine V_to (fun _ _ => rfl) ?_
  refine C_cond rfl (fun hc23 => ?_) (fun hc23 => ?_)
  · rw [if_pos hc23] at hm
    refine C_seq ?_
    refine C_region ?_
    refine V_y (Y_move rfl) rfl rfl rfl ?_
    refine V_y (Y_assign rfl) rfl rfl rfl ?_
    refine V_y (Y_assign rfl) rfl rfl rfl ?_
    refine V_to (fun _ _ => rfl) ?_
    obtain rfl := Option.some.inj hm
    replace hH : Hp w.heap.size A w20 (obS (α := level_Part) 50 (.slice none 0 0) ([] : (List level_Part)) :: []) := Hp.addNil (α := level_Part) (e := 50) hH
    refine C_ret ?_
    try simp only [↓inBlock_ret, ↓then_ret]
    exact retQ rfl (Res.two Try.results20 rfl rfl) ⟨.slice none 0 0, rfl, (Hp.ownd hH (i := 0) rfl), hK.kp⟩
  · rw [if_neg (nt hc23)] at hm
    refine C_skip_to (fun _ _ => rfl) ?_
    refine C_seq ?_
    refine C_seq ?_
    refine C_region ?_
    refine V_y (Y_move rfl) rfl rfl rfl ?_
    refine V_call Try.call33 rfl rfl rfl rfl (portref2_IsMoment_c w20 m) ?_
    rintro _ _ ⟨rfl, rfl⟩
    refine V_y (Y_not rfl) rfl rfl rfl ?_
    refine V_y (Y_move rfl) rfl rfl rfl ?_
    refine V_cut 5 (fun _ : Unit => [(1, v_cals), (2, .int .i64 m), (3, .pointer (some ⟨b5, 0, none⟩)), (31, .bool ((!(portref2_IsMoment m)) || (decide (m < c.start))))]) (fun _ w' => w20 = w') ?_ ?_
    · simp only [List.take, List.drop]
      rcases Bool.eq_false_or_eq_true (!(portref2_IsMoment m)) with hc24 | hc24
      · refine V_gn rfl rfl rfl hc24 rfl rfl rfl ?_
        refine V_gn rfl rfl rfl hc24 rfl rfl rfl ?_
        refine V_gn rfl rfl rfl hc24 rfl rfl rfl ?_
        refine V_gn rfl rfl rfl hc24 rfl rfl rfl ?_
        refine V_y (Y_pick_te rfl hc24 rfl) rfl rfl rfl ?_
        exact V_end fun a ha => ⟨(), ha.sub ⟨rfl, rfl, rfl, (by rw [hc24]; rfl), trivial⟩, rfl⟩
      · refine V_ge rfl rfl rfl hc24 ?_
        refine V_y (Y_move rfl) rfl rfl rfl ?_
        refine V_ge rfl rfl rfl hc24 ?_
        have h26 := El_level_Clock_3 h8
        refine V_y (Y_fieldAddr Try.underlying35 rfl Try.sizeOf3 (by decide) rfl) rfl rfl rfl ?_
        refine V_ge rfl rfl rfl hc24 ?_
        refine V_y (Y_load (El.int h26) Try.isAgg3 rfl) rfl rfl rfl ?_
        refine V_ge rfl rfl rfl hc24 ?_
        refine V_y (Y_lss rfl rfl) rfl rfl rfl ?_
        refine V_y (Y_pick_fe rfl hc24 rfl) rfl rfl rfl ?_
        exact V_end fun a ha => ⟨(), ha.sub ⟨rfl, rfl, rfl, (by rw [hc24]; rfl), trivial⟩, rfl⟩
    simp only [List.take, List.drop]
    rintro _ _ rfl
    refine V_to (fun _ _ => rfl) ?_
    refine C_cond rfl (fun hc27 => ?_) (fun hc27 => ?_)
    · rw [if_pos hc27] at hm
      refine C_seq ?_
      refine C_region ?_
      refine V_y (Y_assign rfl) rfl rfl rfl ?_
      refine V_y (Y_assign rfl) rfl rfl rfl ?_
      refine V_to (fun _ _ => rfl) ?_
      obtain rfl := Option.some.inj hm
      replace hH : Hp w.heap.size A w20 (obS (α := level_Part) 50 (.slice none 0 0) ([] : (List level_Part)) :: []) := Hp.addNil (α := level_Part) (e := 50) hH
      refine C_ret ?_
      try simp only [↓inBlock_ret, ↓then_ret]
      exact retQ rfl (Res.two Try.results20 rfl rfl) ⟨.slice none 0 0, rfl, (Hp.ownd hH (i := 0) rfl), hK.kp⟩
    · rw [if_neg (nt hc27)] at hm
      refine C_skip_to (fun _ _ => rfl) ?_
      refine C_seq ?_
      refine C_region ?_
      refine V_y (Y_move rfl) rfl rfl rfl ?_
      obtain ⟨x28, hx28, hm⟩ := Option.bind_eq_some_iff.1 hm
      refine V_call Try.call34 rfl rfl rfl rfl (portref2_newMeter_c w20 hB hA cals v_cals h_cals hH hx28) ?_
      rintro _ w33 ⟨b29, v30, A34, rfl, hH35, ht36⟩
      replace h_cals := Sl.tr h_cals ht36
      replace h8 := El.tr h8 ht36
      replace hK := Tr.trans hK ht36
      replace hB := Nat.le_trans hB ht36.ex.size
      replace hA := ht36.new
      replace hH : Hp w.heap.size A34 w33 (obC b29 [v30] 82 :: obPS (obCk 107 portref2_ShiftsIn) 79 v30 x28.clocks :: []) := hH35
      refine V_y (Y_assign rfl) rfl rfl rfl ?_
      refine V_to (fun _ _ => rfl) ?_
      refine C_seq ?_
      refine C_seq ?_
      refine C_region ?_
      have h37 := El_level_Clock_4 h8
      refine V_y (Y_fieldAddr Try.underlying35 rfl Try.sizeOf3 (by decide) rfl) rfl rfl rfl ?_
      refine V_y (Y_load (El.int h37) Try.isAgg3 rfl) rfl rfl rfl ?_
      refine V_y (Y_geq rfl rfl) rfl rfl rfl ?_
      refine V_to (fun _ _ => rfl) ?_
      obtain ⟨s39, ho38, hm⟩ := Option.bind_eq_some_iff.1 hm
      refine C_cutG (ι := Unit) (fun (_ : Unit) => [(2, .int .i64 s39), (3, .pointer (some ⟨b5, 0, none⟩)), (9, .pointer (some ⟨b29, 0, none⟩))]) (fun (_ : Unit) => fun w' => w33 = w') ?_ ?_
      · refine C_cond rfl (fun hc44 => ?_) (fun hc44 => ?_)
        · rw [if_pos hc44] at ho38
          refine C_region ?_
          refine V_y (Y_move rfl) rfl rfl rfl ?_
          have h45 := El_level_Clock_4 h8
          refine V_y (Y_fieldAddr Try.underlying35 rfl Try.sizeOf3 (by decide) rfl) rfl rfl rfl ?_
          refine V_y (Y_load (El.int h45) Try.isAgg3 rfl) rfl rfl rfl ?_
          refine V_y (Y_min2 rfl rfl) rfl rfl rfl ?_
          refine V_y (Y_assign rfl) rfl rfl rfl ?_
          obtain rfl := Option.some.inj ho38
          refine V_end (fun a ha46 => ?_)
          exact ⟨(), ha46.sub ⟨rfl, rfl, rfl, trivial⟩, rfl⟩
        · rw [if_neg (nt hc44)] at ho38
          obtain rfl := Option.some.inj ho38
          refine C_skip (fun a ha47 => ?_)
          exact ⟨(), ha47.sub ⟨rfl, rfl, rfl, trivial⟩, rfl⟩
      rintro _ _ rfl a ha43
      refine C_at (n := ⟨116, [], none⟩) (fun _ _ => rfl) ?_ ha43
      refine C_seq ?_
      refine C_region ?_
      refine V_y (Y_assign rfl) rfl rfl rfl ?_
      refine V_to (fun _ _ => rfl) ?_
      refine C_seq ?_
      refine C_seq ?_
      refine C_region ?_
      have h48 := El_level_Clock_3 h8
      refine V_y (Y_fieldAddr Try.underlying35 rfl Try.sizeOf3 (by decide) rfl) rfl rfl rfl ?_
      refine V_y (Y_load (El.int h48) Try.isAgg3 rfl) rfl rfl rfl ?_
      refine V_y (Y_assign rfl) rfl rfl rfl ?_
      refine V_to (fun _ _ => rfl) ?_
      replace hH : Hp w.heap.size A34 w33 (obS (α := level_Part) 50 (.slice none 0 0) ([] : (List level_Part)) :: obC b29 [v30] 82 :: obPS (obCk 107 portref2_ShiftsIn) 79 v30 x28.clocks :: []) := Hp.addNil (α := level_Part) (e := 50) hH
      obtain ⟨o49, ho49, hm⟩ := Option.bind_eq_some_iff.1 hm
      refine C_cutG (ι := (((List level_Part) × Int) × Value × (Nat → Prop))) (fun ⟨s50, v56, A58⟩ => [(10, v56)]) (fun ⟨s50, v56, A58⟩ => fun w' => o49 = .fin s50 ∧ Hp w.heap.size A58 w' (obS (α := level_Part) 50 v56 s50.1 :: obC b29 [v30] 82 :: obPS (obCk 107 portref2_ShiftsIn) 79 v30 x28.clocks :: []) ∧ Tr w.heap.size A34 w33 A58 w') ?_ ?_
      · refine C_block ?_
        refine C_while ho49 (fun s60 a w' => ∃ i : (Value × (Nat → Prop)), Has ⟨116, [], none⟩ a ([(2, .int .i64 s39), (3, .pointer (some ⟨b5, 0, none⟩)), (9, .pointer (some ⟨b29, 0, none⟩)), (10, i.1), (11, .int .i64 s60.2)]) ∧ Hp w.heap.size i.2 w' (obS (α := level_Part) 50 i.1 s60.1 :: obC b29 [v30] 82 :: obPS (obCk 107 portref2_ShiftsIn) 79 v30 x28.clocks :: []) ∧ Tr w.heap.size A34 w33 i.2 w') (fun a ha => ⟨(.slice none 0 0, A34), ha.sub ⟨rfl, rfl, rfl, rfl, rfl, trivial⟩, ⟨hH, Tr.refl hA⟩⟩) ?_
        rintro K s60 a w61 ⟨⟨v62, A64⟩, ha231, hH65, hr51⟩ K72
        refine C_of ?_ ha231
        replace h8 := El.tr h8 hr51
        replace hK := Tr.trans hK hr51
        replace hB := Nat.le_trans hB hr51.ex.size
        replace hA := hr51.new
        replace hH : Hp w.heap.size A64 w61 (obS (α := level_Part) 50 v62 s60.1 :: obC b29 [v30] 82 :: obPS (obCk 107 portref2_ShiftsIn) 79 v30 x28.clocks :: []) := hH65
        obtain ⟨x66, h67, h68⟩ := K72
        refine C_seq ?_
        refine C_seq ?_
        refine C_region ?_
        refine V_y (Y_move rfl) rfl rfl rfl ?_
        refine V_y (Y_move rfl) rfl rfl rfl ?_
        refine V_y (Y_lss rfl rfl) rfl rfl rfl ?_
        refine V_to (fun _ _ => rfl) ?_
        refine C_cond rfl (fun hc73 => ?_) (fun hc73 => ?_)
        · rw [if_pos hc73] at h67
          refine C_skip_to (fun _ _ => rfl) ?_
          refine C_seq ?_
          obtain ⟨s75, ho74, h67⟩ := Option.bind_eq_some_iff.1 h67
          refine C_cutG (ι := (Value × (Nat → Prop))) (fun ⟨v77, A82⟩ => [(2, .int .i64 s39), (3, .pointer (some ⟨b5, 0, none⟩)), (9, .pointer (some ⟨b29, 0, none⟩)), (10, v77), (11, .int .i64 s60.2)]) (fun ⟨v77, A82⟩ => fun w' => Hp w.heap.size A82 w' (obS (α := level_Part) 50 v77 s75 :: obC b29 [v30] 82 :: obPS (obCk 107 portref2_ShiftsIn) 79 v30 x28.clocks :: []) ∧ Tr w.heap.size A64 w61 A82 w') ?_ ?_
          · have hr76 : Tr w.heap.size A64 w61 A64 w61 := Tr.refl hA
            refine C_block ?_
            refine C_seq ?_
            refine C_region ?_
            refine V_y (Y_assign rfl) rfl rfl rfl ?_
            refine V_to (fun _ _ => rfl) ?_
            refine C_seq ?_
            refine C_seq ?_
            refine C_region ?_
            have h84 := El_level_Clock_6 h8
            refine V_y (Y_fieldAddr Try.underlying35 rfl Try.sizeOf33 (by decide) rfl) rfl rfl rfl ?_
            obtain ⟨v85, h86, h87⟩ := El.list h84
            refine V_y (Y_load h86 Try.isAgg33 rfl) rfl rfl rfl ?_
            refine V_y (Y_lenSl h87 rfl Try.underlying33 rfl) rfl rfl rfl ?_
            refine V_y (Y_move rfl) rfl rfl rfl ?_
            refine V_to (fun _ _ => rfl) ?_
            have hn108 := Sl.le h87
            obtain ⟨o88, ho88, ho74⟩ := Option.bind_eq_some_iff.1 ho74
            refine C_cutG (ι := (Int × (Nat → Prop))) (fun ⟨s89, A95⟩ => [(2, .int .i64 s39), (3, .pointer (some ⟨b5, 0, none⟩)), (9, .pointer (some ⟨b29, 0, none⟩)), (10, v62), (11, .int .i64 s60.2), (12, .int .i64 s89)]) (fun ⟨s89, A95⟩ => fun w' => o88 = .fin s89 ∧ Hp w.heap.size A95 w' (obS (α := level_Part) 50 v62 s60.1 :: obC b29 [v30] 82 :: obPS (obCk 107 portref2_ShiftsIn) 79 v30 x28.clocks :: []) ∧ Tr w.heap.size A64 w61 A95 w') ?_ ?_
            · refine C_block ?_
              refine C_range ho88 (fun k91 s97 a w' => ∃ i : (Nat → Prop), Has ⟨116, [], none⟩ a ([(2, .int .i64 s39), (3, .pointer (some ⟨b5, 0, none⟩)), (9, .pointer (some ⟨b29, 0, none⟩)), (10, v62), (11, .int .i64 s60.2), (12, .int .i64 s97), (49, v85), (50, .int .i64 (c.pieces.length : Int)), (51, .int .i64 (k91 : Int))]) ∧ Hp w.heap.size i w' (obS (α := level_Part) 50 v62 s60.1 :: obC b29 [v30] 82 :: obPS (obCk 107 portref2_ShiftsIn) 79 v30 x28.clocks :: []) ∧ Tr w.heap.size A64 w61 i w') (fun a ha => ⟨A64, ha.sub ⟨rfl, rfl, rfl, rfl, rfl, rfl, rfl, rfl, rfl, trivial⟩, ⟨hH, Tr.refl hA⟩⟩) ?_
              rintro K k91 s97 a w98 ⟨A99, ha176, hH100, hr90⟩ hle104 K107 h106
              refine C_of ?_ ha176
              replace h8 := El.tr h8 hr90
              replace h87 := Sl.tr h87 hr90
              replace hK := Tr.trans hK hr90
              replace hr51 := Tr.trans hr51 hr90
              replace hr76 := Tr.trans hr76 hr90
              replace hB := Nat.le_trans hB hr90.ex.size
              replace hA := hr90.new
              replace hH : Hp w.heap.size A99 w98 (obS (α := level_Part) 50 v62 s60.1 :: obC b29 [v30] 82 :: obPS (obCk 107 portref2_ShiftsIn) 79 v30 x28.clocks :: []) := hH100
              refine C_seq (C_region (V_y (Y_lss rfl rfl) rfl rfl rfl (V_to (fun _ _ => rfl) ?_)))
              refine C_seq ?_
              refine C_cond rfl (fun hc109 => ?_) (fun hc109 => ?_)
              · have hlt105 := lt_of_dec hc109
                obtain ⟨x101, h102, h103⟩ := K107 hlt105
                refine C_skip_to (fun _ _ => rfl) ?_
                refine C_seq ?_
                obtain ⟨s111, ho110, h102⟩ := Option.bind_eq_some_iff.1 h102
                refine C_cutG (ι := (Nat → Prop)) (fun (A116 : (Nat → Prop)) => [(2, .int .i64 s39), (3, .pointer (some ⟨b5, 0, none⟩)), (9, .pointer (some ⟨b29, 0, none⟩)), (10, v62), (11, .int .i64 s60.2), (12, .int .i64 s111), (49, v85), (50, .int .i64 (c.pieces.length : Int)), (51, .int .i64 (k91 : Int))]) (fun (A116 : (Nat → Prop)) => fun w' => Hp w.heap.size A116 w' (obS (α := level_Part) 50 v62 s60.1 :: obC b29 [v30] 82 :: obPS (obCk 107 portref2_ShiftsIn) 79 v30 x28.clocks :: []) ∧ Tr w.heap.size A99 w98 A116 w') ?_ ?_
                · have hr112 : Tr w.heap.size A99 w98 A99 w98 := Tr.refl hA
                  refine C_block ?_
                  refine C_seq ?_
                  refine C_region ?_
                  obtain ⟨x118, hx118, ho110⟩ := Option.bind_eq_some_iff.1 ho110
                  refine V_indexAddr h87 hx118 Try.underlying33 Try.sizeOf64 rfl rfl rfl ?_
                  intro b119 o120 h121
                  obtain ⟨h122, _⟩ := El_level_Piece h121
                  refine V_y (Y_loadA h122 Try.isAgg64 Try.sizeOf64 rfl) rfl rfl rfl ?_
                  refine V_alloc Try.zeroValue64 rfl ?_
                  intro b123 w124 h125
                  refine V_storeNew h125 Try.sizeOf64 rfl rfl rfl rfl (by exact (List.forall_mem_cons.2 ⟨rfl, (List.forall_mem_cons.2 ⟨rfl, (List.forall_mem_cons.2 ⟨rfl, (fun _ h => nomatch h)⟩)⟩)⟩)) ?_
                  intro w126 h127
                  have hk129 := h127.kp
                  have h128 : El (α := level_Piece) A99 w126 b123 0 x118 := h127.el hA ⟨[.int .i64 x118.from_], _, rfl, rfl, ⟨[.int .i64 x118.to_], _, rfl, rfl, rfl⟩⟩
                  have ht130 := Kp.tr hk129 hA hB
                  replace hH := Hp.kp hH hk129
                  replace h8 := El.tr h8 ht130
                  replace h87 := Sl.tr h87 ht130
                  replace h121 := El.tr h121 ht130
                  replace hK := Tr.trans hK ht130
                  replace hr51 := Tr.trans hr51 ht130
                  replace hr76 := Tr.trans hr76 ht130
                  replace hr90 := Tr.trans hr90 ht130
                  replace hr112 := Tr.trans hr112 ht130
                  replace hB := Nat.le_trans hB ht130.ex.size
                  replace hA := ht130.new
                  refine V_to (fun _ _ => rfl) ?_
                  refine C_seq ?_
                  refine C_region ?_
                  have h131 := El_level_Piece_0 h128
                  refine V_y (Y_fieldAddr Try.underlying64 rfl Try.sizeOf3 (by decide) rfl) rfl rfl rfl ?_
                  refine V_y (Y_load (El.int h131) Try.isAgg3 rfl) rfl rfl rfl ?_
                  refine V_y (Y_move rfl) rfl rfl rfl ?_
                  refine V_y (Y_leq rfl rfl) rfl rfl rfl ?_
                  refine V_y (Y_move rfl) rfl rfl rfl ?_
                  refine V_cut 10 (fun _ : Unit => [(2, .int .i64 s39), (3, .pointer (some ⟨b5, 0, none⟩)), (9, .pointer (some ⟨b29, 0, none⟩)), (10, v62), (11, .int .i64 s60.2), (12, .int .i64 s97), (14, .pointer (some ⟨b123, 0, none⟩)), (49, v85), (50, .int .i64 (c.pieces.length : Int)), (51, .int .i64 (k91 : Int)), (69, .bool ((decide (x118.from_ ≤ s60.2)) && ((decide (x118.to_ < 0)) || (decide (s60.2 < x118.to_)))))]) (fun _ w' => w126 = w') ?_ ?_
                  · simp only [List.take, List.drop]
                    rcases Bool.eq_false_or_eq_true (decide (x118.from_ ≤ s60.2)) with hc132 | hc132
                    · refine V_ge rfl rfl rfl hc132 ?_
                      have h134 := El_level_Piece_1 h128
                      refine V_y (Y_fieldAddr Try.underlying64 rfl Try.sizeOf3 (by decide) rfl) rfl rfl rfl ?_
                      refine V_ge rfl rfl rfl hc132 ?_
                      refine V_y (Y_load (El.int h134) Try.isAgg3 rfl) rfl rfl rfl ?_
                      refine V_ge rfl rfl rfl hc132 ?_
                      refine V_y (Y_lss rfl rfl) rfl rfl rfl ?_
                      refine V_ge rfl rfl rfl hc132 ?_
                      refine V_y (Y_move rfl) rfl rfl rfl ?_
                      refine V_cut 5 (fun _ : Unit => [(2, .int .i64 s39), (3, .pointer (some ⟨b5, 0, none⟩)), (9, .pointer (some ⟨b29, 0, none⟩)), (10, v62), (11, .int .i64 s60.2), (12, .int .i64 s97), (14, .pointer (some ⟨b123, 0, none⟩)), (49, v85), (50, .int .i64 (c.pieces.length : Int)), (51, .int .i64 (k91 : Int)), (59, .bool (decide (x118.from_ ≤ s60.2))), (68, .bool ((decide (x118.to_ < 0)) || (decide (s60.2 < x118.to_))))]) (fun _ w' => w126 = w') ?_ ?_
                      · simp only [List.take, List.drop]
                        rcases Bool.eq_false_or_eq_true (decide (x118.to_ < 0)) with hc135 | hc135
                        · refine V_gn rfl rfl rfl hc135 rfl rfl rfl ?_
                          refine V_gn rfl rfl rfl hc135 rfl rfl rfl ?_
                          refine V_gn rfl rfl rfl hc135 rfl rfl rfl ?_
                          refine V_gn rfl rfl rfl hc135 rfl rfl rfl ?_
                          refine V_ge rfl rfl rfl hc132 ?_
                          refine V_y (Y_pick_te rfl hc135 rfl) rfl rfl rfl ?_
                          exact V_end fun a ha => ⟨(), ha.sub ⟨rfl, rfl, rfl, rfl, rfl, rfl, rfl, rfl, rfl, rfl, rfl, (by rw [hc135]; rfl), trivial⟩, rfl⟩
                        · refine V_ge rfl rfl rfl hc135 ?_
                          refine V_y (Y_move rfl) rfl rfl rfl ?_
                          refine V_ge rfl rfl rfl hc135 ?_
                          have h137 := El_level_Piece_1 h128
                          refine V_y (Y_fieldAddr Try.underlying64 rfl Try.sizeOf3 (by decide) rfl) rfl rfl rfl ?_
                          refine V_ge rfl rfl rfl hc135 ?_
                          refine V_y (Y_load (El.int h137) Try.isAgg3 rfl) rfl rfl rfl ?_
                          refine V_ge rfl rfl rfl hc135 ?_
                          refine V_y (Y_lss rfl rfl) rfl rfl rfl ?_
                          refine V_ge rfl rfl rfl hc132 ?_
                          refine V_y (Y_pick_fe rfl hc135 rfl) rfl rfl rfl ?_
                          exact V_end fun a ha => ⟨(), ha.sub ⟨rfl, rfl, rfl, rfl, rfl, rfl, rfl, rfl, rfl, rfl, rfl, (by rw [hc135]; rfl), trivial⟩, rfl⟩
                      simp only [List.take, List.drop]
                      rintro _ _ rfl
                      refine V_y (Y_pick_te rfl hc132 rfl) rfl rfl rfl ?_
                      exact V_end fun a ha => ⟨(), ha.sub ⟨rfl, rfl, rfl, rfl, rfl, rfl, rfl, rfl, rfl, rfl, (by rw [hc132]; rfl), trivial⟩, rfl⟩
                    · refine V_gn rfl rfl rfl hc132 rfl rfl rfl ?_
                      refine V_gn rfl rfl rfl hc132 rfl rfl rfl ?_
                      refine V_gn rfl rfl rfl hc132 rfl rfl rfl ?_
                      refine V_gn rfl rfl rfl hc132 rfl rfl rfl ?_
                      refine V_gu rfl rfl rfl rfl rfl ?_
                      refine V_gu rfl rfl rfl rfl rfl ?_
                      refine V_gu rfl rfl rfl rfl rfl ?_
                      refine V_gu rfl rfl rfl rfl rfl ?_
                      refine V_gn rfl rfl rfl hc132 rfl rfl rfl ?_
                      refine V_y (Y_pick_fe rfl hc132 rfl) rfl rfl rfl ?_
                      exact V_end fun a ha => ⟨(), ha.sub ⟨rfl, rfl, rfl, rfl, rfl, rfl, rfl, rfl, rfl, rfl, (by rw [hc132]; rfl), trivial⟩, rfl⟩
                  simp only [List.take, List.drop]
                  rintro _ _ rfl
                  refine V_to (fun _ _ => rfl) ?_
                  obtain ⟨s139, ho138, ho110⟩ := Option.bind_eq_some_iff.1 ho110
                  refine C_cutG (ι := (Nat → Prop)) (fun (A144 : (Nat → Prop)) => [(2, .int .i64 s39), (3, .pointer (some ⟨b5, 0, none⟩)), (9, .pointer (some ⟨b29, 0, none⟩)), (10, v62), (11, .int .i64 s60.2), (12, .int .i64 s139), (49, v85), (50, .int .i64 (c.pieces.length : Int)), (51, .int .i64 (k91 : Int))]) (fun (A144 : (Nat → Prop)) => fun w' => Hp w.heap.size A144 w' (obS (α := level_Part) 50 v62 s60.1 :: obC b29 [v30] 82 :: obPS (obCk 107 portref2_ShiftsIn) 79 v30 x28.clocks :: []) ∧ Tr w.heap.size A99 w126 A144 w') ?_ ?_
                  · have hr140 : Tr w.heap.size A99 w126 A99 w126 := Tr.refl hA
                    refine C_cond rfl (fun hc146 => ?_) (fun hc146 => ?_)
                    · rw [if_pos hc146] at ho138
                      refine C_seq ?_
                      refine C_region ?_
                      refine V_y (Y_assign rfl) rfl rfl rfl ?_
                      refine V_to (fun _ _ => rfl) ?_
                      refine C_seq ?_
                      refine C_region_qt 9 Try_mixed (by kernel_rfl) ?_
                      simp only [List.take, List.drop]
                      refine VQ_y (fun w' hw' => Y_move rfl) rfl rfl rfl ?_
                      refine VQ_y (fun w' hw' => Y_nilCheck rfl) rfl rfl rfl ?_
                      refine VQ_y (fun w' hw' => Y_fieldAddrC (off2 := 0) Try.underlying82 rfl Try.sizeOf80 (by decide) rfl rfl) rfl rfl rfl ?_
                      refine VQ_y (fun w' hw' => Y_load ((World.cell?_of_block (hw'.block _ (World.block_lt_of_cell? _ _ (Hp.cell (j := 0) hH (i := 1) rfl rfl)))).trans (Hp.cell (j := 0) hH (i := 1) rfl rfl)) Try.isAgg80 rfl) rfl rfl rfl ?_
                      have h147 := El_level_Piece_2 h128
                      refine VQ_y (fun w' hw' => Y_fieldAddr Try.underlying64 rfl Try.sizeOf3 (by decide) rfl) rfl rfl rfl ?_
                      refine VQ_y (fun w' hw' => Y_load (El.int (El.kp h147 hw')) Try.isAgg3 rfl) rfl rfl rfl ?_
                      obtain ⟨x148, hx148, ho138⟩ := Option.bind_eq_some_iff.1 ho138
                      refine VQ_indexAddrPS (f := obCk 107 portref2_ShiftsIn) (e := 79) (v := v30) (cs := x28.clocks) hH (i := 2) rfl hx148 Try.underlying80 Try.sizeOf79 rfl rfl rfl ?_
                      intro b149 o150 b152 hk153 h151 hH
                      replace hH : Hp w.heap.size A99 w126 (obCk 107 portref2_ShiftsIn b152 x148 :: obS (α := level_Part) 50 v62 s60.1 :: obC b29 [v30] 82 :: obPX (obCk 107 portref2_ShiftsIn) 79 v30 x28.clocks (Int.toNat x118.calendar) b152 :: []) := hH
                      refine VQ_y (fun w' hw' => Y_load ((World.cell?_of_block (hw'.block _ (World.block_lt_of_cell? _ _ (h151)))).trans (h151)) Try.isAgg79 rfl) rfl rfl rfl ?_
                      refine VQ_y (fun w' hw' => Y_move rfl) rfl rfl rfl ?_
                      refine VQ_tail (fun w154 hk155 => ?_)
                      try simp only [List.take, List.drop]
                      have ht156 := Kp.tr hk155 hA hB
                      replace hH := Hp.kp hH hk155
                      replace h8 := El.tr h8 ht156
                      replace h87 := Sl.tr h87 ht156
                      replace h128 := El.tr h128 ht156
                      replace h147 := El.tr h147 ht156
                      replace hK := Tr.trans hK ht156
                      replace hr51 := Tr.trans hr51 ht156
                      replace hr76 := Tr.trans hr76 ht156
                      replace hr90 := Tr.trans hr90 ht156
                      replace hr112 := Tr.trans hr112 ht156
                      replace hr140 := Tr.trans hr140 ht156
                      replace hB := Nat.le_trans hB ht156.ex.size
                      replace hA := ht156.new
                      obtain ⟨x157, hx157, ho138⟩ := Option.bind_eq_some_iff.1 ho138
                      refine V_call Try.call48 rfl rfl rfl rfl (portref2_Clock_Open_c w154 hB hA x148 b152 s60.2 hH hx157) ?_
                      rintro _ w158 ⟨A159, rfl, hH160, ht161⟩
                      replace h8 := El.tr h8 ht161
                      replace h87 := Sl.tr h87 ht161
                      replace h128 := El.tr h128 ht161
                      replace h147 := El.tr h147 ht161
                      replace hK := Tr.trans hK ht161
                      replace hr51 := Tr.trans hr51 ht161
                      replace hr76 := Tr.trans hr76 ht161
                      replace hr90 := Tr.trans hr90 ht161
                      replace hr112 := Tr.trans hr112 ht161
                      replace hr140 := Tr.trans hr140 ht161
                      replace hB := Nat.le_trans hB ht161.ex.size
                      replace hA := ht161.new
                      replace hH : Hp w.heap.size A159 w158 (obCk 107 portref2_ShiftsIn b152 x148 :: obS (α := level_Part) 50 v62 s60.1 :: obC b29 [v30] 82 :: obPX (obCk 107 portref2_ShiftsIn) 79 v30 x28.clocks (Int.toNat x118.calendar) b152 :: []) := hH160
                      replace hH : Hp w.heap.size A159 w158 (obS (α := level_Part) 50 v62 s60.1 :: obC b29 [v30] 82 :: obPS (obCk 107 portref2_ShiftsIn) 79 v30 x28.clocks :: []) := Hp.psBack hH (i := 2) rfl hk153
                      refine V_to (fun _ _ => rfl) ?_
                      obtain ⟨s163, ho162, ho138⟩ := Option.bind_eq_some_iff.1 ho138
                      refine C_cutG (ι := Unit) (fun (_ : Unit) => [(2, .int .i64 s39), (3, .pointer (some ⟨b5, 0, none⟩)), (9, .pointer (some ⟨b29, 0, none⟩)), (10, v62), (11, .int .i64 s60.2), (12, .int .i64 s163), (49, v85), (50, .int .i64 (c.pieces.length : Int)), (51, .int .i64 (k91 : Int))]) (fun (_ : Unit) => fun w' => w158 = w') ?_ ?_
                      · refine C_cond rfl (fun hc168 => ?_) (fun hc168 => ?_)
                        · rw [if_pos hc168] at ho162
                          refine C_region ?_
                          refine V_y (Y_assign rfl) rfl rfl rfl ?_
                          obtain rfl := Option.some.inj ho162
                          refine V_end (fun a ha169 => ?_)
                          exact ⟨(), ha169.sub ⟨rfl, rfl, rfl, rfl, rfl, rfl, rfl, rfl, rfl, trivial⟩, rfl⟩
                        · rw [if_neg (nt hc168)] at ho162
                          obtain rfl := Option.some.inj ho162
                          refine C_skip (fun a ha170 => ?_)
                          exact ⟨(), ha170.sub ⟨rfl, rfl, rfl, rfl, rfl, rfl, rfl, rfl, rfl, trivial⟩, rfl⟩
                      rintro _ _ rfl a ha167
                      obtain rfl := Option.some.inj ho138
                      exact ⟨A159, ha167.sub ⟨rfl, rfl, rfl, rfl, rfl, rfl, rfl, rfl, rfl, trivial⟩, ⟨hH, hr140⟩⟩
                    · rw [if_neg (nt hc146)] at ho138
                      obtain rfl := Option.some.inj ho138
                      refine C_skip (fun a ha172 => ?_)
                      exact ⟨A99, ha172.sub ⟨rfl, rfl, rfl, rfl, rfl, rfl, rfl, rfl, rfl, trivial⟩, ⟨hH, hr140⟩⟩
                  rintro A144 w141 ⟨hH145, hk142⟩ a ha143
                  replace h8 := El.tr h8 hk142
                  replace h87 := Sl.tr h87 hk142
                  replace hK := Tr.trans hK hk142
                  replace hr51 := Tr.trans hr51 hk142
                  replace hr76 := Tr.trans hr76 hk142
                  replace hr90 := Tr.trans hr90 hk142
                  replace hr112 := Tr.trans hr112 hk142
                  replace hB := Nat.le_trans hB hk142.ex.size
                  replace hA := hk142.new
                  replace hH : Hp w.heap.size A144 w141 (obS (α := level_Part) 50 v62 s60.1 :: obC b29 [v30] 82 :: obPS (obCk 107 portref2_ShiftsIn) 79 v30 x28.clocks :: []) := hH145
                  obtain rfl := Option.some.inj ho110
                  exact ⟨A144, ha143.sub ⟨rfl, rfl, rfl, rfl, rfl, rfl, rfl, rfl, rfl, trivial⟩, ⟨hH, hr112⟩⟩
                rintro A116 w113 ⟨hH117, hk114⟩ a ha115
                replace h8 := El.tr h8 hk114
                replace h87 := Sl.tr h87 hk114
                replace hK := Tr.trans hK hk114
                replace hr51 := Tr.trans hr51 hk114
                replace hr76 := Tr.trans hr76 hk114
                replace hr90 := Tr.trans hr90 hk114
                replace hB := Nat.le_trans hB hk114.ex.size
                replace hA := hk114.new
                replace hH : Hp w.heap.size A116 w113 (obS (α := level_Part) 50 v62 s60.1 :: obC b29 [v30] 82 :: obPS (obCk 107 portref2_ShiftsIn) 79 v30 x28.clocks :: []) := hH117
                refine C_at (n := ⟨116, [], none⟩) (fun _ _ => rfl) ?_ ha115
                refine C_region ?_
                refine V_y (Y_addI rfl rfl) rfl rfl rfl ?_
                refine V_y (Y_move rfl) rfl rfl rfl ?_
                obtain rfl := Option.some.inj h102
                refine V_end (fun a ha174 => ?_)
                exact ⟨s111, hlt105, h103, ⟨A116, ha174.sub ⟨rfl, rfl, rfl, rfl, rfl, rfl, rfl, rfl, (congrArg (fun z => some (Value.int .i64 z)) (w64_succ hlt105 hn108)), trivial⟩, ⟨hH, hr90⟩⟩⟩
              · refine C_exit (fun a ha175 => ?_)
                exact ⟨(s97, A99), ha175.sub ⟨rfl, rfl, rfl, rfl, rfl, rfl, trivial⟩, ⟨(h106 (eq_of_dec hle104 hc109)).symm, hH, hr90⟩⟩
            rintro ⟨s89, A95⟩ w92 ⟨rfl, hH96, hk93⟩ a ha94
            rw [Lp.andThen_fin] at ho74
            replace h8 := El.tr h8 hk93
            replace hK := Tr.trans hK hk93
            replace hr51 := Tr.trans hr51 hk93
            replace hr76 := Tr.trans hr76 hk93
            replace hB := Nat.le_trans hB hk93.ex.size
            replace hA := hk93.new
            replace hH : Hp w.heap.size A95 w92 (obS (α := level_Part) 50 v62 s60.1 :: obC b29 [v30] 82 :: obPS (obCk 107 portref2_ShiftsIn) 79 v30 x28.clocks :: []) := hH96
            refine C_at (n := ⟨116, [], none⟩) (fun _ _ => rfl) ?_ ha94
            refine C_seq ?_
            refine C_region ?_
            refine V_y (Y_move rfl) rfl rfl rfl ?_
            refine V_y (Y_lenSl (Hp.any (α := level_Part) (e := 50) (v := v62) (l := s60.1) hH (i := 0) rfl) rfl Try.underlying43 rfl) rfl rfl rfl ?_
            refine V_y (Y_assign rfl) rfl rfl rfl ?_
            refine V_to (fun _ _ => rfl) ?_
            refine C_seq ?_
            refine C_region ?_
            refine V_y (Y_move rfl) rfl rfl rfl ?_
            refine V_y (Y_gtr rfl rfl) rfl rfl rfl ?_
            refine V_y (Y_move rfl) rfl rfl rfl ?_
            obtain ⟨s178, hs178, ho74⟩ := Option.bind_eq_some_iff.1 ho74
            refine V_cut 9 (fun _ : Unit => [(2, .int .i64 s39), (3, .pointer (some ⟨b5, 0, none⟩)), (9, .pointer (some ⟨b29, 0, none⟩)), (10, v62), (11, .int .i64 s60.2), (12, .int .i64 s89), (15, .int .i64 (s60.1.length : Int)), (94, .bool s178)]) (fun _ w' => w92 = w') ?_ ?_
            · simp only [List.take, List.drop]
              rcases Bool.eq_false_or_eq_true (decide ((0 : Int) < (s60.1.length : Int))) with hc177 | hc177
              · rw [if_pos hc177] at hs178
                refine V_ge rfl rfl rfl hc177 ?_
                refine V_y (Y_move rfl) rfl rfl rfl ?_
                refine V_ge rfl rfl rfl hc177 ?_
                refine V_y (Y_move rfl) rfl rfl rfl ?_
                refine V_ge rfl rfl rfl hc177 ?_
                refine V_y (Y_subI rfl rfl) rfl rfl rfl ?_
                refine V_ge rfl rfl rfl hc177 ?_
                obtain ⟨x179, hx179, hs178⟩ := Option.bind_eq_some_iff.1 hs178
                refine V_indexAddrH (α := level_Part) (e := 50) (v := v62) (l := s60.1) hH (i := 0) rfl hx179 Try.underlying43 Try.sizeOf50 rfl rfl rfl ?_
                intro b180 o181 h182 hl183
                refine V_ge rfl rfl rfl hc177 ?_
                have h184 := El_level_Part_1 h182
                refine V_y (Y_fieldAddr Try.underlying50 rfl Try.sizeOf3 (by decide) rfl) rfl rfl rfl ?_
                refine V_ge rfl rfl rfl hc177 ?_
                refine V_y (Y_load (El.int h184) Try.isAgg3 rfl) rfl rfl rfl ?_
                refine V_ge rfl rfl rfl hc177 ?_
                refine V_y (Y_move rfl) rfl rfl rfl ?_
                refine V_ge rfl rfl rfl hc177 ?_
                refine V_y (Y_eql rfl rfl) rfl rfl rfl ?_
                refine V_y (Y_pick_te rfl hc177 rfl) rfl rfl rfl ?_
                obtain rfl := Option.some.inj hs178
                exact V_end fun a ha => ⟨(), ha.sub ⟨rfl, rfl, rfl, rfl, rfl, rfl, rfl, rfl, trivial⟩, rfl⟩
              · rw [if_neg (nt hc177)] at hs178
                refine V_gn rfl rfl rfl hc177 rfl rfl rfl ?_
                refine V_gn rfl rfl rfl hc177 rfl rfl rfl ?_
                refine V_gn rfl rfl rfl hc177 rfl rfl rfl ?_
                refine V_gn rfl rfl rfl hc177 rfl rfl rfl ?_
                refine V_gn rfl rfl rfl hc177 rfl rfl rfl ?_
                refine V_gn rfl rfl rfl hc177 rfl rfl rfl ?_
                refine V_gn rfl rfl rfl hc177 rfl rfl rfl ?_
                refine V_gn rfl rfl rfl hc177 rfl rfl rfl ?_
                refine V_y (Y_pick_fe rfl hc177 rfl) rfl rfl rfl ?_
                obtain rfl := Option.some.inj hs178
                exact V_end fun a ha => ⟨(), ha.sub ⟨rfl, rfl, rfl, rfl, rfl, rfl, rfl, rfl, trivial⟩, rfl⟩
            simp only [List.take, List.drop]
            rintro _ _ rfl
            refine V_to (fun _ _ => rfl) ?_
            obtain ⟨s186, ho185, ho74⟩ := Option.bind_eq_some_iff.1 ho74
            refine C_cutG (ι := (Value × (Nat → Prop))) (fun ⟨v188, A193⟩ => [(2, .int .i64 s39), (3, .pointer (some ⟨b5, 0, none⟩)), (9, .pointer (some ⟨b29, 0, none⟩)), (10, v188), (11, .int .i64 s60.2)]) (fun ⟨v188, A193⟩ => fun w' => Hp w.heap.size A193 w' (obS (α := level_Part) 50 v188 s186 :: obC b29 [v30] 82 :: obPS (obCk 107 portref2_ShiftsIn) 79 v30 x28.clocks :: []) ∧ Tr w.heap.size A95 w92 A193 w') ?_ ?_
            · have hr187 : Tr w.heap.size A95 w92 A95 w92 := Tr.refl hA
              refine C_cond rfl (fun hc195 => ?_) (fun hc195 => ?_)
              · rw [if_pos hc195] at ho185
                refine C_region ?_
                refine V_y (Y_move rfl) rfl rfl rfl ?_
                refine V_y (Y_move rfl) rfl rfl rfl ?_
                refine V_y (Y_subI rfl rfl) rfl rfl rfl ?_
                obtain ⟨x196, hx196, ho185⟩ := Option.bind_eq_some_iff.1 ho185
                refine V_indexAddrH (α := level_Part) (e := 50) (v := v62) (l := s60.1) hH (i := 0) rfl hx196 Try.underlying43 Try.sizeOf50 rfl rfl rfl ?_
                intro b197 o198 h199 hl200
                have h201 := El_level_Part_0 h199
                refine V_y (Y_fieldAddr Try.underlying50 rfl Try.sizeOf48 (by decide) rfl) rfl rfl rfl ?_
                have h202 := El_cal_Span_1 h201
                refine V_y (Y_fieldAddr Try.underlying48 rfl Try.sizeOf3 (by decide) rfl) rfl rfl rfl ?_
                refine V_y (Y_load (El.int h202) Try.isAgg3 rfl) rfl rfl rfl ?_
                refine V_y (Y_addI rfl rfl) rfl rfl rfl ?_
                refine V_indexAddrH (α := level_Part) (e := 50) (v := v62) (l := s60.1) hH (i := 0) rfl hx196 Try.underlying43 Try.sizeOf50 rfl rfl rfl ?_
                intro b203 o204 h205 hl206
                have h207 := El_level_Part_0 h205
                refine V_y (Y_fieldAddr Try.underlying50 rfl Try.sizeOf48 (by decide) rfl) rfl rfl rfl ?_
                have h208 := El_cal_Span_1 h207
                refine V_y (Y_fieldAddr Try.underlying48 rfl Try.sizeOf3 (by decide) rfl) rfl rfl rfl ?_
                obtain ⟨x209, hx209, ho185⟩ := Option.bind_eq_some_iff.1 ho185
                have hp213 : ∀ c1, GoT.rep A95 w92 c1 x196 → GoT.rep A95 w92 (c1.take 1 ++ (.int .i64 (w64 (x196.span.to_ + 1)) : Value).cells.toList ++ c1.drop (1 + 1)) ({ (x196 : level_Part) with span := { (x196.span : cal_Span) with to_ := w64 (x196.span.to_ + 1) } }) := (fun _ h => by obtain ⟨_, _, rfl, ⟨_, _, rfl, rfl, rfl⟩, rfl⟩ := h; exact ⟨[_, _], _, rfl, ⟨[_], _, rfl, rfl, rfl⟩, rfl⟩)
                refine V_storeFH (α := level_Part) (e := 50) (v := v62) (l := s60.1) (foff := 1) hH (i := 0) rfl hl206 hx196 hx209 hp213 Try.sizeOf3 rfl (by simp [Value.cells, Value.oneCell']) (by decide) hB hA (congrArg (fun z => some (Value.pointer (some ⟨_, z, none⟩))) (by simp [Nat.add_assoc])) rfl ?_
                intro w210 hH211 ht212
                replace h8 := El.tr h8 ht212
                replace hK := Tr.trans hK ht212
                replace hr51 := Tr.trans hr51 ht212
                replace hr76 := Tr.trans hr76 ht212
                replace hr187 := Tr.trans hr187 ht212
                replace hB := Nat.le_trans hB ht212.ex.size
                replace hA := ht212.new
                replace hH : Hp w.heap.size A95 w210 (obS (α := level_Part) 50 v62 x209 :: obC b29 [v30] 82 :: obPS (obCk 107 portref2_ShiftsIn) 79 v30 x28.clocks :: []) := hH211
                obtain rfl := Option.some.inj ho185
                refine V_end (fun a ha214 => ?_)
                exact ⟨(v62, A95), ha214.sub ⟨rfl, rfl, rfl, rfl, rfl, trivial⟩, ⟨hH, hr187⟩⟩
              · rw [if_neg (nt hc195)] at ho185
                refine C_region ?_
                refine V_y (Y_move rfl) rfl rfl rfl ?_
                refine V_y (Y_move rfl) rfl rfl rfl ?_
                refine V_y (Y_move rfl) rfl rfl rfl ?_
                refine V_y (Y_addI rfl rfl) rfl rfl rfl ?_
                refine V_y (Y_build Try.underlying48 Try.zeroValue48 (Try_places48 _ Try.underlying48) rfl (by with_unfolding_all rfl)) rfl rfl rfl ?_
                refine V_y (Y_move rfl) rfl rfl rfl ?_
                refine V_y (Y_build (cells := #[.int .i64 s60.2, .int .i64 (w64 (s60.2 + 1)), .int .i64 s89]) Try.underlying50 Try.zeroValue50 (Try_places50 _ Try.underlying50) rfl (by generalize (w64 (s60.2 + 1) : Int) = z215; with_unfolding_all rfl)) rfl rfl rfl ?_
                refine V_buildSlice (l := ([(⟨(⟨s60.2, w64 (s60.2 + 1)⟩ : cal_Span), s89⟩ : level_Part)] : List level_Part)) (len := 1) Try.underlying43 Try.sizeOf50 Try.zeroValue50 rfl (by with_unfolding_all rfl) (by decide) (by decide) hA ⟨[.int .i64 s60.2, .int .i64 (w64 (s60.2 + 1)), .int .i64 s89], _, rfl, ⟨[.int .i64 s60.2, .int .i64 (w64 (s60.2 + 1))], _, rfl, ⟨[.int .i64 s60.2], _, rfl, rfl, rfl⟩, rfl⟩, rfl⟩ rfl rfl ?_
                intro v216 w217 hk219 h218
                have ht220 := Kp.tr hk219 hA hB
                replace hH := Hp.kp hH hk219
                replace h8 := El.tr h8 ht220
                replace hK := Tr.trans hK ht220
                replace hr51 := Tr.trans hr51 ht220
                replace hr76 := Tr.trans hr76 ht220
                replace hr187 := Tr.trans hr187 ht220
                replace hB := Nat.le_trans hB ht220.ex.size
                replace hA := ht220.new
                obtain ⟨x221, hx221, ho185⟩ := Option.bind_eq_some_iff.1 ho185
                refine V_appendH (e := 50) (v := v62) (l := s60.1) (ti := Try.t50) (bytes := 24) (lim := 5864062014805) hH (i := 0) rfl h218 hx221 Try.underlying43 Try_info50 rfl rfl rfl rfl (by decide) (by decide) (by decide) hB hA rfl rfl rfl ?_
                intro v222 w223 A224 hH225 ht226
                replace h8 := El.tr h8 ht226
                replace h218 := Sl.tr h218 ht226
                replace hK := Tr.trans hK ht226
                replace hr51 := Tr.trans hr51 ht226
                replace hr76 := Tr.trans hr76 ht226
                replace hr187 := Tr.trans hr187 ht226
                replace hB := Nat.le_trans hB ht226.ex.size
                replace hA := ht226.new
                replace hH : Hp w.heap.size A224 w223 (obS (α := level_Part) 50 v222 x221 :: obC b29 [v30] 82 :: obPS (obCk 107 portref2_ShiftsIn) 79 v30 x28.clocks :: []) := hH225
                refine V_y (Y_assign rfl) rfl rfl rfl ?_
                obtain rfl := Option.some.inj ho185
                refine V_end (fun a ha227 => ?_)
                exact ⟨(v222, A224), ha227.sub ⟨rfl, rfl, rfl, rfl, rfl, trivial⟩, ⟨hH, hr187⟩⟩
            rintro ⟨v188, A193⟩ w190 ⟨hH194, hk191⟩ a ha192
            replace h8 := El.tr h8 hk191
            replace hK := Tr.trans hK hk191
            replace hr51 := Tr.trans hr51 hk191
            replace hr76 := Tr.trans hr76 hk191
            replace hB := Nat.le_trans hB hk191.ex.size
            replace hA := hk191.new
            replace hH : Hp w.heap.size A193 w190 (obS (α := level_Part) 50 v188 s186 :: obC b29 [v30] 82 :: obPS (obCk 107 portref2_ShiftsIn) 79 v30 x28.clocks :: []) := hH194
            obtain rfl := Option.some.inj ho74
            exact ⟨(v188, A193), ha192.sub ⟨rfl, rfl, rfl, rfl, rfl, trivial⟩, ⟨hH, hr76⟩⟩
          rintro ⟨v77, A82⟩ w79 ⟨hH83, hk80⟩ a ha81
          replace h8 := El.tr h8 hk80
          replace hK := Tr.trans hK hk80
          replace hr51 := Tr.trans hr51 hk80
          replace hB := Nat.le_trans hB hk80.ex.size
          replace hA := hk80.new
          replace hH : Hp w.heap.size A82 w79 (obS (α := level_Part) 50 v77 s75 :: obC b29 [v30] 82 :: obPS (obCk 107 portref2_ShiftsIn) 79 v30 x28.clocks :: []) := hH83
          refine C_at (n := ⟨116, [], none⟩) (fun _ _ => rfl) ?_ ha81
          refine C_region ?_
          refine V_y (Y_move rfl) rfl rfl rfl ?_
          refine V_y (Y_addI rfl rfl) rfl rfl rfl ?_
          refine V_y (Y_assign rfl) rfl rfl rfl ?_
          obtain rfl := Option.some.inj h67
          refine V_end (fun a ha229 => ?_)
          exact ⟨(s75, w64 (s60.2 + 1)), h68, ⟨(v77, A82), ha229.sub ⟨rfl, rfl, rfl, rfl, rfl, trivial⟩, ⟨hH, hr51⟩⟩⟩
        · rw [if_neg (nt hc73)] at h67
          obtain rfl := Option.some.inj h67
          refine C_exit (fun a ha230 => ?_)
          exact ⟨((s60.1, s60.2), v62, A64), ha230.sub ⟨rfl, trivial⟩, ⟨h68.symm, hH, hr51⟩⟩
      rintro ⟨s50, v56, A58⟩ w53 ⟨rfl, hH59, hk54⟩ a ha55
      rw [Lp.andThen_fin] at hm
      replace hK := Tr.trans hK hk54
      replace hB := Nat.le_trans hB hk54.ex.size
      replace hA := hk54.new
      replace hH : Hp w.heap.size A58 w53 (obS (α := level_Part) 50 v56 s50.1 :: obC b29 [v30] 82 :: obPS (obCk 107 portref2_ShiftsIn) 79 v30 x28.clocks :: []) := hH59
      refine C_at (n := ⟨116, [], none⟩) (fun _ _ => rfl) ?_ ha55
      refine C_seq ?_
      refine C_region ?_
      refine V_y (Y_move rfl) rfl rfl rfl ?_
      refine V_y (Y_assign rfl) rfl rfl rfl ?_
      refine V_y (Y_assign rfl) rfl rfl rfl ?_
      refine V_to (fun _ _ => rfl) ?_
      obtain rfl := Option.some.inj hm
      refine C_ret ?_
      try simp only [↓inBlock_ret, ↓then_ret]
      exact retQ rfl (Res.two Try.results20 rfl rfl) ⟨v56, rfl, (Hp.ownd hH (i := 0) rfl), hK.kp⟩

set_option maxRecDepth 4000 in
set_option maxHeartbeats 4000000 in
theorem slices_Equal_Llevel_Part_level_Part_c (w : World) {A : Nat → Prop} (hA : ∀ b, w.heap.size ≤ b → A b) (s1 : (List level_Part)) (v_s1 : Value) (h_s1 : Sl A w v_s1 s1) (s2 : (List level_Part)) (v_s2 : Value) (h_s2 : Sl A w v_s2 s2) {r : Bool} (hm : slices_Equal_Llevel_Part_level_Part s1 s2 = some r) : Ret Try.prog 21 #[v_s1, v_s2] w fun v w' => v = .bool r ∧ Kp w w' := by
  unfold slices_Equal_Llevel_Part_level_Part at hm
  refine enter Try.func21 rfl Try.ntmps21 rfl ?_
  have hA0 := hA
  have hB := Nat.le_refl w.heap.size
  have hK : Tr w.heap.size A w A w := Tr.refl hA
  have hH : Hp w.heap.size A w [] := Hp.nil
  refine C_seq ?_
  refine C_region ?_
  refine V_y (Y_assign rfl) rfl rfl rfl ?_
  refine V_to (fun _ _ => rfl) ?_
  refine C_seq ?_
  refine C_seq ?_
  refine C_region ?_
  refine V_y (Y_move rfl) rfl rfl rfl ?_
  refine V_y (Y_lenSl h_s1 rfl Try.underlying43 rfl) rfl rfl rfl ?_
  refine V_y (Y_move rfl) rfl rfl rfl ?_
  refine V_y (Y_lenSl h_s2 rfl Try.underlying43 rfl) rfl rfl rfl ?_
  refine V_y (Y_neq rfl rfl) rfl rfl rfl ?_
  refine V_to (fun _ _ => rfl) ?_
  refine C_cond rfl (fun hc5 => ?_) (fun hc5 => ?_)
  · rw [if_pos hc5] at hm
    refine C_seq ?_
    refine C_region ?_
    refine V_y (Y_assign rfl) rfl rfl rfl ?_
    refine V_to (fun _ _ => rfl) ?_
    obtain rfl := Option.some.inj hm
    refine C_ret ?_
    try simp only [↓inBlock_ret, ↓then_ret]
    exact retQ rfl (Res.one Try.results21 rfl) ⟨rfl, hK.kp⟩
  · rw [if_neg (nt hc5)] at hm
    refine C_skip_to (fun _ _ => rfl) ?_
    refine C_seq ?_
    refine C_seq ?_
    refine C_region ?_
    refine V_y (Y_move rfl) rfl rfl rfl ?_
    refine V_y (Y_lenSl h_s1 rfl Try.underlying43 rfl) rfl rfl rfl ?_
    refine V_y (Y_move rfl) rfl rfl rfl ?_
    refine V_to (fun _ _ => rfl) ?_
    have hn27 := Sl.le h_s1
    obtain ⟨o6, ho6, hm⟩ := Option.bind_eq_some_iff.1 hm
    refine C_cutG (ι := (Unit × (Nat → Prop))) (fun ⟨s7, A13⟩ => []) (fun ⟨s7, A13⟩ => fun w' => o6 = .fin s7 ∧ Hp w.heap.size A13 w' ([]) ∧ Tr w.heap.size A w A13 w') ?_ ?_
    · refine C_block ?_
      refine C_range ho6 (fun k9 _ a w' => ∃ i : (Nat → Prop), Has ⟨26, [], none⟩ a ([(0, v_s1), (1, v_s2), (12, .int .i64 (s1.length : Int)), (13, .int .i64 (k9 : Int))]) ∧ Hp w.heap.size i w' ([]) ∧ Tr w.heap.size A w i w') (fun a ha => ⟨A, ha.sub ⟨rfl, rfl, rfl, rfl, trivial⟩, ⟨hH, Tr.refl hA⟩⟩) ?_
      rintro K k9 _ a w17 ⟨A18, ha45, hH19, hr8⟩ hle23 K26 h25
      refine C_of ?_ ha45
      replace h_s1 := Sl.tr h_s1 hr8
      replace h_s2 := Sl.tr h_s2 hr8
      replace hK := Tr.trans hK hr8
      replace hB := Nat.le_trans hB hr8.ex.size
      replace hA := hr8.new
      replace hH : Hp w.heap.size A18 w17 ([]) := hH19
      refine C_seq (C_region (V_y (Y_lss rfl rfl) rfl rfl rfl (V_to (fun _ _ => rfl) ?_)))
      refine C_seq ?_
      refine C_cond rfl (fun hc28 => ?_) (fun hc28 => ?_)
      · have hlt24 := lt_of_dec hc28
        obtain ⟨x20, h21, h22⟩ := K26 hlt24
        refine C_skip_to (fun _ _ => rfl) ?_
        refine C_seq ?_
        refine C_block ?_
        refine C_seq ?_
        refine C_region ?_
        refine V_y (Y_move rfl) rfl rfl rfl ?_
        refine V_y (Y_assign rfl) rfl rfl rfl ?_
        refine V_to (fun _ _ => rfl) ?_
        refine C_seq ?_
        refine C_region_q Try_mixed (by kernel_rfl) ?_
        refine VQ_y (fun w' hw' => Y_move rfl) rfl rfl rfl ?_
        refine VQ_y (fun w' hw' => Y_move rfl) rfl rfl rfl ?_
        obtain ⟨x29, hx29, h21⟩ := Option.bind_eq_some_iff.1 h21
        refine VQ_indexAddr h_s1 hx29 Try.underlying43 Try.sizeOf50 rfl rfl rfl ?_
        intro b30 o31 h32
        obtain ⟨h33, _⟩ := El_level_Part h32
        refine VQ_y (fun w' hw' => Y_loadA (At.kp h33 hw' h32.2.1) Try.isAgg50 Try.sizeOf50 rfl) rfl rfl rfl ?_
        refine VQ_y (fun w' hw' => Y_move rfl) rfl rfl rfl ?_
        refine VQ_y (fun w' hw' => Y_move rfl) rfl rfl rfl ?_
        obtain ⟨x34, hx34, h21⟩ := Option.bind_eq_some_iff.1 h21
        refine VQ_indexAddr h_s2 hx34 Try.underlying43 Try.sizeOf50 rfl rfl rfl ?_
        intro b35 o36 h37
        obtain ⟨h38, _⟩ := El_level_Part h37
        refine VQ_y (fun w' hw' => Y_loadA (At.kp h38 hw' h37.2.1) Try.isAgg50 Try.sizeOf50 rfl) rfl rfl rfl ?_
        refine VQ_y (fun w' hw' => Y_neqA (fun w => Try_eqt50_10000 x29.span.from_ x29.span.to_ x29.what x34.span.from_ x34.span.to_ x34.what w) Try_eqg50 rfl rfl) rfl rfl rfl ?_
        refine VQ_to (fun _ _ => rfl) (fun w39 hk40 => ?_)
        have ht41 := Kp.tr hk40 hA hB
        replace hH := Hp.kp hH hk40
        replace h_s1 := Sl.tr h_s1 ht41
        replace h_s2 := Sl.tr h_s2 ht41
        replace hK := Tr.trans hK ht41
        replace hr8 := Tr.trans hr8 ht41
        replace hB := Nat.le_trans hB ht41.ex.size
        replace hA := ht41.new
        refine C_cond rfl (fun hc42 => ?_) (fun hc42 => ?_)
        · rw [if_pos hc42] at h21
          refine C_seq ?_
          refine C_region ?_
          refine V_y (Y_assign rfl) rfl rfl rfl ?_
          refine V_to (fun _ _ => rfl) ?_
          obtain rfl := Option.some.inj h21
          obtain rfl := (h22 : Lp.rt _ = _)
          rw [Lp.andThen_rt] at hm
          obtain rfl := Option.some.inj hm
          refine C_ret ?_
          try simp only [↓inBlock_ret, ↓then_ret]
          exact retQ rfl (Res.one Try.results21 rfl) ⟨rfl, hK.kp⟩
        · rw [if_neg (nt hc42)] at h21
          refine C_skip_to (fun _ _ => rfl) ?_
          refine C_region ?_
          refine V_y (Y_addI rfl rfl) rfl rfl rfl ?_
          refine V_y (Y_move rfl) rfl rfl rfl ?_
          obtain rfl := Option.some.inj h21
          refine V_end (fun a ha43 => ?_)
          exact ⟨(), hlt24, h22, ⟨A18, ha43.sub ⟨rfl, rfl, rfl, (congrArg (fun z => some (Value.int .i64 z)) (w64_succ hlt24 hn27)), trivial⟩, ⟨hH, hr8⟩⟩⟩
      · refine C_exit (fun a ha44 => ?_)
        exact ⟨((), A18), ha44.sub trivial, ⟨(h25 (eq_of_dec hle23 hc28)).symm, hH, hr8⟩⟩
    rintro ⟨s7, A13⟩ w10 ⟨rfl, hH14, hk11⟩ a ha12
    rw [Lp.andThen_fin] at hm
    replace hK := Tr.trans hK hk11
    replace hB := Nat.le_trans hB hk11.ex.size
    replace hA := hk11.new
    replace hH : Hp w.heap.size A13 w10 ([]) := hH14
    refine C_at (n := ⟨26, [], none⟩) (fun _ _ => rfl) ?_ ha12
    refine C_seq ?_
    refine C_region ?_
    refine V_y (Y_assign rfl) rfl rfl rfl ?_
    refine V_to (fun _ _ => rfl) ?_
    obtain rfl := Option.some.inj hm
    refine C_ret ?_
    try simp only [↓inBlock_ret, ↓then_ret]
    exact retQ rfl (Res.one Try.results21 rfl) ⟨rfl, hK.kp⟩

set_option maxRecDepth 4000 in
set_option maxHeartbeats 4000000 in
theorem portlaw2_ClockExplains_c (w : World) {A : Nat → Prop} (hA : ∀ b, w.heap.size ≤ b → A b) (c : level_Clock) (v_c : Value) (h_c : Sl A w v_c c.pieces) (cals : (List cal_Calendar)) (v_cals : Value) (h_cals : Sl A w v_cals cals) (m : Int) {r : Bool} (hm : portlaw2_ClockExplains c cals m = some r) : Ret Try.prog 7 #[.agg #[.int .i64 c.kind, .int .i64 c.level, .int .i64 c.minutes, .int .i64 c.start, .int .i64 c.stop, .int .i64 c.end_, v_c], v_cals, .int .i64 m] w fun v w' => v = .bool r ∧ Kp w w' := by
  unfold portlaw2_ClockExplains at hm
  refine enter Try.func7 rfl Try.ntmps7 rfl ?_
  have hA0 := hA
  have hB := Nat.le_refl w.heap.size
  have hK : Tr w.heap.size A w A w := Tr.refl hA
  have hH : Hp w.heap.size A w [] := Hp.nil
  refine C_seq ?_
  refine C_region ?_
  refine V_box rfl rfl ?_
  intro b5 w6 h7
  have hk9 := h7.kp
  have h8 : El (α := level_Clock) A w6 b5 0 c := h7.el hA ⟨[.int .i64 c.kind], _, rfl, rfl, ⟨[.int .i64 c.level], _, rfl, rfl, ⟨[.int .i64 c.minutes], _, rfl, rfl, ⟨[.int .i64 c.start], _, rfl, rfl, ⟨[.int .i64 c.stop], _, rfl, rfl, ⟨[.int .i64 c.end_], _, rfl, rfl, ⟨_, rfl, h_c⟩⟩⟩⟩⟩⟩⟩
  have ht10 := Kp.tr hk9 hA hB
  replace hH := Hp.kp hH hk9
  replace h_c := Sl.tr h_c ht10
  replace h_cals := Sl.tr h_cals ht10
  replace hK := Tr.trans hK ht10
  replace hB := Nat.le_trans hB ht10.ex.size
  replace hA := ht10.new
  refine V_y (Y_assign rfl) rfl rfl rfl ?_
  refine V_to (fun _ _ => rfl) ?_
  refine C_seq ?_
  refine C_region ?_
  obtain ⟨v11, h13, h12⟩ := El_level_Clock h8
  refine V_y (Y_loadA h13 Try.isAgg35 Try.sizeOf35 rfl) rfl rfl rfl ?_
  refine V_y (Y_move rfl) rfl rfl rfl ?_
  refine V_y (Y_move rfl) rfl rfl rfl ?_
  obtain ⟨x14, hx14, hm⟩ := Option.bind_eq_some_iff.1 hm
  refine V_call Try.call19 rfl rfl rfl rfl (level_Explain_c w6 hA c v11 h12 cals v_cals h_cals m hx14) ?_
  rintro _ w17 ⟨v15, rfl, h16, hk18⟩
  obtain ⟨A19, ht20, hH21⟩ := Hp.addOwnd hH hB hA hk18 h16
  replace h_cals := Sl.tr h_cals ht20
  replace h8 := El.tr h8 ht20
  replace h12 := Sl.tr h12 ht20
  replace hK := Tr.trans hK ht20
  replace hB := Nat.le_trans hB ht20.ex.size
  replace hA := ht20.new
  replace hH : Hp w.heap.size A19 w17 (obS (α := level_Part) 50 v15 x14.1 :: []) := hH21
  refine V_y (Y_move rfl) rfl rfl rfl ?_
  refine V_y (Y_extract rfl rfl) rfl rfl rfl ?_
  refine V_y (Y_extract rfl rfl) rfl rfl rfl ?_
  refine V_y (Y_assign rfl) rfl rfl rfl ?_
  refine V_y (Y_assign rfl) rfl rfl rfl ?_
  refine V_to (fun _ _ => rfl) ?_
  refine C_seq ?_
  refine C_region ?_
  obtain ⟨v22, h24, h23⟩ := El_level_Clock h8
  refine V_y (Y_loadA h24 Try.isAgg35 Try.sizeOf35 rfl) rfl rfl rfl ?_
  refine V_y (Y_move rfl) rfl rfl rfl ?_
  refine V_y (Y_move rfl) rfl rfl rfl ?_
  obtain ⟨x25, hx25, hm⟩ := Option.bind_eq_some_iff.1 hm
  refine V_call Try.call20 rfl rfl rfl rfl (portref2_ExplainOf_c w17 hA c v22 h23 cals v_cals h_cals m hx25) ?_
  rintro _ w28 ⟨v26, rfl, h27, hk29⟩
  obtain ⟨A30, ht31, hH32⟩ := Hp.addOwnd hH hB hA hk29 h27
  replace h_cals := Sl.tr h_cals ht31
  replace h8 := El.tr h8 ht31
  replace h23 := Sl.tr h23 ht31
  replace hK := Tr.trans hK ht31
  replace hB := Nat.le_trans hB ht31.ex.size
  replace hA := ht31.new
  replace hH : Hp w.heap.size A30 w28 (obS (α := level_Part) 50 v26 x25.1 :: obS (α := level_Part) 50 v15 x14.1 :: []) := hH32
  refine V_y (Y_move rfl) rfl rfl rfl ?_
  refine V_y (Y_extract rfl rfl) rfl rfl rfl ?_
  refine V_y (Y_extract rfl rfl) rfl rfl rfl ?_
  refine V_y (Y_assign rfl) rfl rfl rfl ?_
  refine V_y (Y_assign rfl) rfl rfl rfl ?_
  refine V_to (fun _ _ => rfl) ?_
  refine C_seq ?_
  obtain ⟨s34, ho33, hm⟩ := Option.bind_eq_some_iff.1 hm
  refine C_cutG (ι := (Nat → Prop)) (fun (A39 : (Nat → Prop)) => [(6, .bool s34)]) (fun (A39 : (Nat → Prop)) => fun w' => Hp w.heap.size A39 w' (obS (α := level_Part) 50 v26 x25.1 :: obS (α := level_Part) 50 v15 x14.1 :: []) ∧ Tr w.heap.size A30 w28 A39 w') ?_ ?_
  · have hr35 : Tr w.heap.size A30 w28 A30 w28 := Tr.refl hA
    refine C_region ?_
    refine V_y (Y_move rfl) rfl rfl rfl ?_
    refine V_y (Y_move rfl) rfl rfl rfl ?_
    refine V_y (Y_eql rfl rfl) rfl rfl rfl ?_
    refine V_y (Y_move rfl) rfl rfl rfl ?_
    rcases Bool.eq_false_or_eq_true (x14.2 == x25.2) with hc41 | hc41
    · rw [if_pos hc41] at ho33
      refine V_ge rfl rfl rfl hc41 ?_
      refine V_y (Y_move rfl) rfl rfl rfl ?_
      refine V_ge rfl rfl rfl hc41 ?_
      refine V_y (Y_move rfl) rfl rfl rfl ?_
      refine V_ge rfl rfl rfl hc41 ?_
      obtain ⟨x42, hx42, ho33⟩ := Option.bind_eq_some_iff.1 ho33
      refine V_call Try.call21 rfl rfl rfl rfl (slices_Equal_Llevel_Part_level_Part_c w28 (A := fun _ => True) (fun _ _ => trivial) x14.1 v15 (Hp.any (α := level_Part) (e := 50) (v := v15) (l := x14.1) hH (i := 1) rfl) x25.1 v26 (Hp.any (α := level_Part) (e := 50) (v := v26) (l := x25.1) hH (i := 0) rfl) hx42) ?_
      rintro _ w43 ⟨rfl, hk44⟩
      have ht45 := Kp.tr hk44 hA hB
      replace hH := Hp.kp hH hk44
      replace hK := Tr.trans hK ht45
      replace hr35 := Tr.trans hr35 ht45
      replace hB := Nat.le_trans hB ht45.ex.size
      replace hA := ht45.new
      refine V_y (Y_pick_te rfl hc41 rfl) rfl rfl rfl ?_
      refine V_y (Y_assign rfl) rfl rfl rfl ?_
      obtain rfl := Option.some.inj ho33
      refine V_end (fun a ha46 => ?_)
      exact ⟨A30, ha46.sub ⟨rfl, trivial⟩, ⟨hH, hr35⟩⟩
    · rw [if_neg (nt hc41)] at ho33
      refine V_gn rfl rfl rfl hc41 rfl rfl rfl ?_
      refine V_gn rfl rfl rfl hc41 rfl rfl rfl ?_
      refine V_gn rfl rfl rfl hc41 rfl rfl rfl ?_
      refine V_y (Y_pick_fe rfl hc41 rfl) rfl rfl rfl ?_
      refine V_y (Y_assign rfl) rfl rfl rfl ?_
      obtain rfl := Option.some.inj ho33
      refine V_end (fun a ha47 => ?_)
      exact ⟨A30, ha47.sub ⟨rfl, trivial⟩, ⟨hH, hr35⟩⟩
  rintro A39 w36 ⟨hH40, hk37⟩ a ha38
  replace hK := Tr.trans hK hk37
  replace hB := Nat.le_trans hB hk37.ex.size
  replace hA := hk37.new
  replace hH : Hp w.heap.size A39 w36 (obS (α := level_Part) 50 v26 x25.1 :: obS (α := level_Part) 50 v15 x14.1 :: []) := hH40
  refine C_at (n := ⟨33, [], none⟩) (fun _ _ => rfl) ?_ ha38
  obtain rfl := Option.some.inj hm
  refine C_ret ?_
  try simp only [↓inBlock_ret, ↓then_ret]
  exact retQ rfl (Res.one Try.results7 rfl) ⟨rfl, hK.kp⟩

end Go.Proofs.Ytpfoimbklbkcpaa.W
