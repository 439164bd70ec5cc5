/-
  Written by program (gen.py) from the IR of the dump: each function computes its model.
-/
import Derived.Test.YtklcifchnpnpnaaRosterGivesW0
namespace Go.Proofs.Ytklcifchnpnpnaa.W
open Go Go.RowKit Go.Pu Go.Gw Go.Proofs Go.Proofs.Ytklcifchnpnpnaa.M
set_option linter.unusedVariables false
set_option linter.unusedSimpArgs false

set_option maxRecDepth 4000 in
set_option maxHeartbeats 4000000 in
theorem portref2_FormsFault_c (w : World) {A : Nat → Prop} (hA : ∀ b, w.heap.size ≤ b → A b) (l : (List staff_Form)) (v_l : Value) (h_l : Sl A w v_l l) {r : Int} (hm : portref2_FormsFault l = some r) : Ret Try.prog 35 #[v_l] w fun v w' => v = .int .i64 r ∧ Kp w w' := by
  unfold portref2_FormsFault at hm
  refine enter Try.func35 rfl Try.ntmps35 rfl ?_
  have hA0 := hA
  have hB := Nat.le_refl w.heap.size
  have hK : Tr w.heap.size A w A w := Tr.refl hA
  have hH : Hp w.heap.size A w [] := Hp.nil
  refine C_seq ?_
  refine C_region ?_
  refine V_y (Y_assign rfl) rfl rfl rfl ?_
  refine V_to (fun _ _ => rfl) ?_
  refine C_seq ?_
  refine C_seq ?_
  refine C_region ?_
  refine V_y (Y_move rfl) rfl rfl rfl ?_
  refine V_y (Y_lenSl h_l rfl Try.underlying29 rfl) rfl rfl rfl ?_
  refine V_y (Y_gtr rfl rfl) rfl rfl rfl ?_
  refine V_to (fun _ _ => rfl) ?_
  refine C_cond rfl (fun hc3 => ?_) (fun hc3 => ?_)
  · rw [if_pos hc3] at hm
    refine C_seq ?_
    refine C_region ?_
    refine V_y (Y_assign rfl) rfl rfl rfl ?_
    refine V_to (fun _ _ => rfl) ?_
    obtain rfl := Option.some.inj hm
    refine C_ret ?_
    try simp only [↓inBlock_ret, ↓then_ret]
    exact retQ rfl (Res.one Try.results35 rfl) ⟨rfl, hK.kp⟩
  · rw [if_neg (nt hc3)] at hm
    refine C_skip_to (fun _ _ => rfl) ?_
    refine C_seq ?_
    refine C_seq ?_
    refine C_region ?_
    refine V_y (Y_move rfl) rfl rfl rfl ?_
    refine V_y (Y_lenSl h_l rfl Try.underlying29 rfl) rfl rfl rfl ?_
    refine V_y (Y_move rfl) rfl rfl rfl ?_
    refine V_to (fun _ _ => rfl) ?_
    have hn25 := Sl.le h_l
    obtain ⟨o4, ho4, hm⟩ := Option.bind_eq_some_iff.1 hm
    refine C_cutG (ι := (Unit × (Nat → Prop))) (fun ⟨s5, A12⟩ => []) (fun ⟨s5, A12⟩ => fun w' => o4 = .fin s5 ∧ Hp w.heap.size A12 w' ([]) ∧ Tr w.heap.size A w A12 w') ?_ ?_
    · refine C_block ?_
      refine C_range ho4 (fun k7 _ a w' => ∃ i : (Nat → Prop), Has ⟨62, [], none⟩ a ([(0, v_l), (8, v_l), (9, .int .i64 (l.length : Int)), (10, .int .i64 (k7 : Int))]) ∧ Hp w.heap.size i w' ([]) ∧ Tr w.heap.size A w i w') (fun a ha => ⟨A, ha.sub ⟨rfl, rfl, rfl, rfl, trivial⟩, ⟨hH, Tr.refl hA⟩⟩) ?_
      rintro K k7 _ a w15 ⟨A16, ha89, hH17, hr6⟩ hle21 K24 h23
      refine C_of ?_ ha89
      replace h_l := Sl.tr h_l hr6
      replace hK := Tr.trans hK hr6
      replace hB := Nat.le_trans hB hr6.ex.size
      replace hA := hr6.new
      replace hH : Hp w.heap.size A16 w15 ([]) := hH17
      refine C_seq (C_region (V_y (Y_lss rfl rfl) rfl rfl rfl (V_to (fun _ _ => rfl) ?_)))
      refine C_seq ?_
      refine C_cond rfl (fun hc26 => ?_) (fun hc26 => ?_)
      · have hlt22 := lt_of_dec hc26
        obtain ⟨x18, h19, h20⟩ := K24 hlt22
        refine C_skip_to (fun _ _ => rfl) ?_
        refine C_seq ?_
        refine C_block ?_
        refine C_seq ?_
        refine C_region ?_
        refine V_y (Y_move rfl) rfl rfl rfl ?_
        obtain ⟨x27, hx27, h19⟩ := Option.bind_eq_some_iff.1 h19
        refine V_indexAddr h_l hx27 Try.underlying29 Try.sizeOf52 rfl rfl rfl ?_
        intro b28 o29 h30
        obtain ⟨h31, _⟩ := El_staff_Form h30
        refine V_y (Y_loadA h31 Try.isAgg52 Try.sizeOf52 rfl) rfl rfl rfl ?_
        refine V_alloc Try.zeroValue52 rfl ?_
        intro b32 w33 h34
        refine V_y (Y_assign rfl) rfl rfl rfl ?_
        refine V_storeNew h34 Try.sizeOf52 rfl rfl rfl rfl (by exact (List.forall_mem_cons.2 ⟨rfl, (List.forall_mem_cons.2 ⟨rfl, (fun _ h => nomatch h)⟩)⟩)) ?_
        intro w35 h36
        have hk38 := h36.kp
        have h37 : El (α := staff_Form) A16 w35 b32 0 x27 := h36.el hA ⟨[.int .i64 x27.from_], _, rfl, rfl, rfl⟩
        have ht39 := Kp.tr hk38 hA hB
        replace hH := Hp.kp hH hk38
        replace h_l := Sl.tr h_l ht39
        replace h30 := El.tr h30 ht39
        replace hK := Tr.trans hK ht39
        replace hr6 := Tr.trans hr6 ht39
        replace hB := Nat.le_trans hB ht39.ex.size
        replace hA := ht39.new
        refine V_to (fun _ _ => rfl) ?_
        refine C_seq ?_
        refine C_seq ?_
        refine C_region ?_
        have h40 := El_staff_Form_0 h37
        refine V_y (Y_fieldAddr Try.underlying52 rfl Try.sizeOf3 (by decide) rfl) rfl rfl rfl ?_
        refine V_y (Y_load (El.int h40) Try.isAgg3 rfl) rfl rfl rfl ?_
        refine V_y (Y_lss rfl rfl) rfl rfl rfl ?_
        refine V_y (Y_move rfl) rfl rfl rfl ?_
        refine V_cut 4 (fun _ : Unit => [(0, v_l), (3, .int .i64 (k7 : Int)), (4, .pointer (some ⟨b32, 0, none⟩)), (8, v_l), (9, .int .i64 (l.length : Int)), (10, .int .i64 (k7 : Int)), (22, .bool ((decide (x27.from_ < 0)) || (decide ((400 : Int) ≤ x27.from_))))]) (fun _ w' => w35 = w') ?_ ?_
        · simp only [List.take, List.drop]
          rcases Bool.eq_false_or_eq_true (decide (x27.from_ < 0)) with hc41 | hc41
          · refine V_gn rfl rfl rfl hc41 rfl rfl rfl ?_
            refine V_gn rfl rfl rfl hc41 rfl rfl rfl ?_
            refine V_gn rfl rfl rfl hc41 rfl rfl rfl ?_
            refine V_y (Y_pick_te rfl hc41 rfl) rfl rfl rfl ?_
            exact V_end fun a ha => ⟨(), ha.sub ⟨rfl, rfl, rfl, rfl, rfl, rfl, (by rw [hc41]; rfl), trivial⟩, rfl⟩
          · refine V_ge rfl rfl rfl hc41 ?_
            have h43 := El_staff_Form_0 h37
            refine V_y (Y_fieldAddr Try.underlying52 rfl Try.sizeOf3 (by decide) rfl) rfl rfl rfl ?_
            refine V_ge rfl rfl rfl hc41 ?_
            refine V_y (Y_load (El.int h43) Try.isAgg3 rfl) rfl rfl rfl ?_
            refine V_ge rfl rfl rfl hc41 ?_
            refine V_y (Y_geq rfl rfl) rfl rfl rfl ?_
            refine V_y (Y_pick_fe rfl hc41 rfl) rfl rfl rfl ?_
            exact V_end fun a ha => ⟨(), ha.sub ⟨rfl, rfl, rfl, rfl, rfl, rfl, (by rw [hc41]; rfl), trivial⟩, rfl⟩
        simp only [List.take, List.drop]
        rintro _ _ rfl
        refine V_y (Y_move rfl) rfl rfl rfl ?_
        refine V_cut 4 (fun _ : Unit => [(0, v_l), (3, .int .i64 (k7 : Int)), (4, .pointer (some ⟨b32, 0, none⟩)), (8, v_l), (9, .int .i64 (l.length : Int)), (10, .int .i64 (k7 : Int)), (27, .bool (((decide (x27.from_ < 0)) || (decide ((400 : Int) ≤ x27.from_))) || (decide (x27.slots < 1))))]) (fun _ w' => w35 = w') ?_ ?_
        · simp only [List.take, List.drop]
          rcases Bool.eq_false_or_eq_true (((decide (x27.from_ < 0)) || (decide ((400 : Int) ≤ x27.from_)))) with hc44 | hc44
          · refine V_gn rfl rfl rfl hc44 rfl rfl rfl ?_
            refine V_gn rfl rfl rfl hc44 rfl rfl rfl ?_
            refine V_gn rfl rfl rfl hc44 rfl rfl rfl ?_
            refine V_y (Y_pick_te rfl hc44 rfl) rfl rfl rfl ?_
            exact V_end fun a ha => ⟨(), ha.sub ⟨rfl, rfl, rfl, rfl, rfl, rfl, (by rw [hc44]; rfl), trivial⟩, rfl⟩
          · refine V_ge rfl rfl rfl hc44 ?_
            have h46 := El_staff_Form_1 h37
            refine V_y (Y_fieldAddr Try.underlying52 rfl Try.sizeOf3 (by decide) rfl) rfl rfl rfl ?_
            refine V_ge rfl rfl rfl hc44 ?_
            refine V_y (Y_load (El.int h46) Try.isAgg3 rfl) rfl rfl rfl ?_
            refine V_ge rfl rfl rfl hc44 ?_
            refine V_y (Y_lss rfl rfl) rfl rfl rfl ?_
            refine V_y (Y_pick_fe rfl hc44 rfl) rfl rfl rfl ?_
            exact V_end fun a ha => ⟨(), ha.sub ⟨rfl, rfl, rfl, rfl, rfl, rfl, (by rw [hc44]; rfl), trivial⟩, rfl⟩
        simp only [List.take, List.drop]
        rintro _ _ rfl
        refine V_y (Y_move rfl) rfl rfl rfl ?_
        refine V_cut 7 (fun _ : Unit => [(0, v_l), (3, .int .i64 (k7 : Int)), (4, .pointer (some ⟨b32, 0, none⟩)), (8, v_l), (9, .int .i64 (l.length : Int)), (10, .int .i64 (k7 : Int)), (35, .bool ((((decide (x27.from_ < 0)) || (decide ((400 : Int) ≤ x27.from_))) || (decide (x27.slots < 1))) || (decide ((w64 (400 - x27.from_)) < x27.slots))))]) (fun _ w' => w35 = w') ?_ ?_
        · simp only [List.take, List.drop]
          rcases Bool.eq_false_or_eq_true ((((decide (x27.from_ < 0)) || (decide ((400 : Int) ≤ x27.from_))) || (decide (x27.slots < 1)))) with hc47 | hc47
          · refine V_gn rfl rfl rfl hc47 rfl rfl rfl ?_
            refine V_gn rfl rfl rfl hc47 rfl rfl rfl ?_
            refine V_gn rfl rfl rfl hc47 rfl rfl rfl ?_
            refine V_gn rfl rfl rfl hc47 rfl rfl rfl ?_
            refine V_gn rfl rfl rfl hc47 rfl rfl rfl ?_
            refine V_gn rfl rfl rfl hc47 rfl rfl rfl ?_
            refine V_y (Y_pick_te rfl hc47 rfl) rfl rfl rfl ?_
            exact V_end fun a ha => ⟨(), ha.sub ⟨rfl, rfl, rfl, rfl, rfl, rfl, (by rw [hc47]; rfl), trivial⟩, rfl⟩
          · refine V_ge rfl rfl rfl hc47 ?_
            have h49 := El_staff_Form_1 h37
            refine V_y (Y_fieldAddr Try.underlying52 rfl Try.sizeOf3 (by decide) rfl) rfl rfl rfl ?_
            refine V_ge rfl rfl rfl hc47 ?_
            refine V_y (Y_load (El.int h49) Try.isAgg3 rfl) rfl rfl rfl ?_
            refine V_ge rfl rfl rfl hc47 ?_
            have h50 := El_staff_Form_0 h37
            refine V_y (Y_fieldAddr Try.underlying52 rfl Try.sizeOf3 (by decide) rfl) rfl rfl rfl ?_
            refine V_ge rfl rfl rfl hc47 ?_
            refine V_y (Y_load (El.int h50) Try.isAgg3 rfl) rfl rfl rfl ?_
            refine V_ge rfl rfl rfl hc47 ?_
            refine V_y (Y_subI rfl rfl) rfl rfl rfl ?_
            refine V_ge rfl rfl rfl hc47 ?_
            refine V_y (Y_gtr rfl rfl) rfl rfl rfl ?_
            refine V_y (Y_pick_fe rfl hc47 rfl) rfl rfl rfl ?_
            exact V_end fun a ha => ⟨(), ha.sub ⟨rfl, rfl, rfl, rfl, rfl, rfl, (by rw [hc47]; rfl), trivial⟩, rfl⟩
        simp only [List.take, List.drop]
        rintro _ _ rfl
        refine V_to (fun _ _ => rfl) ?_
        refine C_cond rfl (fun hc51 => ?_) (fun hc51 => ?_)
        · rw [if_pos hc51] at h19
          refine C_seq ?_
          refine C_region ?_
          refine V_y (Y_assign rfl) rfl rfl rfl ?_
          refine V_to (fun _ _ => rfl) ?_
          obtain rfl := Option.some.inj h19
          obtain rfl := (h20 : Lp.rt _ = _)
          rw [Lp.andThen_rt] at hm
          obtain rfl := Option.some.inj hm
          refine C_ret ?_
          try simp only [↓inBlock_ret, ↓then_ret]
          exact retQ rfl (Res.one Try.results35 rfl) ⟨rfl, hK.kp⟩
        · rw [if_neg (nt hc51)] at h19
          refine C_skip_to (fun _ _ => rfl) ?_
          refine C_seq ?_
          obtain ⟨s53, ho52, h19⟩ := Option.bind_eq_some_iff.1 h19
          refine C_cutG (ι := (Nat → Prop)) (fun (A58 : (Nat → Prop)) => [(0, v_l), (8, v_l), (9, .int .i64 (l.length : Int)), (10, .int .i64 (k7 : Int)), (60, .bool s53)]) (fun (A58 : (Nat → Prop)) => fun w' => Hp w.heap.size A58 w' ([]) ∧ Tr w.heap.size A16 w35 A58 w') ?_ ?_
          · have hr54 : Tr w.heap.size A16 w35 A16 w35 := Tr.refl hA
            refine C_region_qt 21 Try_mixed (by kernel_rfl) ?_
            simp only [List.take, List.drop]
            refine VQ_y (fun w' hw' => Y_move rfl) rfl rfl rfl ?_
            refine VQ_y (fun w' hw' => Y_gtr rfl rfl) rfl rfl rfl ?_
            refine VQ_y (fun w' hw' => Y_move rfl) rfl rfl rfl ?_
            rcases Bool.eq_false_or_eq_true (decide ((0 : Int) < (k7 : Int))) with hc60 | hc60
            · rw [if_pos hc60] at ho52
              refine VQ_ge rfl rfl rfl hc60 ?_
              refine VQ_y (fun w' hw' => Y_move rfl) rfl rfl rfl ?_
              refine VQ_ge rfl rfl rfl hc60 ?_
              refine VQ_y (fun w' hw' => Y_move rfl) rfl rfl rfl ?_
              refine VQ_ge rfl rfl rfl hc60 ?_
              refine VQ_y (fun w' hw' => Y_subI rfl rfl) rfl rfl rfl ?_
              refine VQ_ge rfl rfl rfl hc60 ?_
              obtain ⟨x61, hx61, ho52⟩ := Option.bind_eq_some_iff.1 ho52
              refine VQ_indexAddr h_l hx61 Try.underlying29 Try.sizeOf52 rfl rfl rfl ?_
              intro b62 o63 h64
              refine VQ_ge rfl rfl rfl hc60 ?_
              have h65 := El_staff_Form_0 h64
              refine VQ_y (fun w' hw' => Y_fieldAddr Try.underlying52 rfl Try.sizeOf3 (by decide) rfl) rfl rfl rfl ?_
              refine VQ_ge rfl rfl rfl hc60 ?_
              refine VQ_y (fun w' hw' => Y_load (El.int (El.kp h65 hw')) Try.isAgg3 rfl) rfl rfl rfl ?_
              refine VQ_ge rfl rfl rfl hc60 ?_
              have h66 := El_staff_Form_0 h37
              refine VQ_y (fun w' hw' => Y_fieldAddr Try.underlying52 rfl Try.sizeOf3 (by decide) rfl) rfl rfl rfl ?_
              refine VQ_ge rfl rfl rfl hc60 ?_
              refine VQ_y (fun w' hw' => Y_load (El.int (El.kp h66 hw')) Try.isAgg3 rfl) rfl rfl rfl ?_
              refine VQ_ge rfl rfl rfl hc60 ?_
              refine VQ_call (.int .i64 (cmp_Compare_int x61.from_ x27.from_)) Try.call32 rfl rfl rfl rfl (fun w' hw' => (cmp_Compare_int_c w' x61.from_ x27.from_).mono (fun _ _ h => ⟨h.1, h.2 ▸ hw'⟩)) ?_
              refine VQ_ge rfl rfl rfl hc60 ?_
              refine VQ_y (fun w' hw' => Y_move rfl) rfl rfl rfl ?_
              refine VQ_ge rfl rfl rfl hc60 ?_
              refine VQ_y (fun w' hw' => Y_move rfl) rfl rfl rfl ?_
              refine VQ_ge rfl rfl rfl hc60 ?_
              refine VQ_y (fun w' hw' => Y_subI rfl rfl) rfl rfl rfl ?_
              refine VQ_ge rfl rfl rfl hc60 ?_
              refine VQ_indexAddr h_l hx61 Try.underlying29 Try.sizeOf52 rfl rfl rfl ?_
              intro b67 o68 h69
              refine VQ_ge rfl rfl rfl hc60 ?_
              have h70 := El_staff_Form_1 h69
              refine VQ_y (fun w' hw' => Y_fieldAddr Try.underlying52 rfl Try.sizeOf3 (by decide) rfl) rfl rfl rfl ?_
              refine VQ_ge rfl rfl rfl hc60 ?_
              refine VQ_y (fun w' hw' => Y_load (El.int (El.kp h70 hw')) Try.isAgg3 rfl) rfl rfl rfl ?_
              refine VQ_ge rfl rfl rfl hc60 ?_
              have h71 := El_staff_Form_1 h37
              refine VQ_y (fun w' hw' => Y_fieldAddr Try.underlying52 rfl Try.sizeOf3 (by decide) rfl) rfl rfl rfl ?_
              refine VQ_ge rfl rfl rfl hc60 ?_
              refine VQ_y (fun w' hw' => Y_load (El.int (El.kp h71 hw')) Try.isAgg3 rfl) rfl rfl rfl ?_
              refine VQ_ge rfl rfl rfl hc60 ?_
              refine VQ_call (.int .i64 (cmp_Compare_int x61.slots x27.slots)) Try.call32 rfl rfl rfl rfl (fun w' hw' => (cmp_Compare_int_c w' x61.slots x27.slots).mono (fun _ _ h => ⟨h.1, h.2 ▸ hw'⟩)) ?_
              refine VQ_tail (fun w72 hk73 => ?_)
              try simp only [List.take, List.drop]
              have ht74 := Kp.tr hk73 hA hB
              replace hH := Hp.kp hH hk73
              replace h_l := Sl.tr h_l ht74
              replace h37 := El.tr h37 ht74
              replace h64 := El.tr h64 ht74
              replace h65 := El.tr h65 ht74
              replace h66 := El.tr h66 ht74
              replace h69 := El.tr h69 ht74
              replace h70 := El.tr h70 ht74
              replace h71 := El.tr h71 ht74
              replace hK := Tr.trans hK ht74
              replace hr6 := Tr.trans hr6 ht74
              replace hr54 := Tr.trans hr54 ht74
              replace hB := Nat.le_trans hB ht74.ex.size
              replace hA := ht74.new
              refine V_ge rfl rfl rfl hc60 ?_
              refine V_buildSlice (l := ([(cmp_Compare_int x61.from_ x27.from_), (cmp_Compare_int x61.slots x27.slots)] : List Int)) (len := 2) Try.underlying23 Try.sizeOf3 Try.zeroValue3 rfl (by with_unfolding_all rfl) (by decide) (by decide) hA ⟨[.int .i64 (cmp_Compare_int x61.from_ x27.from_)], _, rfl, rfl, ⟨[.int .i64 (cmp_Compare_int x61.slots x27.slots)], _, rfl, rfl, rfl⟩⟩ rfl rfl ?_
              intro v75 w76 hk78 h77
              have ht79 := Kp.tr hk78 hA hB
              replace hH := Hp.kp hH hk78
              replace h_l := Sl.tr h_l ht79
              replace h37 := El.tr h37 ht79
              replace h64 := El.tr h64 ht79
              replace h65 := El.tr h65 ht79
              replace h66 := El.tr h66 ht79
              replace h69 := El.tr h69 ht79
              replace h70 := El.tr h70 ht79
              replace h71 := El.tr h71 ht79
              replace hK := Tr.trans hK ht79
              replace hr6 := Tr.trans hr6 ht79
              replace hr54 := Tr.trans hr54 ht79
              replace hB := Nat.le_trans hB ht79.ex.size
              replace hA := ht79.new
              refine V_ge rfl rfl rfl hc60 ?_
              obtain ⟨x80, hx80, ho52⟩ := Option.bind_eq_some_iff.1 ho52
              refine V_call Try.call31 rfl rfl rfl rfl (cmp_Or_int_c w76 ([(cmp_Compare_int x61.from_ x27.from_), (cmp_Compare_int x61.slots x27.slots)] : List Int) v75 h77 hx80) ?_
              rintro _ _ ⟨rfl, rfl⟩
              refine V_ge rfl rfl rfl hc60 ?_
              refine V_y (Y_geq rfl rfl) rfl rfl rfl ?_
              refine V_y (Y_pick_te rfl hc60 rfl) rfl rfl rfl ?_
              obtain rfl := Option.some.inj ho52
              refine V_end (fun a ha81 => ?_)
              exact ⟨A16, ha81.sub ⟨rfl, rfl, rfl, rfl, rfl, trivial⟩, ⟨hH, hr54⟩⟩
            · rw [if_neg (nt hc60)] at ho52
              refine VQ_gn rfl rfl rfl hc60 rfl rfl rfl ?_
              refine VQ_gn rfl rfl rfl hc60 rfl rfl rfl ?_
              refine VQ_gn rfl rfl rfl hc60 rfl rfl rfl ?_
              refine VQ_gn rfl rfl rfl hc60 rfl rfl rfl ?_
              refine VQ_gn rfl rfl rfl hc60 rfl rfl rfl ?_
              refine VQ_gn rfl rfl rfl hc60 rfl rfl rfl ?_
              refine VQ_gn rfl rfl rfl hc60 rfl rfl rfl ?_
              refine VQ_gn rfl rfl rfl hc60 rfl rfl rfl ?_
              refine VQ_gn rfl rfl rfl hc60 rfl rfl rfl ?_
              refine VQ_gn rfl rfl rfl hc60 rfl rfl rfl ?_
              refine VQ_gn rfl rfl rfl hc60 rfl rfl rfl ?_
              refine VQ_gn rfl rfl rfl hc60 rfl rfl rfl ?_
              refine VQ_gn rfl rfl rfl hc60 rfl rfl rfl ?_
              refine VQ_gn rfl rfl rfl hc60 rfl rfl rfl ?_
              refine VQ_gn rfl rfl rfl hc60 rfl rfl rfl ?_
              refine VQ_gn rfl rfl rfl hc60 rfl rfl rfl ?_
              refine VQ_gn rfl rfl rfl hc60 rfl rfl rfl ?_
              refine VQ_gn rfl rfl rfl hc60 rfl rfl rfl ?_
              refine VQ_tail (fun w82 hk83 => ?_)
              try simp only [List.take, List.drop]
              have ht84 := Kp.tr hk83 hA hB
              replace hH := Hp.kp hH hk83
              replace h_l := Sl.tr h_l ht84
              replace h37 := El.tr h37 ht84
              replace hK := Tr.trans hK ht84
              replace hr6 := Tr.trans hr6 ht84
              replace hr54 := Tr.trans hr54 ht84
              replace hB := Nat.le_trans hB ht84.ex.size
              replace hA := ht84.new
              refine V_gn rfl rfl rfl hc60 rfl rfl rfl ?_
              refine V_gn rfl rfl rfl hc60 rfl rfl rfl ?_
              refine V_gn rfl rfl rfl hc60 rfl rfl rfl ?_
              refine V_y (Y_pick_fe rfl hc60 rfl) rfl rfl rfl ?_
              obtain rfl := Option.some.inj ho52
              refine V_end (fun a ha85 => ?_)
              exact ⟨A16, ha85.sub ⟨rfl, rfl, rfl, rfl, rfl, trivial⟩, ⟨hH, hr54⟩⟩
          rintro A58 w55 ⟨hH59, hk56⟩ a ha57
          replace h_l := Sl.tr h_l hk56
          replace hK := Tr.trans hK hk56
          replace hr6 := Tr.trans hr6 hk56
          replace hB := Nat.le_trans hB hk56.ex.size
          replace hA := hk56.new
          replace hH : Hp w.heap.size A58 w55 ([]) := hH59
          refine C_at (n := ⟨62, [], none⟩) (fun _ _ => rfl) ?_ ha57
          refine C_cond rfl (fun hc86 => ?_) (fun hc86 => ?_)
          · rw [if_pos hc86] at h19
            refine C_seq ?_
            refine C_region ?_
            refine V_y (Y_assign rfl) rfl rfl rfl ?_
            refine V_to (fun _ _ => rfl) ?_
            obtain rfl := Option.some.inj h19
            obtain rfl := (h20 : Lp.rt _ = _)
            rw [Lp.andThen_rt] at hm
            obtain rfl := Option.some.inj hm
            refine C_ret ?_
            try simp only [↓inBlock_ret, ↓then_ret]
            exact retQ rfl (Res.one Try.results35 rfl) ⟨rfl, hK.kp⟩
          · rw [if_neg (nt hc86)] at h19
            refine C_skip_to (fun _ _ => rfl) ?_
            refine C_region ?_
            refine V_y (Y_addI rfl rfl) rfl rfl rfl ?_
            refine V_y (Y_move rfl) rfl rfl rfl ?_
            obtain rfl := Option.some.inj h19
            refine V_end (fun a ha87 => ?_)
            exact ⟨(), hlt22, h20, ⟨A58, ha87.sub ⟨rfl, rfl, rfl, (congrArg (fun z => some (Value.int .i64 z)) (w64_succ hlt22 hn25)), trivial⟩, ⟨hH, hr6⟩⟩⟩
      · refine C_exit (fun a ha88 => ?_)
        exact ⟨((), A16), ha88.sub trivial, ⟨(h23 (eq_of_dec hle21 hc26)).symm, hH, hr6⟩⟩
    rintro ⟨s5, A12⟩ w9 ⟨rfl, hH13, hk10⟩ a ha11
    rw [Lp.andThen_fin] at hm
    replace hK := Tr.trans hK hk10
    replace hB := Nat.le_trans hB hk10.ex.size
    replace hA := hk10.new
    replace hH : Hp w.heap.size A12 w9 ([]) := hH13
    refine C_at (n := ⟨62, [], none⟩) (fun _ _ => rfl) ?_ ha11
    refine C_seq ?_
    refine C_region ?_
    refine V_y (Y_assign rfl) rfl rfl rfl ?_
    refine V_to (fun _ _ => rfl) ?_
    obtain rfl := Option.some.inj hm
    refine C_ret ?_
    try simp only [↓inBlock_ret, ↓then_ret]
    exact retQ rfl (Res.one Try.results35 rfl) ⟨rfl, hK.kp⟩

set_option maxRecDepth 4000 in
set_option maxHeartbeats 4000000 in
theorem slices_IndexFunc_Lint_int_c (w : World) {A : Nat → Prop} (hA : ∀ b, w.heap.size ≤ b → A b) (s : (List Int)) (v_s : Value) (h_s : Sl A w v_s s) (f : Int → Option Bool) (f_f : FuncId) (f_a f_c : Array Value) (f_call : ∀ (args : Array Value) (w : World), (callFunc f_f args).run Try.prog w = .ok (.enter f_f args) w) (f_spec : ∀ (w1 : World) (A1 : Nat → Prop), Tr w.heap.size A w A1 w1 → (∀ b, w1.heap.size ≤ b → A1 b) → ∀ (y0 : Int) (r : Bool), f y0 = some r → Ret Try.prog f_f (f_a ++ #[.int .i64 y0] ++ f_c) w1 fun v w' => v = .bool r ∧ Kp w1 w') {r : Int} (hm : slices_IndexFunc_Lint_int s f = some r) : Ret Try.prog 59 #[v_s, .func (.func f_f) f_a f_c] w fun v w' => v = .int .i64 r ∧ Kp w w' := by
  unfold slices_IndexFunc_Lint_int at hm
  refine enter Try.func59 rfl Try.ntmps59 rfl ?_
  have hA0 := hA
  have hB := Nat.le_refl w.heap.size
  have hK : Tr w.heap.size A w A w := Tr.refl hA
  have hH : Hp w.heap.size A w [] := Hp.nil
  refine C_seq ?_
  refine C_region ?_
  refine V_y (Y_assign rfl) rfl rfl rfl ?_
  refine V_to (fun _ _ => rfl) ?_
  refine C_seq ?_
  refine C_seq ?_
  refine C_region ?_
  refine V_y (Y_move rfl) rfl rfl rfl ?_
  refine V_y (Y_lenSl h_s rfl Try.underlying23 rfl) rfl rfl rfl ?_
  refine V_y (Y_move rfl) rfl rfl rfl ?_
  refine V_to (fun _ _ => rfl) ?_
  have hn23 := Sl.le h_s
  obtain ⟨o3, ho3, hm⟩ := Option.bind_eq_some_iff.1 hm
  refine C_cutG (ι := (Unit × (Nat → Prop))) (fun ⟨s4, A10⟩ => []) (fun ⟨s4, A10⟩ => fun w' => o3 = .fin s4 ∧ Hp w.heap.size A10 w' ([]) ∧ Tr w.heap.size A w A10 w') ?_ ?_
  · refine C_block ?_
    refine C_range ho3 (fun k6 _ a w' => ∃ i : (Nat → Prop), Has ⟨19, [], none⟩ a ([(0, v_s), (1, .func (.func f_f) f_a f_c), (7, .int .i64 (s.length : Int)), (8, .int .i64 (k6 : Int))]) ∧ Hp w.heap.size i w' ([]) ∧ Tr w.heap.size A w i w') (fun a ha => ⟨A, ha.sub ⟨rfl, rfl, rfl, rfl, trivial⟩, ⟨hH, Tr.refl hA⟩⟩) ?_
    rintro K k6 _ a w13 ⟨A14, ha36, hH15, hr5⟩ hle19 K22 h21
    refine C_of ?_ ha36
    replace h_s := Sl.tr h_s hr5
    replace hK := Tr.trans hK hr5
    replace hB := Nat.le_trans hB hr5.ex.size
    replace hA := hr5.new
    replace hH : Hp w.heap.size A14 w13 ([]) := hH15
    refine C_seq (C_region (V_y (Y_lss rfl rfl) rfl rfl rfl (V_to (fun _ _ => rfl) ?_)))
    refine C_seq ?_
    refine C_cond rfl (fun hc24 => ?_) (fun hc24 => ?_)
    · have hlt20 := lt_of_dec hc24
      obtain ⟨x16, h17, h18⟩ := K22 hlt20
      refine C_skip_to (fun _ _ => rfl) ?_
      refine C_seq ?_
      refine C_block ?_
      refine C_seq ?_
      refine C_region ?_
      refine V_y (Y_move rfl) rfl rfl rfl ?_
      refine V_y (Y_assign rfl) rfl rfl rfl ?_
      refine V_to (fun _ _ => rfl) ?_
      refine C_seq ?_
      refine C_region ?_
      refine V_y (Y_move rfl) rfl rfl rfl ?_
      refine V_y (Y_move rfl) rfl rfl rfl ?_
      refine V_y (Y_move rfl) rfl rfl rfl ?_
      obtain ⟨x25, hx25, h17⟩ := Option.bind_eq_some_iff.1 h17
      refine V_indexAddr h_s hx25 Try.underlying23 Try.sizeOf3 rfl rfl rfl ?_
      intro b26 o27 h28
      refine V_y (Y_load (El.int h28) Try.isAgg3 rfl) rfl rfl rfl ?_
      obtain ⟨x29, hx29, h17⟩ := Option.bind_eq_some_iff.1 h17
      refine V_call f_call rfl rfl rfl rfl (f_spec w13 _ hK hA x25 _ hx29) ?_
      rintro _ w30 ⟨rfl, hk31⟩
      have ht32 := Kp.tr hk31 hA hB
      replace hH := Hp.kp hH hk31
      replace h_s := Sl.tr h_s ht32
      replace h28 := El.tr h28 ht32
      replace hK := Tr.trans hK ht32
      replace hr5 := Tr.trans hr5 ht32
      replace hB := Nat.le_trans hB ht32.ex.size
      replace hA := ht32.new
      refine V_to (fun _ _ => rfl) ?_
      refine C_cond rfl (fun hc33 => ?_) (fun hc33 => ?_)
      · rw [if_pos hc33] at h17
        refine C_seq ?_
        refine C_region ?_
        refine V_y (Y_move rfl) rfl rfl rfl ?_
        refine V_y (Y_assign rfl) rfl rfl rfl ?_
        refine V_to (fun _ _ => rfl) ?_
        obtain rfl := Option.some.inj h17
        obtain rfl := (h18 : Lp.rt _ = _)
        rw [Lp.andThen_rt] at hm
        obtain rfl := Option.some.inj hm
        refine C_ret ?_
        try simp only [↓inBlock_ret, ↓then_ret]
        exact retQ rfl (Res.one Try.results59 rfl) ⟨rfl, hK.kp⟩
      · rw [if_neg (nt hc33)] at h17
        refine C_skip_to (fun _ _ => rfl) ?_
        refine C_region ?_
        refine V_y (Y_addI rfl rfl) rfl rfl rfl ?_
        refine V_y (Y_move rfl) rfl rfl rfl ?_
        obtain rfl := Option.some.inj h17
        refine V_end (fun a ha34 => ?_)
        exact ⟨(), hlt20, h18, ⟨A14, ha34.sub ⟨rfl, rfl, rfl, (congrArg (fun z => some (Value.int .i64 z)) (w64_succ hlt20 hn23)), trivial⟩, ⟨hH, hr5⟩⟩⟩
    · refine C_exit (fun a ha35 => ?_)
      exact ⟨((), A14), ha35.sub trivial, ⟨(h21 (eq_of_dec hle19 hc24)).symm, hH, hr5⟩⟩
  rintro ⟨s4, A10⟩ w7 ⟨rfl, hH11, hk8⟩ a ha9
  rw [Lp.andThen_fin] at hm
  replace hK := Tr.trans hK hk8
  replace hB := Nat.le_trans hB hk8.ex.size
  replace hA := hk8.new
  replace hH : Hp w.heap.size A10 w7 ([]) := hH11
  refine C_at (n := ⟨19, [], none⟩) (fun _ _ => rfl) ?_ ha9
  refine C_seq ?_
  refine C_region ?_
  refine V_y (Y_assign rfl) rfl rfl rfl ?_
  refine V_to (fun _ _ => rfl) ?_
  obtain rfl := Option.some.inj hm
  refine C_ret ?_
  try simp only [↓inBlock_ret, ↓then_ret]
  exact retQ rfl (Res.one Try.results59 rfl) ⟨rfl, hK.kp⟩

set_option maxRecDepth 4000 in
set_option maxHeartbeats 4000000 in
theorem slices_ContainsFunc_Lint_int_c (w : World) {A : Nat → Prop} (hA : ∀ b, w.heap.size ≤ b → A b) (s : (List Int)) (v_s : Value) (h_s : Sl A w v_s s) (f : Int → Option Bool) (f_f : FuncId) (f_a f_c : Array Value) (f_call : ∀ (args : Array Value) (w : World), (callFunc f_f args).run Try.prog w = .ok (.enter f_f args) w) (f_spec : ∀ (w1 : World) (A1 : Nat → Prop), Tr w.heap.size A w A1 w1 → (∀ b, w1.heap.size ≤ b → A1 b) → ∀ (y0 : Int) (r : Bool), f y0 = some r → Ret Try.prog f_f (f_a ++ #[.int .i64 y0] ++ f_c) w1 fun v w' => v = .bool r ∧ Kp w1 w') {r : Bool} (hm : slices_ContainsFunc_Lint_int s f = some r) : Ret Try.prog 56 #[v_s, .func (.func f_f) f_a f_c] w fun v w' => v = .bool r ∧ Kp w w' := by
  unfold slices_ContainsFunc_Lint_int at hm
  refine enter Try.func56 rfl Try.ntmps56 rfl ?_
  have hA0 := hA
  have hB := Nat.le_refl w.heap.size
  have hK : Tr w.heap.size A w A w := Tr.refl hA
  have hH : Hp w.heap.size A w [] := Hp.nil
  refine C_seq ?_
  refine C_region ?_
  refine V_y (Y_assign rfl) rfl rfl rfl ?_
  refine V_to (fun _ _ => rfl) ?_
  refine C_seq ?_
  refine C_region ?_
  refine V_y (Y_move rfl) rfl rfl rfl ?_
  refine V_y (Y_move rfl) rfl rfl rfl ?_
  obtain ⟨x3, hx3, hm⟩ := Option.bind_eq_some_iff.1 hm
  refine V_call Try.call59 rfl rfl rfl rfl (slices_IndexFunc_Lint_int_c w hA s v_s h_s f f_f f_a f_c f_call (fun w1 A1 ht => f_spec w1 A1 (Tr.trans hK ht)) hx3) ?_
  rintro _ w4 ⟨rfl, hk5⟩
  have ht6 := Kp.tr hk5 hA hB
  replace hH := Hp.kp hH hk5
  replace h_s := Sl.tr h_s ht6
  replace hK := Tr.trans hK ht6
  replace hB := Nat.le_trans hB ht6.ex.size
  replace hA := ht6.new
  refine V_y (Y_geq rfl rfl) rfl rfl rfl ?_
  refine V_y (Y_assign rfl) rfl rfl rfl ?_
  refine V_to (fun _ _ => rfl) ?_
  obtain rfl := Option.some.inj hm
  refine C_ret ?_
  try simp only [↓inBlock_ret, ↓then_ret]
  exact retQ rfl (Res.one Try.results56 rfl) ⟨rfl, hK.kp⟩

set_option maxRecDepth 4000 in
set_option maxHeartbeats 4000000 in
theorem portref2_outside_1_c (w : World) {A : Nat → Prop} (n : Int) (p1 : Int) (b_p1 : Nat) (h_p1 : El A w b_p1 0 p1) {r : Bool} (hm : portref2_outside_1 n p1 = some r) : Ret Try.prog 57 #[.int .i64 n, .pointer (some ⟨b_p1, 0, none⟩)] w fun v w' => v = .bool r ∧ w = w' := by
  unfold portref2_outside_1 at hm
  refine enter Try.func57 rfl Try.ntmps57 rfl ?_
  refine C_seq ?_
  refine C_region ?_
  refine V_y (Y_assign rfl) rfl rfl rfl ?_
  refine V_to (fun _ _ => rfl) ?_
  refine C_seq ?_
  refine C_region ?_
  refine V_y (Y_move rfl) rfl rfl rfl ?_
  refine V_y (Y_lss rfl rfl) rfl rfl rfl ?_
  refine V_y (Y_move rfl) rfl rfl rfl ?_
  refine V_cut 4 (fun _ : Unit => [(10, .bool ((decide (n < 0)) || (decide (p1 < n))))]) (fun _ w' => w = w') ?_ ?_
  · simp only [List.take, List.drop]
    rcases Bool.eq_false_or_eq_true (decide (n < 0)) with hc1 | hc1
    · refine V_gn rfl rfl rfl hc1 rfl rfl rfl ?_
      refine V_gn rfl rfl rfl hc1 rfl rfl rfl ?_
      refine V_gn rfl rfl rfl hc1 rfl rfl rfl ?_
      refine V_y (Y_pick_te rfl hc1 rfl) rfl rfl rfl ?_
      exact V_end fun a ha => ⟨(), ha.sub ⟨(by rw [hc1]; rfl), trivial⟩, rfl⟩
    · refine V_ge rfl rfl rfl hc1 ?_
      refine V_y (Y_move rfl) rfl rfl rfl ?_
      refine V_ge rfl rfl rfl hc1 ?_
      refine V_y (Y_load (El.int h_p1) Try.isAgg3 rfl) rfl rfl rfl ?_
      refine V_ge rfl rfl rfl hc1 ?_
      refine V_y (Y_gtr rfl rfl) rfl rfl rfl ?_
      refine V_y (Y_pick_fe rfl hc1 rfl) rfl rfl rfl ?_
      exact V_end fun a ha => ⟨(), ha.sub ⟨(by rw [hc1]; rfl), trivial⟩, rfl⟩
  simp only [List.take, List.drop]
  rintro _ _ rfl
  refine V_y (Y_assign rfl) rfl rfl rfl ?_
  refine V_to (fun _ _ => rfl) ?_
  obtain rfl := Option.some.inj hm
  refine C_ret ?_
  try simp only [↓inBlock_ret, ↓then_ret]
  exact retQ rfl (Res.one Try.results57 rfl) ⟨rfl, rfl⟩

set_option maxRecDepth 4000 in
set_option maxHeartbeats 4000000 in
theorem portref2_outside_c (w : World) {A : Nat → Prop} (hA : ∀ b, w.heap.size ≤ b → A b) (l : (List Int)) (v_l : Value) (h_l : Sl A w v_l l) (most : Int) {r : Bool} (hm : portref2_outside l most = some r) : Ret Try.prog 50 #[v_l, .int .i64 most] w fun v w' => v = .bool r ∧ Kp w w' := by
  unfold portref2_outside at hm
  refine enter Try.func50 rfl Try.ntmps50 rfl ?_
  have hA0 := hA
  have hB := Nat.le_refl w.heap.size
  have hK : Tr w.heap.size A w A w := Tr.refl hA
  have hH : Hp w.heap.size A w [] := Hp.nil
  refine C_seq ?_
  refine C_region ?_
  refine V_box rfl rfl ?_
  intro b3 w4 h5
  have hk7 := h5.kp
  have h6 : El (α := Int) A w4 b3 0 most := h5.el hA rfl
  have ht8 := Kp.tr hk7 hA hB
  replace hH := Hp.kp hH hk7
  replace h_l := Sl.tr h_l ht8
  replace hK := Tr.trans hK ht8
  replace hB := Nat.le_trans hB ht8.ex.size
  replace hA := ht8.new
  refine V_y (Y_assign rfl) rfl rfl rfl ?_
  refine V_to (fun _ _ => rfl) ?_
  refine C_seq ?_
  refine C_region ?_
  refine V_y (Y_move rfl) rfl rfl rfl ?_
  refine V_y (Y_makeFunc rfl rfl) rfl rfl rfl ?_
  obtain ⟨x10, hx10, hm⟩ := Option.bind_eq_some_iff.1 hm
  refine V_call Try.call56 rfl rfl rfl rfl (slices_ContainsFunc_Lint_int_c w4 hA l v_l h_l (fun y18 => portref2_outside_1 y18 most) 57 #[] #[.pointer (some ⟨b3, 0, none⟩)] Try.call57 (fun w14 A15 ht16 h17 y11 r12 h13 => (portref2_outside_1_c w14  y11 most b3 (El.tr h6 ht16) h13).mono (fun _ _ h => ⟨h.1, h.2 ▸ Kp.refl _⟩)) hx10) ?_
  rintro _ w19 ⟨rfl, hk20⟩
  have ht21 := Kp.tr hk20 hA hB
  replace hH := Hp.kp hH hk20
  replace h_l := Sl.tr h_l ht21
  replace h6 := El.tr h6 ht21
  replace hK := Tr.trans hK ht21
  replace hB := Nat.le_trans hB ht21.ex.size
  replace hA := ht21.new
  refine V_y (Y_assign rfl) rfl rfl rfl ?_
  refine V_to (fun _ _ => rfl) ?_
  obtain rfl := Option.some.inj hm
  refine C_ret ?_
  try simp only [↓inBlock_ret, ↓then_ret]
  exact retQ rfl (Res.one Try.results50 rfl) ⟨rfl, hK.kp⟩

set_option maxRecDepth 4000 in
set_option maxHeartbeats 4000000 in
theorem portref2_planAlone_c (w : World) {A : Nat → Prop} (hA : ∀ b, w.heap.size ≤ b → A b) (forms : (List staff_Form)) (v_forms : Value) (h_forms : Sl A w v_forms forms) (plan : (List Int)) (v_plan : Value) (h_plan : Sl A w v_plan plan) {r : Int} (hm : portref2_planAlone forms plan = some r) : Ret Try.prog 36 #[v_forms, v_plan] w fun v w' => v = .int .i64 r ∧ Kp w w' := by
  unfold portref2_planAlone at hm
  refine enter Try.func36 rfl Try.ntmps36 rfl ?_
  have hA0 := hA
  have hB := Nat.le_refl w.heap.size
  have hK : Tr w.heap.size A w A w := Tr.refl hA
  have hH : Hp w.heap.size A w [] := Hp.nil
  refine C_seq ?_
  refine C_region ?_
  refine V_y (Y_assign rfl) rfl rfl rfl ?_
  refine V_to (fun _ _ => rfl) ?_
  refine C_seq ?_
  refine C_block ?_
  refine C_seq ?_
  refine C_region ?_
  refine V_y (Y_move rfl) rfl rfl rfl ?_
  refine V_y (Y_lenSl h_plan rfl Try.underlying23 rfl) rfl rfl rfl ?_
  refine V_y (Y_move rfl) rfl rfl rfl ?_
  refine V_y (Y_lenSl h_forms rfl Try.underlying29 rfl) rfl rfl rfl ?_
  refine V_y (Y_neq rfl rfl) rfl rfl rfl ?_
  refine V_y (Y_assign rfl) rfl rfl rfl ?_
  refine V_to (fun _ _ => rfl) ?_
  refine C_cond rfl (fun hc5 => ?_) (fun hc5 => ?_)
  · rw [if_pos hc5] at hm
    refine C_seq ?_
    refine C_region ?_
    refine V_y (Y_assign rfl) rfl rfl rfl ?_
    refine V_to (fun _ _ => rfl) ?_
    obtain rfl := Option.some.inj hm
    refine C_ret ?_
    try simp only [↓inBlock_ret, ↓then_ret]
    exact retQ rfl (Res.one Try.results36 rfl) ⟨rfl, hK.kp⟩
  · rw [if_neg (nt hc5)] at hm
    refine C_seq ?_
    refine C_region ?_
    refine V_y (Y_move rfl) rfl rfl rfl ?_
    obtain ⟨x6, hx6, hm⟩ := Option.bind_eq_some_iff.1 hm
    refine V_call Try.call50 rfl rfl rfl rfl (portref2_outside_c w hA plan v_plan h_plan 60 hx6) ?_
    rintro _ w7 ⟨rfl, hk8⟩
    have ht9 := Kp.tr hk8 hA hB
    replace hH := Hp.kp hH hk8
    replace h_plan := Sl.tr h_plan ht9
    replace hK := Tr.trans hK ht9
    replace hB := Nat.le_trans hB ht9.ex.size
    replace hA := ht9.new
    refine V_y (Y_assign rfl) rfl rfl rfl ?_
    refine V_to (fun _ _ => rfl) ?_
    refine C_cond rfl (fun hc10 => ?_) (fun hc10 => ?_)
    · rw [if_pos hc10] at hm
      refine C_seq ?_
      refine C_region ?_
      refine V_y (Y_assign rfl) rfl rfl rfl ?_
      refine V_to (fun _ _ => rfl) ?_
      obtain rfl := Option.some.inj hm
      refine C_ret ?_
      try simp only [↓inBlock_ret, ↓then_ret]
      exact retQ rfl (Res.one Try.results36 rfl) ⟨rfl, hK.kp⟩
    · rw [if_neg (nt hc10)] at hm
      refine C_skip_to (fun _ _ => rfl) ?_
      refine C_seq ?_
      refine C_region ?_
      refine V_y (Y_assign rfl) rfl rfl rfl ?_
      refine V_to (fun _ _ => rfl) ?_
      obtain rfl := Option.some.inj hm
      refine C_ret ?_
      try simp only [↓inBlock_ret, ↓then_ret]
      exact retQ rfl (Res.one Try.results36 rfl) ⟨rfl, hK.kp⟩

set_option maxRecDepth 4000 in
set_option maxHeartbeats 4000000 in
theorem portref2_planFault_c (w : World) {A : Nat → Prop} (hA : ∀ b, w.heap.size ≤ b → A b) (forms : (List staff_Form)) (v_forms : Value) (h_forms : Sl A w v_forms forms) (plan : (List Int)) (v_plan : Value) (h_plan : Sl A w v_plan plan) {r : Int} (hm : portref2_planFault forms plan = some r) : Ret Try.prog 24 #[v_forms, v_plan] w fun v w' => v = .int .i64 r ∧ Kp w w' := by
  unfold portref2_planFault at hm
  refine enter Try.func24 rfl Try.ntmps24 rfl ?_
  have hA0 := hA
  have hB := Nat.le_refl w.heap.size
  have hK : Tr w.heap.size A w A w := Tr.refl hA
  have hH : Hp w.heap.size A w [] := Hp.nil
  refine C_seq ?_
  refine C_region ?_
  refine V_y (Y_assign rfl) rfl rfl rfl ?_
  refine V_to (fun _ _ => rfl) ?_
  refine C_seq ?_
  refine C_seq ?_
  refine C_region ?_
  refine V_y (Y_move rfl) rfl rfl rfl ?_
  obtain ⟨x5, hx5, hm⟩ := Option.bind_eq_some_iff.1 hm
  refine V_call Try.call35 rfl rfl rfl rfl (portref2_FormsFault_c w hA forms v_forms h_forms hx5) ?_
  rintro _ w6 ⟨rfl, hk7⟩
  have ht8 := Kp.tr hk7 hA hB
  replace hH := Hp.kp hH hk7
  replace h_forms := Sl.tr h_forms ht8
  replace h_plan := Sl.tr h_plan ht8
  replace hK := Tr.trans hK ht8
  replace hB := Nat.le_trans hB ht8.ex.size
  replace hA := ht8.new
  refine V_y (Y_assign rfl) rfl rfl rfl ?_
  refine V_to (fun _ _ => rfl) ?_
  refine C_seq ?_
  refine C_region ?_
  refine V_y (Y_move rfl) rfl rfl rfl ?_
  refine V_y (Y_neq rfl rfl) rfl rfl rfl ?_
  refine V_to (fun _ _ => rfl) ?_
  refine C_cond rfl (fun hc9 => ?_) (fun hc9 => ?_)
  · rw [if_pos hc9] at hm
    refine C_seq ?_
    refine C_region ?_
    refine V_y (Y_move rfl) rfl rfl rfl ?_
    refine V_y (Y_assign rfl) rfl rfl rfl ?_
    refine V_to (fun _ _ => rfl) ?_
    obtain rfl := Option.some.inj hm
    refine C_ret ?_
    try simp only [↓inBlock_ret, ↓then_ret]
    exact retQ rfl (Res.one Try.results24 rfl) ⟨rfl, hK.kp⟩
  · rw [if_neg (nt hc9)] at hm
    refine C_skip_to (fun _ _ => rfl) ?_
    refine C_seq ?_
    refine C_region ?_
    refine V_y (Y_move rfl) rfl rfl rfl ?_
    refine V_y (Y_move rfl) rfl rfl rfl ?_
    obtain ⟨x10, hx10, hm⟩ := Option.bind_eq_some_iff.1 hm
    refine V_call Try.call36 rfl rfl rfl rfl (portref2_planAlone_c w6 hA forms v_forms h_forms plan v_plan h_plan hx10) ?_
    rintro _ w11 ⟨rfl, hk12⟩
    have ht13 := Kp.tr hk12 hA hB
    replace hH := Hp.kp hH hk12
    replace h_forms := Sl.tr h_forms ht13
    replace h_plan := Sl.tr h_plan ht13
    replace hK := Tr.trans hK ht13
    replace hB := Nat.le_trans hB ht13.ex.size
    replace hA := ht13.new
    refine V_y (Y_assign rfl) rfl rfl rfl ?_
    refine V_to (fun _ _ => rfl) ?_
    obtain rfl := Option.some.inj hm
    refine C_ret ?_
    try simp only [↓inBlock_ret, ↓then_ret]
    exact retQ rfl (Res.one Try.results24 rfl) ⟨rfl, hK.kp⟩

set_option maxRecDepth 4000 in
set_option maxHeartbeats 4000000 in
theorem portref2_RulesFault_c (w : World) {A : Nat → Prop} (hA : ∀ b, w.heap.size ≤ b → A b) (r_ : staff_Rules) {r : Int} (hm : portref2_RulesFault r_ = some r) : Ret Try.prog 12 #[.agg #[.int .i64 r_.people, .int .i64 r_.rest_, .int .i64 r_.most]] w fun v w' => v = .int .i64 r ∧ Kp w w' := by
  unfold portref2_RulesFault at hm
  refine enter Try.func12 rfl Try.ntmps12 rfl ?_
  have hA0 := hA
  have hB := Nat.le_refl w.heap.size
  have hK : Tr w.heap.size A w A w := Tr.refl hA
  have hH : Hp w.heap.size A w [] := Hp.nil
  refine C_seq ?_
  refine C_region ?_
  refine V_box rfl rfl ?_
  intro b1 w2 h3
  have hk5 := h3.kp
  have h4 : El (α := staff_Rules) A w2 b1 0 r_ := h3.el hA ⟨[.int .i64 r_.people], _, rfl, rfl, ⟨[.int .i64 r_.rest_], _, rfl, rfl, rfl⟩⟩
  have ht6 := Kp.tr hk5 hA hB
  replace hH := Hp.kp hH hk5
  replace hK := Tr.trans hK ht6
  replace hB := Nat.le_trans hB ht6.ex.size
  replace hA := ht6.new
  refine V_y (Y_assign rfl) rfl rfl rfl ?_
  refine V_to (fun _ _ => rfl) ?_
  refine C_seq ?_
  refine C_seq ?_
  refine C_region ?_
  have h7 := El_staff_Rules_0 h4
  refine V_y (Y_fieldAddr Try.underlying31 rfl Try.sizeOf3 (by decide) rfl) rfl rfl rfl ?_
  refine V_y (Y_load (El.int h7) Try.isAgg3 rfl) rfl rfl rfl ?_
  refine V_y (Y_lss rfl rfl) rfl rfl rfl ?_
  refine V_y (Y_move rfl) rfl rfl rfl ?_
  refine V_cut 4 (fun _ : Unit => [(1, .pointer (some ⟨b1, 0, none⟩)), (10, .bool ((decide (r_.people < 0)) || (decide ((60 : Int) < r_.people))))]) (fun _ w' => w2 = w') ?_ ?_
  · simp only [List.take, List.drop]
    rcases Bool.eq_false_or_eq_true (decide (r_.people < 0)) with hc8 | hc8
    · refine V_gn rfl rfl rfl hc8 rfl rfl rfl ?_
      refine V_gn rfl rfl rfl hc8 rfl rfl rfl ?_
      refine V_gn rfl rfl rfl hc8 rfl rfl rfl ?_
      refine V_y (Y_pick_te rfl hc8 rfl) rfl rfl rfl ?_
      exact V_end fun a ha => ⟨(), ha.sub ⟨rfl, (by rw [hc8]; rfl), trivial⟩, rfl⟩
    · refine V_ge rfl rfl rfl hc8 ?_
      have h10 := El_staff_Rules_0 h4
      refine V_y (Y_fieldAddr Try.underlying31 rfl Try.sizeOf3 (by decide) rfl) rfl rfl rfl ?_
      refine V_ge rfl rfl rfl hc8 ?_
      refine V_y (Y_load (El.int h10) Try.isAgg3 rfl) rfl rfl rfl ?_
      refine V_ge rfl rfl rfl hc8 ?_
      refine V_y (Y_gtr rfl rfl) rfl rfl rfl ?_
      refine V_y (Y_pick_fe rfl hc8 rfl) rfl rfl rfl ?_
      exact V_end fun a ha => ⟨(), ha.sub ⟨rfl, (by rw [hc8]; rfl), trivial⟩, rfl⟩
  simp only [List.take, List.drop]
  rintro _ _ rfl
  refine V_y (Y_move rfl) rfl rfl rfl ?_
  refine V_cut 4 (fun _ : Unit => [(1, .pointer (some ⟨b1, 0, none⟩)), (15, .bool (((decide (r_.people < 0)) || (decide ((60 : Int) < r_.people))) || (decide (r_.rest_ < 0))))]) (fun _ w' => w2 = w') ?_ ?_
  · simp only [List.take, List.drop]
    rcases Bool.eq_false_or_eq_true (((decide (r_.people < 0)) || (decide ((60 : Int) < r_.people)))) with hc11 | hc11
    · refine V_gn rfl rfl rfl hc11 rfl rfl rfl ?_
      refine V_gn rfl rfl rfl hc11 rfl rfl rfl ?_
      refine V_gn rfl rfl rfl hc11 rfl rfl rfl ?_
      refine V_y (Y_pick_te rfl hc11 rfl) rfl rfl rfl ?_
      exact V_end fun a ha => ⟨(), ha.sub ⟨rfl, (by rw [hc11]; rfl), trivial⟩, rfl⟩
    · refine V_ge rfl rfl rfl hc11 ?_
      have h13 := El_staff_Rules_1 h4
      refine V_y (Y_fieldAddr Try.underlying31 rfl Try.sizeOf3 (by decide) rfl) rfl rfl rfl ?_
      refine V_ge rfl rfl rfl hc11 ?_
      refine V_y (Y_load (El.int h13) Try.isAgg3 rfl) rfl rfl rfl ?_
      refine V_ge rfl rfl rfl hc11 ?_
      refine V_y (Y_lss rfl rfl) rfl rfl rfl ?_
      refine V_y (Y_pick_fe rfl hc11 rfl) rfl rfl rfl ?_
      exact V_end fun a ha => ⟨(), ha.sub ⟨rfl, (by rw [hc11]; rfl), trivial⟩, rfl⟩
  simp only [List.take, List.drop]
  rintro _ _ rfl
  refine V_y (Y_move rfl) rfl rfl rfl ?_
  refine V_cut 4 (fun _ : Unit => [(1, .pointer (some ⟨b1, 0, none⟩)), (20, .bool ((((decide (r_.people < 0)) || (decide ((60 : Int) < r_.people))) || (decide (r_.rest_ < 0))) || (decide ((400 : Int) < r_.rest_))))]) (fun _ w' => w2 = w') ?_ ?_
  · simp only [List.take, List.drop]
    rcases Bool.eq_false_or_eq_true ((((decide (r_.people < 0)) || (decide ((60 : Int) < r_.people))) || (decide (r_.rest_ < 0)))) with hc14 | hc14
    · refine V_gn rfl rfl rfl hc14 rfl rfl rfl ?_
      refine V_gn rfl rfl rfl hc14 rfl rfl rfl ?_
      refine V_gn rfl rfl rfl hc14 rfl rfl rfl ?_
      refine V_y (Y_pick_te rfl hc14 rfl) rfl rfl rfl ?_
      exact V_end fun a ha => ⟨(), ha.sub ⟨rfl, (by rw [hc14]; rfl), trivial⟩, rfl⟩
    · refine V_ge rfl rfl rfl hc14 ?_
      have h16 := El_staff_Rules_1 h4
      refine V_y (Y_fieldAddr Try.underlying31 rfl Try.sizeOf3 (by decide) rfl) rfl rfl rfl ?_
      refine V_ge rfl rfl rfl hc14 ?_
      refine V_y (Y_load (El.int h16) Try.isAgg3 rfl) rfl rfl rfl ?_
      refine V_ge rfl rfl rfl hc14 ?_
      refine V_y (Y_gtr rfl rfl) rfl rfl rfl ?_
      refine V_y (Y_pick_fe rfl hc14 rfl) rfl rfl rfl ?_
      exact V_end fun a ha => ⟨(), ha.sub ⟨rfl, (by rw [hc14]; rfl), trivial⟩, rfl⟩
  simp only [List.take, List.drop]
  rintro _ _ rfl
  refine V_y (Y_move rfl) rfl rfl rfl ?_
  refine V_cut 4 (fun _ : Unit => [(1, .pointer (some ⟨b1, 0, none⟩)), (25, .bool (((((decide (r_.people < 0)) || (decide ((60 : Int) < r_.people))) || (decide (r_.rest_ < 0))) || (decide ((400 : Int) < r_.rest_))) || (decide (r_.most < 0))))]) (fun _ w' => w2 = w') ?_ ?_
  · simp only [List.take, List.drop]
    rcases Bool.eq_false_or_eq_true (((((decide (r_.people < 0)) || (decide ((60 : Int) < r_.people))) || (decide (r_.rest_ < 0))) || (decide ((400 : Int) < r_.rest_)))) with hc17 | hc17
    · refine V_gn rfl rfl rfl hc17 rfl rfl rfl ?_
      refine V_gn rfl rfl rfl hc17 rfl rfl rfl ?_
      refine V_gn rfl rfl rfl hc17 rfl rfl rfl ?_
      refine V_y (Y_pick_te rfl hc17 rfl) rfl rfl rfl ?_
      exact V_end fun a ha => ⟨(), ha.sub ⟨rfl, (by rw [hc17]; rfl), trivial⟩, rfl⟩
    · refine V_ge rfl rfl rfl hc17 ?_
      have h19 := El_staff_Rules_2 h4
      refine V_y (Y_fieldAddr Try.underlying31 rfl Try.sizeOf3 (by decide) rfl) rfl rfl rfl ?_
      refine V_ge rfl rfl rfl hc17 ?_
      refine V_y (Y_load (El.int h19) Try.isAgg3 rfl) rfl rfl rfl ?_
      refine V_ge rfl rfl rfl hc17 ?_
      refine V_y (Y_lss rfl rfl) rfl rfl rfl ?_
      refine V_y (Y_pick_fe rfl hc17 rfl) rfl rfl rfl ?_
      exact V_end fun a ha => ⟨(), ha.sub ⟨rfl, (by rw [hc17]; rfl), trivial⟩, rfl⟩
  simp only [List.take, List.drop]
  rintro _ _ rfl
  refine V_y (Y_move rfl) rfl rfl rfl ?_
  refine V_cut 4 (fun _ : Unit => [(30, .bool ((((((decide (r_.people < 0)) || (decide ((60 : Int) < r_.people))) || (decide (r_.rest_ < 0))) || (decide ((400 : Int) < r_.rest_))) || (decide (r_.most < 0))) || (decide ((400 : Int) < r_.most))))]) (fun _ w' => w2 = w') ?_ ?_
  · simp only [List.take, List.drop]
    rcases Bool.eq_false_or_eq_true ((((((decide (r_.people < 0)) || (decide ((60 : Int) < r_.people))) || (decide (r_.rest_ < 0))) || (decide ((400 : Int) < r_.rest_))) || (decide (r_.most < 0)))) with hc20 | hc20
    · refine V_gn rfl rfl rfl hc20 rfl rfl rfl ?_
      refine V_gn rfl rfl rfl hc20 rfl rfl rfl ?_
      refine V_gn rfl rfl rfl hc20 rfl rfl rfl ?_
      refine V_y (Y_pick_te rfl hc20 rfl) rfl rfl rfl ?_
      exact V_end fun a ha => ⟨(), ha.sub ⟨(by rw [hc20]; rfl), trivial⟩, rfl⟩
    · refine V_ge rfl rfl rfl hc20 ?_
      have h22 := El_staff_Rules_2 h4
      refine V_y (Y_fieldAddr Try.underlying31 rfl Try.sizeOf3 (by decide) rfl) rfl rfl rfl ?_
      refine V_ge rfl rfl rfl hc20 ?_
      refine V_y (Y_load (El.int h22) Try.isAgg3 rfl) rfl rfl rfl ?_
      refine V_ge rfl rfl rfl hc20 ?_
      refine V_y (Y_gtr rfl rfl) rfl rfl rfl ?_
      refine V_y (Y_pick_fe rfl hc20 rfl) rfl rfl rfl ?_
      exact V_end fun a ha => ⟨(), ha.sub ⟨(by rw [hc20]; rfl), trivial⟩, rfl⟩
  simp only [List.take, List.drop]
  rintro _ _ rfl
  refine V_to (fun _ _ => rfl) ?_
  refine C_cond rfl (fun hc23 => ?_) (fun hc23 => ?_)
  · rw [if_pos hc23] at hm
    refine C_seq ?_
    refine C_region ?_
    refine V_y (Y_assign rfl) rfl rfl rfl ?_
    refine V_to (fun _ _ => rfl) ?_
    obtain rfl := Option.some.inj hm
    refine C_ret ?_
    try simp only [↓inBlock_ret, ↓then_ret]
    exact retQ rfl (Res.one Try.results12 rfl) ⟨rfl, hK.kp⟩
  · rw [if_neg (nt hc23)] at hm
    refine C_skip_to (fun _ _ => rfl) ?_
    refine C_seq ?_
    refine C_region ?_
    refine V_y (Y_assign rfl) rfl rfl rfl ?_
    refine V_to (fun _ _ => rfl) ?_
    obtain rfl := Option.some.inj hm
    refine C_ret ?_
    try simp only [↓inBlock_ret, ↓then_ret]
    exact retQ rfl (Res.one Try.results12 rfl) ⟨rfl, hK.kp⟩

set_option maxRecDepth 4000 in
set_option maxHeartbeats 4000000 in
theorem slices_IndexFunc_Lstaff_Duty_staff_Duty_c (w : World) {A : Nat → Prop} (hA : ∀ b, w.heap.size ≤ b → A b) (s : (List staff_Duty)) (v_s : Value) (h_s : Sl A w v_s s) (f : staff_Duty → Option Bool) (f_f : FuncId) (f_a f_c : Array Value) (f_call : ∀ (args : Array Value) (w : World), (callFunc f_f args).run Try.prog w = .ok (.enter f_f args) w) (f_spec : ∀ (w1 : World) (A1 : Nat → Prop), Tr w.heap.size A w A1 w1 → (∀ b, w1.heap.size ≤ b → A1 b) → ∀ (y0 : staff_Duty) (r : Bool), f y0 = some r → Ret Try.prog f_f (f_a ++ #[.agg #[.int .i64 y0.form, .int .i64 y0.person]] ++ f_c) w1 fun v w' => v = .bool r ∧ Kp w1 w') {r : Int} (hm : slices_IndexFunc_Lstaff_Duty_staff_Duty s f = some r) : Ret Try.prog 37 #[v_s, .func (.func f_f) f_a f_c] w fun v w' => v = .int .i64 r ∧ Kp w w' := by
  unfold slices_IndexFunc_Lstaff_Duty_staff_Duty at hm
  refine enter Try.func37 rfl Try.ntmps37 rfl ?_
  have hA0 := hA
  have hB := Nat.le_refl w.heap.size
  have hK : Tr w.heap.size A w A w := Tr.refl hA
  have hH : Hp w.heap.size A w [] := Hp.nil
  refine C_seq ?_
  refine C_region ?_
  refine V_y (Y_assign rfl) rfl rfl rfl ?_
  refine V_to (fun _ _ => rfl) ?_
  refine C_seq ?_
  refine C_seq ?_
  refine C_region ?_
  refine V_y (Y_move rfl) rfl rfl rfl ?_
  refine V_y (Y_lenSl h_s rfl Try.underlying32 rfl) rfl rfl rfl ?_
  refine V_y (Y_move rfl) rfl rfl rfl ?_
  refine V_to (fun _ _ => rfl) ?_
  have hn23 := Sl.le h_s
  obtain ⟨o3, ho3, hm⟩ := Option.bind_eq_some_iff.1 hm
  refine C_cutG (ι := (Unit × (Nat → Prop))) (fun ⟨s4, A10⟩ => []) (fun ⟨s4, A10⟩ => fun w' => o3 = .fin s4 ∧ Hp w.heap.size A10 w' ([]) ∧ Tr w.heap.size A w A10 w') ?_ ?_
  · refine C_block ?_
    refine C_range ho3 (fun k6 _ a w' => ∃ i : (Nat → Prop), Has ⟨19, [], none⟩ a ([(0, v_s), (1, .func (.func f_f) f_a f_c), (7, .int .i64 (s.length : Int)), (8, .int .i64 (k6 : Int))]) ∧ Hp w.heap.size i w' ([]) ∧ Tr w.heap.size A w i w') (fun a ha => ⟨A, ha.sub ⟨rfl, rfl, rfl, rfl, trivial⟩, ⟨hH, Tr.refl hA⟩⟩) ?_
    rintro K k6 _ a w13 ⟨A14, ha37, hH15, hr5⟩ hle19 K22 h21
    refine C_of ?_ ha37
    replace h_s := Sl.tr h_s hr5
    replace hK := Tr.trans hK hr5
    replace hB := Nat.le_trans hB hr5.ex.size
    replace hA := hr5.new
    replace hH : Hp w.heap.size A14 w13 ([]) := hH15
    refine C_seq (C_region (V_y (Y_lss rfl rfl) rfl rfl rfl (V_to (fun _ _ => rfl) ?_)))
    refine C_seq ?_
    refine C_cond rfl (fun hc24 => ?_) (fun hc24 => ?_)
    · have hlt20 := lt_of_dec hc24
      obtain ⟨x16, h17, h18⟩ := K22 hlt20
      refine C_skip_to (fun _ _ => rfl) ?_
      refine C_seq ?_
      refine C_block ?_
      refine C_seq ?_
      refine C_region ?_
      refine V_y (Y_move rfl) rfl rfl rfl ?_
      refine V_y (Y_assign rfl) rfl rfl rfl ?_
      refine V_to (fun _ _ => rfl) ?_
      refine C_seq ?_
      refine C_region ?_
      refine V_y (Y_move rfl) rfl rfl rfl ?_
      refine V_y (Y_move rfl) rfl rfl rfl ?_
      refine V_y (Y_move rfl) rfl rfl rfl ?_
      obtain ⟨x25, hx25, h17⟩ := Option.bind_eq_some_iff.1 h17
      refine V_indexAddr h_s hx25 Try.underlying32 Try.sizeOf37 rfl rfl rfl ?_
      intro b26 o27 h28
      obtain ⟨h29, _⟩ := El_staff_Duty h28
      refine V_y (Y_loadA h29 Try.isAgg37 Try.sizeOf37 rfl) rfl rfl rfl ?_
      obtain ⟨x30, hx30, h17⟩ := Option.bind_eq_some_iff.1 h17
      refine V_call f_call rfl rfl rfl rfl (f_spec w13 _ hK hA x25 _ hx30) ?_
      rintro _ w31 ⟨rfl, hk32⟩
      have ht33 := Kp.tr hk32 hA hB
      replace hH := Hp.kp hH hk32
      replace h_s := Sl.tr h_s ht33
      replace h28 := El.tr h28 ht33
      replace hK := Tr.trans hK ht33
      replace hr5 := Tr.trans hr5 ht33
      replace hB := Nat.le_trans hB ht33.ex.size
      replace hA := ht33.new
      refine V_to (fun _ _ => rfl) ?_
      refine C_cond rfl (fun hc34 => ?_) (fun hc34 => ?_)
      · rw [if_pos hc34] at h17
        refine C_seq ?_
        refine C_region ?_
        refine V_y (Y_move rfl) rfl rfl rfl ?_
        refine V_y (Y_assign rfl) rfl rfl rfl ?_
        refine V_to (fun _ _ => rfl) ?_
        obtain rfl := Option.some.inj h17
        obtain rfl := (h18 : Lp.rt _ = _)
        rw [Lp.andThen_rt] at hm
        obtain rfl := Option.some.inj hm
        refine C_ret ?_
        try simp only [↓inBlock_ret, ↓then_ret]
        exact retQ rfl (Res.one Try.results37 rfl) ⟨rfl, hK.kp⟩
      · rw [if_neg (nt hc34)] at h17
        refine C_skip_to (fun _ _ => rfl) ?_
        refine C_region ?_
        refine V_y (Y_addI rfl rfl) rfl rfl rfl ?_
        refine V_y (Y_move rfl) rfl rfl rfl ?_
        obtain rfl := Option.some.inj h17
        refine V_end (fun a ha35 => ?_)
        exact ⟨(), hlt20, h18, ⟨A14, ha35.sub ⟨rfl, rfl, rfl, (congrArg (fun z => some (Value.int .i64 z)) (w64_succ hlt20 hn23)), trivial⟩, ⟨hH, hr5⟩⟩⟩
    · refine C_exit (fun a ha36 => ?_)
      exact ⟨((), A14), ha36.sub trivial, ⟨(h21 (eq_of_dec hle19 hc24)).symm, hH, hr5⟩⟩
  rintro ⟨s4, A10⟩ w7 ⟨rfl, hH11, hk8⟩ a ha9
  rw [Lp.andThen_fin] at hm
  replace hK := Tr.trans hK hk8
  replace hB := Nat.le_trans hB hk8.ex.size
  replace hA := hk8.new
  replace hH : Hp w.heap.size A10 w7 ([]) := hH11
  refine C_at (n := ⟨19, [], none⟩) (fun _ _ => rfl) ?_ ha9
  refine C_seq ?_
  refine C_region ?_
  refine V_y (Y_assign rfl) rfl rfl rfl ?_
  refine V_to (fun _ _ => rfl) ?_
  obtain rfl := Option.some.inj hm
  refine C_ret ?_
  try simp only [↓inBlock_ret, ↓then_ret]
  exact retQ rfl (Res.one Try.results37 rfl) ⟨rfl, hK.kp⟩

set_option maxRecDepth 4000 in
set_option maxHeartbeats 4000000 in
theorem slices_ContainsFunc_Lstaff_Duty_staff_Duty_c (w : World) {A : Nat → Prop} (hA : ∀ b, w.heap.size ≤ b → A b) (s : (List staff_Duty)) (v_s : Value) (h_s : Sl A w v_s s) (f : staff_Duty → Option Bool) (f_f : FuncId) (f_a f_c : Array Value) (f_call : ∀ (args : Array Value) (w : World), (callFunc f_f args).run Try.prog w = .ok (.enter f_f args) w) (f_spec : ∀ (w1 : World) (A1 : Nat → Prop), Tr w.heap.size A w A1 w1 → (∀ b, w1.heap.size ≤ b → A1 b) → ∀ (y0 : staff_Duty) (r : Bool), f y0 = some r → Ret Try.prog f_f (f_a ++ #[.agg #[.int .i64 y0.form, .int .i64 y0.person]] ++ f_c) w1 fun v w' => v = .bool r ∧ Kp w1 w') {r : Bool} (hm : slices_ContainsFunc_Lstaff_Duty_staff_Duty s f = some r) : Ret Try.prog 26 #[v_s, .func (.func f_f) f_a f_c] w fun v w' => v = .bool r ∧ Kp w w' := by
  unfold slices_ContainsFunc_Lstaff_Duty_staff_Duty at hm
  refine enter Try.func26 rfl Try.ntmps26 rfl ?_
  have hA0 := hA
  have hB := Nat.le_refl w.heap.size
  have hK : Tr w.heap.size A w A w := Tr.refl hA
  have hH : Hp w.heap.size A w [] := Hp.nil
  refine C_seq ?_
  refine C_region ?_
  refine V_y (Y_assign rfl) rfl rfl rfl ?_
  refine V_to (fun _ _ => rfl) ?_
  refine C_seq ?_
  refine C_region ?_
  refine V_y (Y_move rfl) rfl rfl rfl ?_
  refine V_y (Y_move rfl) rfl rfl rfl ?_
  obtain ⟨x3, hx3, hm⟩ := Option.bind_eq_some_iff.1 hm
  refine V_call Try.call37 rfl rfl rfl rfl (slices_IndexFunc_Lstaff_Duty_staff_Duty_c w hA s v_s h_s f f_f f_a f_c f_call (fun w1 A1 ht => f_spec w1 A1 (Tr.trans hK ht)) hx3) ?_
  rintro _ w4 ⟨rfl, hk5⟩
  have ht6 := Kp.tr hk5 hA hB
  replace hH := Hp.kp hH hk5
  replace h_s := Sl.tr h_s ht6
  replace hK := Tr.trans hK ht6
  replace hB := Nat.le_trans hB ht6.ex.size
  replace hA := ht6.new
  refine V_y (Y_geq rfl rfl) rfl rfl rfl ?_
  refine V_y (Y_assign rfl) rfl rfl rfl ?_
  refine V_to (fun _ _ => rfl) ?_
  obtain rfl := Option.some.inj hm
  refine C_ret ?_
  try simp only [↓inBlock_ret, ↓then_ret]
  exact retQ rfl (Res.one Try.results26 rfl) ⟨rfl, hK.kp⟩

set_option maxRecDepth 4000 in
set_option maxHeartbeats 4000000 in
theorem portref2_apart_c (w : World) {A : Nat → Prop} (hA : ∀ b, w.heap.size ≤ b → A b) (a_ : staff_Form) (b : staff_Form) (rest_ : Int) {r : Bool} (hm : portref2_apart a_ b rest_ = some r) : Ret Try.prog 28 #[.agg #[.int .i64 a_.from_, .int .i64 a_.slots], .agg #[.int .i64 b.from_, .int .i64 b.slots], .int .i64 rest_] w fun v w' => v = .bool r ∧ Kp w w' := by
  unfold portref2_apart at hm
  refine enter Try.func28 rfl Try.ntmps28 rfl ?_
  have hA0 := hA
  have hB := Nat.le_refl w.heap.size
  have hK : Tr w.heap.size A w A w := Tr.refl hA
  have hH : Hp w.heap.size A w [] := Hp.nil
  refine C_seq ?_
  refine C_region ?_
  refine V_box rfl rfl ?_
  intro b1 w2 h3
  have hk5 := h3.kp
  have h4 : El (α := staff_Form) A w2 b1 0 a_ := h3.el hA ⟨[.int .i64 a_.from_], _, rfl, rfl, rfl⟩
  have ht6 := Kp.tr hk5 hA hB
  replace hH := Hp.kp hH hk5
  replace hK := Tr.trans hK ht6
  replace hB := Nat.le_trans hB ht6.ex.size
  replace hA := ht6.new
  refine V_box rfl rfl ?_
  intro b7 w9 h10
  have hk12 := h10.kp
  have h11 : El (α := staff_Form) A w9 b7 0 b := h10.el hA ⟨[.int .i64 b.from_], _, rfl, rfl, rfl⟩
  have ht13 := Kp.tr hk12 hA hB
  replace hH := Hp.kp hH hk12
  replace h4 := El.tr h4 ht13
  replace hK := Tr.trans hK ht13
  replace hB := Nat.le_trans hB ht13.ex.size
  replace hA := ht13.new
  refine V_y (Y_assign rfl) rfl rfl rfl ?_
  refine V_to (fun _ _ => rfl) ?_
  refine C_seq ?_
  refine C_region ?_
  have h14 := El_staff_Form_0 h4
  refine V_y (Y_fieldAddr Try.underlying52 rfl Try.sizeOf3 (by decide) rfl) rfl rfl rfl ?_
  refine V_y (Y_load (El.int h14) Try.isAgg3 rfl) rfl rfl rfl ?_
  have h15 := El_staff_Form_1 h4
  refine V_y (Y_fieldAddr Try.underlying52 rfl Try.sizeOf3 (by decide) rfl) rfl rfl rfl ?_
  refine V_y (Y_load (El.int h15) Try.isAgg3 rfl) rfl rfl rfl ?_
  refine V_y (Y_addI rfl rfl) rfl rfl rfl ?_
  refine V_y (Y_move rfl) rfl rfl rfl ?_
  refine V_y (Y_addI rfl rfl) rfl rfl rfl ?_
  have h16 := El_staff_Form_0 h11
  refine V_y (Y_fieldAddr Try.underlying52 rfl Try.sizeOf3 (by decide) rfl) rfl rfl rfl ?_
  refine V_y (Y_load (El.int h16) Try.isAgg3 rfl) rfl rfl rfl ?_
  refine V_y (Y_leq rfl rfl) rfl rfl rfl ?_
  refine V_y (Y_move rfl) rfl rfl rfl ?_
  refine V_cut 11 (fun _ : Unit => [(28, .bool ((decide ((w64 ((w64 (a_.from_ + a_.slots)) + rest_)) ≤ b.from_)) || (decide ((w64 ((w64 (b.from_ + b.slots)) + rest_)) ≤ a_.from_))))]) (fun _ w' => w9 = w') ?_ ?_
  · simp only [List.take, List.drop]
    rcases Bool.eq_false_or_eq_true (decide ((w64 ((w64 (a_.from_ + a_.slots)) + rest_)) ≤ b.from_)) with hc17 | hc17
    · refine V_gn rfl rfl rfl hc17 rfl rfl rfl ?_
      refine V_gn rfl rfl rfl hc17 rfl rfl rfl ?_
      refine V_gn rfl rfl rfl hc17 rfl rfl rfl ?_
      refine V_gn rfl rfl rfl hc17 rfl rfl rfl ?_
      refine V_gn rfl rfl rfl hc17 rfl rfl rfl ?_
      refine V_gn rfl rfl rfl hc17 rfl rfl rfl ?_
      refine V_gn rfl rfl rfl hc17 rfl rfl rfl ?_
      refine V_gn rfl rfl rfl hc17 rfl rfl rfl ?_
      refine V_gn rfl rfl rfl hc17 rfl rfl rfl ?_
      refine V_gn rfl rfl rfl hc17 rfl rfl rfl ?_
      refine V_y (Y_pick_te rfl hc17 rfl) rfl rfl rfl ?_
      exact V_end fun a ha => ⟨(), ha.sub ⟨(by rw [hc17]; rfl), trivial⟩, rfl⟩
    · refine V_ge rfl rfl rfl hc17 ?_
      have h19 := El_staff_Form_0 h11
      refine V_y (Y_fieldAddr Try.underlying52 rfl Try.sizeOf3 (by decide) rfl) rfl rfl rfl ?_
      refine V_ge rfl rfl rfl hc17 ?_
      refine V_y (Y_load (El.int h19) Try.isAgg3 rfl) rfl rfl rfl ?_
      refine V_ge rfl rfl rfl hc17 ?_
      have h20 := El_staff_Form_1 h11
      refine V_y (Y_fieldAddr Try.underlying52 rfl Try.sizeOf3 (by decide) rfl) rfl rfl rfl ?_
      refine V_ge rfl rfl rfl hc17 ?_
      refine V_y (Y_load (El.int h20) Try.isAgg3 rfl) rfl rfl rfl ?_
      refine V_ge rfl rfl rfl hc17 ?_
      refine V_y (Y_addI rfl rfl) rfl rfl rfl ?_
      refine V_ge rfl rfl rfl hc17 ?_
      refine V_y (Y_move rfl) rfl rfl rfl ?_
      refine V_ge rfl rfl rfl hc17 ?_
      refine V_y (Y_addI rfl rfl) rfl rfl rfl ?_
      refine V_ge rfl rfl rfl hc17 ?_
      have h21 := El_staff_Form_0 h4
      refine V_y (Y_fieldAddr Try.underlying52 rfl Try.sizeOf3 (by decide) rfl) rfl rfl rfl ?_
      refine V_ge rfl rfl rfl hc17 ?_
      refine V_y (Y_load (El.int h21) Try.isAgg3 rfl) rfl rfl rfl ?_
      refine V_ge rfl rfl rfl hc17 ?_
      refine V_y (Y_leq rfl rfl) rfl rfl rfl ?_
      refine V_y (Y_pick_fe rfl hc17 rfl) rfl rfl rfl ?_
      exact V_end fun a ha => ⟨(), ha.sub ⟨(by rw [hc17]; rfl), trivial⟩, rfl⟩
  simp only [List.take, List.drop]
  rintro _ _ rfl
  refine V_y (Y_assign rfl) rfl rfl rfl ?_
  refine V_to (fun _ _ => rfl) ?_
  obtain rfl := Option.some.inj hm
  refine C_ret ?_
  try simp only [↓inBlock_ret, ↓then_ret]
  exact retQ rfl (Res.one Try.results28 rfl) ⟨rfl, hK.kp⟩

set_option maxRecDepth 4000 in
set_option maxHeartbeats 4000000 in
theorem portref2_RosterOf_2_c (w : World) {A : Nat → Prop} (hA : ∀ b, w.heap.size ≤ b → A b) (x : staff_Duty) (p1 : Int) (b_p1 : Nat) (h_p1 : El A w b_p1 0 p1) (p2 : (List staff_Form)) (b_p2 : Nat) (h_p2 : El A w b_p2 0 p2) (p3 : staff_Form) (b_p3 : Nat) (h_p3 : El A w b_p3 0 p3) (p4 : staff_Rules) (b_p4 : Nat) (h_p4 : El A w b_p4 0 p4) {r : Bool} (hm : portref2_RosterOf_2 x p1 p2 p3 p4 = some r) : Ret Try.prog 27 #[.agg #[.int .i64 x.form, .int .i64 x.person], .pointer (some ⟨b_p1, 0, none⟩), .pointer (some ⟨b_p2, 0, none⟩), .pointer (some ⟨b_p3, 0, none⟩), .pointer (some ⟨b_p4, 0, none⟩)] w fun v w' => v = .bool r ∧ Kp w w' := by
  unfold portref2_RosterOf_2 at hm
  refine enter Try.func27 rfl Try.ntmps27 rfl ?_
  have hA0 := hA
  have hB := Nat.le_refl w.heap.size
  have hK : Tr w.heap.size A w A w := Tr.refl hA
  have hH : Hp w.heap.size A w [] := Hp.nil
  refine C_seq ?_
  refine C_region ?_
  refine V_box rfl rfl ?_
  intro b1 w2 h3
  have hk5 := h3.kp
  have h4 : El (α := staff_Duty) A w2 b1 0 x := h3.el hA ⟨[.int .i64 x.form], _, rfl, rfl, rfl⟩
  have ht6 := Kp.tr hk5 hA hB
  replace hH := Hp.kp hH hk5
  replace h_p1 := El.tr h_p1 ht6
  replace h_p2 := El.tr h_p2 ht6
  replace h_p3 := El.tr h_p3 ht6
  replace h_p4 := El.tr h_p4 ht6
  replace hK := Tr.trans hK ht6
  replace hB := Nat.le_trans hB ht6.ex.size
  replace hA := ht6.new
  refine V_y (Y_assign rfl) rfl rfl rfl ?_
  refine V_to (fun _ _ => rfl) ?_
  refine C_seq ?_
  refine C_region_q Try_mixed (by kernel_rfl) ?_
  have h7 := El_staff_Duty_1 h4
  refine VQ_y (fun w' hw' => Y_fieldAddr Try.underlying37 rfl Try.sizeOf3 (by decide) rfl) rfl rfl rfl ?_
  refine VQ_y (fun w' hw' => Y_load (El.int (El.kp h7 hw')) Try.isAgg3 rfl) rfl rfl rfl ?_
  refine VQ_y (fun w' hw' => Y_load (El.int (El.kp h_p1 hw')) Try.isAgg3 rfl) rfl rfl rfl ?_
  refine VQ_y (fun w' hw' => Y_eql rfl rfl) rfl rfl rfl ?_
  refine VQ_y (fun w' hw' => Y_move rfl) rfl rfl rfl ?_
  obtain ⟨s9, hs9, hm⟩ := Option.bind_eq_some_iff.1 hm
  refine VQ_cut 11 (fun _ : Unit => [(22, .bool s9)]) (fun _ => True) ?_ ?_
  · simp only [List.take, List.drop]
    rcases Bool.eq_false_or_eq_true (x.person == p1) with hc8 | hc8
    · rw [if_pos hc8] at hs9
      refine VQ_ge rfl rfl rfl hc8 ?_
      obtain ⟨v10, h11, h12⟩ := El.list h_p2
      refine VQ_y (fun w' hw' => Y_load ((World.cell?_of_block (hw'.block _ (World.block_lt_of_cell? _ _ h11))).trans h11) Try.isAgg29 rfl) rfl rfl rfl ?_
      refine VQ_ge rfl rfl rfl hc8 ?_
      have h13 := El_staff_Duty_0 h4
      refine VQ_y (fun w' hw' => Y_fieldAddr Try.underlying37 rfl Try.sizeOf3 (by decide) rfl) rfl rfl rfl ?_
      refine VQ_ge rfl rfl rfl hc8 ?_
      refine VQ_y (fun w' hw' => Y_load (El.int (El.kp h13 hw')) Try.isAgg3 rfl) rfl rfl rfl ?_
      refine VQ_ge rfl rfl rfl hc8 ?_
      obtain ⟨x14, hx14, hs9⟩ := Option.bind_eq_some_iff.1 hs9
      refine VQ_indexAddr h12 hx14 Try.underlying29 Try.sizeOf52 rfl rfl rfl ?_
      intro b15 o16 h17
      refine VQ_ge rfl rfl rfl hc8 ?_
      obtain ⟨h18, _⟩ := El_staff_Form h17
      refine VQ_y (fun w' hw' => Y_loadA (At.kp h18 hw' h17.2.1) Try.isAgg52 Try.sizeOf52 rfl) rfl rfl rfl ?_
      refine VQ_ge rfl rfl rfl hc8 ?_
      obtain ⟨h19, _⟩ := El_staff_Form h_p3
      refine VQ_y (fun w' hw' => Y_loadA (At.kp h19 hw' h_p3.2.1) Try.isAgg52 Try.sizeOf52 rfl) rfl rfl rfl ?_
      refine VQ_ge rfl rfl rfl hc8 ?_
      have h20 := El_staff_Rules_1 h_p4
      refine VQ_y (fun w' hw' => Y_fieldAddr Try.underlying31 rfl Try.sizeOf3 (by decide) rfl) rfl rfl rfl ?_
      refine VQ_ge rfl rfl rfl hc8 ?_
      refine VQ_y (fun w' hw' => Y_load (El.int (El.kp h20 hw')) Try.isAgg3 rfl) rfl rfl rfl ?_
      refine VQ_ge rfl rfl rfl hc8 ?_
      obtain ⟨x21, hx21, hs9⟩ := Option.bind_eq_some_iff.1 hs9
      refine VQ_call (.bool x21) Try.call28 rfl rfl rfl rfl (fun w' hw' => (portref2_apart_c w' (fun b hb => hA b (Nat.le_trans hw'.size hb)) x14 p3 p4.rest_ hx21).mono (fun _ _ h => ⟨h.1, Kp.trans hw' h.2⟩)) ?_
      refine VQ_ge rfl rfl rfl hc8 ?_
      refine VQ_y (fun w' hw' => Y_not rfl) rfl rfl rfl ?_
      refine VQ_y (fun _ _ => Y_pick_te rfl hc8 rfl) rfl rfl rfl ?_
      obtain rfl := Option.some.inj hs9
      exact VQ_end fun a ha => ⟨(), ha.sub ⟨rfl, trivial⟩, trivial⟩
    · rw [if_neg (nt hc8)] at hs9
      refine VQ_gn rfl rfl rfl hc8 rfl rfl rfl ?_
      refine VQ_gn rfl rfl rfl hc8 rfl rfl rfl ?_
      refine VQ_gn rfl rfl rfl hc8 rfl rfl rfl ?_
      refine VQ_gn rfl rfl rfl hc8 rfl rfl rfl ?_
      refine VQ_gn rfl rfl rfl hc8 rfl rfl rfl ?_
      refine VQ_gn rfl rfl rfl hc8 rfl rfl rfl ?_
      refine VQ_gn rfl rfl rfl hc8 rfl rfl rfl ?_
      refine VQ_gn rfl rfl rfl hc8 rfl rfl rfl ?_
      refine VQ_gn rfl rfl rfl hc8 rfl rfl rfl ?_
      refine VQ_gn rfl rfl rfl hc8 rfl rfl rfl ?_
      refine VQ_y (fun _ _ => Y_pick_fe rfl hc8 rfl) rfl rfl rfl ?_
      obtain rfl := Option.some.inj hs9
      exact VQ_end fun a ha => ⟨(), ha.sub ⟨rfl, trivial⟩, trivial⟩
  simp only [List.take, List.drop]
  rintro _ _
  refine VQ_y (fun w' hw' => Y_assign rfl) rfl rfl rfl ?_
  refine VQ_to (fun _ _ => rfl) (fun w22 hk23 => ?_)
  have ht24 := Kp.tr hk23 hA hB
  replace hH := Hp.kp hH hk23
  replace hK := Tr.trans hK ht24
  replace hB := Nat.le_trans hB ht24.ex.size
  replace hA := ht24.new
  obtain rfl := Option.some.inj hm
  refine C_ret ?_
  try simp only [↓inBlock_ret, ↓then_ret]
  exact retQ rfl (Res.one Try.results27 rfl) ⟨rfl, hK.kp⟩

set_option maxRecDepth 4000 in
set_option maxHeartbeats 4000000 in
theorem portref2_RosterOf_1_c (w : World) {A : Nat → Prop} (hA : ∀ b, w.heap.size ≤ b → A b) (p : Int) (p1 : (List staff_Duty)) (b_p1 : Nat) (h_p1 : El A w b_p1 0 p1) (p2 : (List staff_Form)) (b_p2 : Nat) (h_p2 : El A w b_p2 0 p2) {r : Int} (hm : portref2_RosterOf_1 p p1 p2 = some r) : Ret Try.prog 25 #[.int .i64 p, .pointer (some ⟨b_p1, 0, none⟩), .pointer (some ⟨b_p2, 0, none⟩)] w fun v w' => v = .int .i64 r ∧ Kp w w' := by
  unfold portref2_RosterOf_1 at hm
  refine enter Try.func25 rfl Try.ntmps25 rfl ?_
  have hA0 := hA
  have hB := Nat.le_refl w.heap.size
  have hK : Tr w.heap.size A w A w := Tr.refl hA
  have hH : Hp w.heap.size A w [] := Hp.nil
  refine C_seq ?_
  refine C_region ?_
  refine V_y (Y_assign rfl) rfl rfl rfl ?_
  refine V_to (fun _ _ => rfl) ?_
  refine C_seq ?_
  refine C_region ?_
  refine V_y (Y_assign rfl) rfl rfl rfl ?_
  refine V_to (fun _ _ => rfl) ?_
  refine C_seq ?_
  refine C_seq ?_
  refine C_region ?_
  obtain ⟨v1, h2, h3⟩ := El.list h_p1
  refine V_y (Y_load h2 Try.isAgg32 rfl) rfl rfl rfl ?_
  refine V_y (Y_lenSl h3 rfl Try.underlying32 rfl) rfl rfl rfl ?_
  refine V_y (Y_move rfl) rfl rfl rfl ?_
  refine V_to (fun _ _ => rfl) ?_
  have hn25 := Sl.le h3
  obtain ⟨o4, ho4, hm⟩ := Option.bind_eq_some_iff.1 hm
  refine C_cutG (ι := (Int × (Nat → Prop))) (fun ⟨s5, A12⟩ => [(5, .int .i64 s5)]) (fun ⟨s5, A12⟩ => fun w' => o4 = .fin s5 ∧ Hp w.heap.size A12 w' ([]) ∧ Tr w.heap.size A w A12 w') ?_ ?_
  · refine C_block ?_
    refine C_range ho4 (fun k7 s14 a w' => ∃ i : (Nat → Prop), Has ⟨28, [], none⟩ a ([(0, .int .i64 p), (2, .pointer (some ⟨b_p2, 0, none⟩)), (5, .int .i64 s14), (8, v1), (9, .int .i64 (p1.length : Int)), (10, .int .i64 (k7 : Int))]) ∧ Hp w.heap.size i w' ([]) ∧ Tr w.heap.size A w i w') (fun a ha => ⟨A, ha.sub ⟨rfl, rfl, rfl, rfl, rfl, rfl, trivial⟩, ⟨hH, Tr.refl hA⟩⟩) ?_
    rintro K k7 s14 a w15 ⟨A16, ha70, hH17, hr6⟩ hle21 K24 h23
    refine C_of ?_ ha70
    replace h_p2 := El.tr h_p2 hr6
    replace h3 := Sl.tr h3 hr6
    replace hK := Tr.trans hK hr6
    replace hB := Nat.le_trans hB hr6.ex.size
    replace hA := hr6.new
    replace hH : Hp w.heap.size A16 w15 ([]) := hH17
    refine C_seq (C_region (V_y (Y_lss rfl rfl) rfl rfl rfl (V_to (fun _ _ => rfl) ?_)))
    refine C_seq ?_
    refine C_cond rfl (fun hc26 => ?_) (fun hc26 => ?_)
    · have hlt22 := lt_of_dec hc26
      obtain ⟨x18, h19, h20⟩ := K24 hlt22
      refine C_skip_to (fun _ _ => rfl) ?_
      refine C_seq ?_
      obtain ⟨s28, ho27, h19⟩ := Option.bind_eq_some_iff.1 h19
      refine C_cutG (ι := (Nat → Prop)) (fun (A33 : (Nat → Prop)) => [(0, .int .i64 p), (2, .pointer (some ⟨b_p2, 0, none⟩)), (5, .int .i64 s28), (8, v1), (9, .int .i64 (p1.length : Int)), (10, .int .i64 (k7 : Int))]) (fun (A33 : (Nat → Prop)) => fun w' => Hp w.heap.size A33 w' ([]) ∧ Tr w.heap.size A16 w15 A33 w') ?_ ?_
      · have hr29 : Tr w.heap.size A16 w15 A16 w15 := Tr.refl hA
        refine C_block ?_
        refine C_seq ?_
        refine C_region ?_
        obtain ⟨x35, hx35, ho27⟩ := Option.bind_eq_some_iff.1 ho27
        refine V_indexAddr h3 hx35 Try.underlying32 Try.sizeOf37 rfl rfl rfl ?_
        intro b36 o37 h38
        obtain ⟨h39, _⟩ := El_staff_Duty h38
        refine V_y (Y_loadA h39 Try.isAgg37 Try.sizeOf37 rfl) rfl rfl rfl ?_
        refine V_alloc Try.zeroValue37 rfl ?_
        intro b40 w41 h42
        refine V_storeNew h42 Try.sizeOf37 rfl rfl rfl rfl (by exact (List.forall_mem_cons.2 ⟨rfl, (List.forall_mem_cons.2 ⟨rfl, (fun _ h => nomatch h)⟩)⟩)) ?_
        intro w43 h44
        have hk46 := h44.kp
        have h45 : El (α := staff_Duty) A16 w43 b40 0 x35 := h44.el hA ⟨[.int .i64 x35.form], _, rfl, rfl, rfl⟩
        have ht47 := Kp.tr hk46 hA hB
        replace hH := Hp.kp hH hk46
        replace h_p2 := El.tr h_p2 ht47
        replace h3 := Sl.tr h3 ht47
        replace h38 := El.tr h38 ht47
        replace hK := Tr.trans hK ht47
        replace hr6 := Tr.trans hr6 ht47
        replace hr29 := Tr.trans hr29 ht47
        replace hB := Nat.le_trans hB ht47.ex.size
        replace hA := ht47.new
        refine V_to (fun _ _ => rfl) ?_
        refine C_seq ?_
        refine C_region ?_
        have h48 := El_staff_Duty_1 h45
        refine V_y (Y_fieldAddr Try.underlying37 rfl Try.sizeOf3 (by decide) rfl) rfl rfl rfl ?_
        refine V_y (Y_load (El.int h48) Try.isAgg3 rfl) rfl rfl rfl ?_
        refine V_y (Y_move rfl) rfl rfl rfl ?_
        refine V_y (Y_eql rfl rfl) rfl rfl rfl ?_
        refine V_to (fun _ _ => rfl) ?_
        obtain ⟨s50, ho49, ho27⟩ := Option.bind_eq_some_iff.1 ho27
        refine C_cutG (ι := Unit) (fun (_ : Unit) => [(0, .int .i64 p), (2, .pointer (some ⟨b_p2, 0, none⟩)), (5, .int .i64 s50), (8, v1), (9, .int .i64 (p1.length : Int)), (10, .int .i64 (k7 : Int))]) (fun (_ : Unit) => fun w' => w43 = w') ?_ ?_
        · refine C_cond rfl (fun hc55 => ?_) (fun hc55 => ?_)
          · rw [if_pos hc55] at ho49
            refine C_region ?_
            refine V_y (Y_move rfl) rfl rfl rfl ?_
            obtain ⟨v56, h57, h58⟩ := El.list h_p2
            refine V_y (Y_load h57 Try.isAgg29 rfl) rfl rfl rfl ?_
            have h59 := El_staff_Duty_0 h45
            refine V_y (Y_fieldAddr Try.underlying37 rfl Try.sizeOf3 (by decide) rfl) rfl rfl rfl ?_
            refine V_y (Y_load (El.int h59) Try.isAgg3 rfl) rfl rfl rfl ?_
            obtain ⟨x60, hx60, ho49⟩ := Option.bind_eq_some_iff.1 ho49
            refine V_indexAddr h58 hx60 Try.underlying29 Try.sizeOf52 rfl rfl rfl ?_
            intro b61 o62 h63
            have h64 := El_staff_Form_1 h63
            refine V_y (Y_fieldAddr Try.underlying52 rfl Try.sizeOf3 (by decide) rfl) rfl rfl rfl ?_
            refine V_y (Y_load (El.int h64) Try.isAgg3 rfl) rfl rfl rfl ?_
            refine V_y (Y_addI rfl rfl) rfl rfl rfl ?_
            refine V_y (Y_assign rfl) rfl rfl rfl ?_
            obtain rfl := Option.some.inj ho49
            refine V_end (fun a ha65 => ?_)
            exact ⟨(), ha65.sub ⟨rfl, rfl, rfl, rfl, rfl, rfl, trivial⟩, rfl⟩
          · rw [if_neg (nt hc55)] at ho49
            obtain rfl := Option.some.inj ho49
            refine C_skip (fun a ha66 => ?_)
            exact ⟨(), ha66.sub ⟨rfl, rfl, rfl, rfl, rfl, rfl, trivial⟩, rfl⟩
        rintro _ _ rfl a ha54
        obtain rfl := Option.some.inj ho27
        exact ⟨A16, ha54.sub ⟨rfl, rfl, rfl, rfl, rfl, rfl, trivial⟩, ⟨hH, hr29⟩⟩
      rintro A33 w30 ⟨hH34, hk31⟩ a ha32
      replace h_p2 := El.tr h_p2 hk31
      replace h3 := Sl.tr h3 hk31
      replace hK := Tr.trans hK hk31
      replace hr6 := Tr.trans hr6 hk31
      replace hB := Nat.le_trans hB hk31.ex.size
      replace hA := hk31.new
      replace hH : Hp w.heap.size A33 w30 ([]) := hH34
      refine C_at (n := ⟨28, [], none⟩) (fun _ _ => rfl) ?_ ha32
      refine C_region ?_
      refine V_y (Y_addI rfl rfl) rfl rfl rfl ?_
      refine V_y (Y_move rfl) rfl rfl rfl ?_
      obtain rfl := Option.some.inj h19
      refine V_end (fun a ha68 => ?_)
      exact ⟨s28, hlt22, h20, ⟨A33, ha68.sub ⟨rfl, rfl, rfl, rfl, rfl, (congrArg (fun z => some (Value.int .i64 z)) (w64_succ hlt22 hn25)), trivial⟩, ⟨hH, hr6⟩⟩⟩
    · refine C_exit (fun a ha69 => ?_)
      exact ⟨(s14, A16), ha69.sub ⟨rfl, trivial⟩, ⟨(h23 (eq_of_dec hle21 hc26)).symm, hH, hr6⟩⟩
  rintro ⟨s5, A12⟩ w9 ⟨rfl, hH13, hk10⟩ a ha11
  rw [Lp.andThen_fin] at hm
  replace hK := Tr.trans hK hk10
  replace hB := Nat.le_trans hB hk10.ex.size
  replace hA := hk10.new
  replace hH : Hp w.heap.size A12 w9 ([]) := hH13
  refine C_at (n := ⟨28, [], none⟩) (fun _ _ => rfl) ?_ ha11
  refine C_seq ?_
  refine C_region ?_
  refine V_y (Y_move rfl) rfl rfl rfl ?_
  refine V_y (Y_assign rfl) rfl rfl rfl ?_
  refine V_to (fun _ _ => rfl) ?_
  obtain rfl := Option.some.inj hm
  refine C_ret ?_
  try simp only [↓inBlock_ret, ↓then_ret]
  exact retQ rfl (Res.one Try.results25 rfl) ⟨rfl, hK.kp⟩

set_option maxRecDepth 4000 in
set_option maxHeartbeats 4000000 in
theorem portref2_RosterOf_c (w : World) {A : Nat → Prop} {B : Nat} (hB : B ≤ w.heap.size) (hA : ∀ b, w.heap.size ≤ b → A b) (forms : (List staff_Form)) (v_forms : Value) (h_forms : Sl A w v_forms forms) (plan : (List Int)) (v_plan : Value) (h_plan : Sl A w v_plan plan) (r_ : staff_Rules) {L : List Ob} (hH : Hp B A w (L)) {r : ((List staff_Duty) × (List staff_Duty) × Int)} (hm : portref2_RosterOf forms plan r_ = some r) : Ret Try.prog 9 #[v_forms, v_plan, .agg #[.int .i64 r_.people, .int .i64 r_.rest_, .int .i64 r_.most]] w fun v w' => ∃ s0, ∃ s1, ∃ A1 : Nat → Prop, v = .tuple #[s0, s1, .int .i64 r.2.2] ∧ Hp B A1 w' (obS (α := staff_Duty) 37 s0 r.1 :: obS (α := staff_Duty) 37 s1 r.2.1 :: L) ∧ Tr B A w A1 w' := by
  unfold portref2_RosterOf at hm
  refine enter Try.func9 rfl Try.ntmps9 rfl ?_
  have hK : Tr B A w A w := Tr.refl hA
  refine C_seq ?_
  refine C_region ?_
  refine V_box rfl rfl ?_
  intro b5 w6 h7
  have h12 : (v_forms).oneCell' = true := by obtain ⟨_, _, e, _⟩ := Sl.form h_forms; rw [e]; rfl
  have hk9 := h7.kp
  have h8 : El (α := (List staff_Form)) A w6 b5 0 forms := h7.el hA (by rw [Value.cells_one h12]; exact ⟨_, rfl, h_forms⟩)
  have ht13 := Kp.tr hk9 hA hB
  replace hH := Hp.kp hH hk9
  replace h_forms := Sl.tr h_forms ht13
  replace h_plan := Sl.tr h_plan ht13
  replace hK := Tr.trans hK ht13
  replace hB := Nat.le_trans hB ht13.ex.size
  replace hA := ht13.new
  refine V_box rfl rfl ?_
  intro b14 w15 h16
  have hk18 := h16.kp
  have h17 : El (α := staff_Rules) A w15 b14 0 r_ := h16.el hA ⟨[.int .i64 r_.people], _, rfl, rfl, ⟨[.int .i64 r_.rest_], _, rfl, rfl, rfl⟩⟩
  have ht19 := Kp.tr hk18 hA hB
  replace hH := Hp.kp hH hk18
  replace h_forms := Sl.tr h_forms ht19
  replace h_plan := Sl.tr h_plan ht19
  replace h8 := El.tr h8 ht19
  replace hK := Tr.trans hK ht19
  replace hB := Nat.le_trans hB ht19.ex.size
  replace hA := ht19.new
  refine V_allocH (B := B) hH Try.zeroValue32 hB hA rfl ?_
  intro b20 w21 A22 hH23 ht24
  replace h_forms := Sl.tr h_forms ht24
  replace h_plan := Sl.tr h_plan ht24
  replace h8 := El.tr h8 ht24
  replace h17 := El.tr h17 ht24
  replace hK := Tr.trans hK ht24
  replace hB := Nat.le_trans hB ht24.ex.size
  replace hA := ht24.new
  replace hH : Hp B A22 w21 (obC b20 [.slice none 0 0] 32 :: L) := hH23
  refine V_y (Y_assign rfl) rfl rfl rfl ?_
  refine V_y (Y_assign rfl) rfl rfl rfl ?_
  refine V_to (fun _ _ => rfl) ?_
  refine C_seq ?_
  refine C_seq ?_
  refine C_region ?_
  obtain ⟨v25, h26, h27⟩ := El.list h8
  refine V_y (Y_load h26 Try.isAgg29 rfl) rfl rfl rfl ?_
  refine V_y (Y_move rfl) rfl rfl rfl ?_
  obtain ⟨x28, hx28, hm⟩ := Option.bind_eq_some_iff.1 hm
  refine V_call Try.call24 rfl rfl rfl rfl (portref2_planFault_c w21 hA forms v25 h27 plan v_plan h_plan hx28) ?_
  rintro _ w29 ⟨rfl, hk30⟩
  have ht31 := Kp.tr hk30 hA hB
  replace hH := Hp.kp hH hk30
  replace h_plan := Sl.tr h_plan ht31
  replace h8 := El.tr h8 ht31
  replace h17 := El.tr h17 ht31
  replace h27 := Sl.tr h27 ht31
  replace hK := Tr.trans hK ht31
  replace hB := Nat.le_trans hB ht31.ex.size
  replace hA := ht31.new
  refine V_y (Y_assign rfl) rfl rfl rfl ?_
  refine V_to (fun _ _ => rfl) ?_
  refine C_seq ?_
  refine C_region ?_
  refine V_y (Y_move rfl) rfl rfl rfl ?_
  refine V_y (Y_neq rfl rfl) rfl rfl rfl ?_
  refine V_to (fun _ _ => rfl) ?_
  refine C_cond rfl (fun hc32 => ?_) (fun hc32 => ?_)
  · rw [if_pos hc32] at hm
    refine C_seq ?_
    refine C_region ?_
    refine V_y (Y_move rfl) rfl rfl rfl ?_
    refine V_storeC (off := 0) (ds := [.slice none 0 0]) hH (i := 0) rfl Try.sizeOf32 rfl (Nat.le_of_ble_eq_true rfl) (by simp [Value.cells, Value.oneCell']) rfl hB hA rfl rfl ?_
    intro w33 hH34 ht35
    replace h_plan := Sl.tr h_plan ht35
    replace h8 := El.tr h8 ht35
    replace h17 := El.tr h17 ht35
    replace hK := Tr.trans hK ht35
    replace hB := Nat.le_trans hB ht35.ex.size
    replace hA := ht35.new
    replace hH : Hp B A22 w33 (obC b20 [.slice none 0 0] 32 :: L) := hH34
    refine V_y (Y_assign rfl) rfl rfl rfl ?_
    refine V_y (Y_assign rfl) rfl rfl rfl ?_
    refine V_to (fun _ _ => rfl) ?_
    obtain rfl := Option.some.inj hm
    replace hH : Hp B A22 w33 (obS (α := staff_Duty) 37 (.slice none 0 0) ([] : (List staff_Duty)) :: obC b20 [.slice none 0 0] 32 :: L) := Hp.addNil (α := staff_Duty) (e := 37) hH
    replace hH : Hp B A22 w33 (obS (α := staff_Duty) 37 (.slice none 0 0) ([] : (List staff_Duty)) :: obS (α := staff_Duty) 37 (.slice none 0 0) ([] : (List staff_Duty)) :: obC b20 [.slice none 0 0] 32 :: L) := Hp.addNil (α := staff_Duty) (e := 37) hH
    have hv36 := loadVar_one (Hp.cell (j := 0) hH (i := 2) rfl rfl) Try.isAgg32
    replace hH : Hp B A22 w33 (obS (α := staff_Duty) 37 (.slice none 0 0) ([] : (List staff_Duty)) :: obS (α := staff_Duty) 37 (.slice none 0 0) ([] : (List staff_Duty)) :: obC b20 [.slice none 0 0] 32 :: L) := Hp.front hH (i := 1) rfl
    replace hH : Hp B A22 w33 (obS (α := staff_Duty) 37 (.slice none 0 0) ([] : (List staff_Duty)) :: obS (α := staff_Duty) 37 (.slice none 0 0) ([] : (List staff_Duty)) :: L) := Hp.drop hH (i := 2) rfl
    refine C_ret ?_
    try simp only [↓inBlock_ret, ↓then_ret]
    exact retQ rfl (Res.l3 Try.results9 (RL.cell rfl hv36) (RL.tmp rfl) (RL.tmp rfl)) ⟨.slice none 0 0, .slice none 0 0, A22, rfl, hH, hK⟩
  · rw [if_neg (nt hc32)] at hm
    refine C_skip_to (fun _ _ => rfl) ?_
    refine C_seq ?_
    refine C_seq ?_
    refine C_region ?_
    obtain ⟨h37, _⟩ := El_staff_Rules h17
    refine V_y (Y_loadA h37 Try.isAgg31 Try.sizeOf31 rfl) rfl rfl rfl ?_
    obtain ⟨x38, hx38, hm⟩ := Option.bind_eq_some_iff.1 hm
    refine V_call Try.call12 rfl rfl rfl rfl (portref2_RulesFault_c w29 hA r_ hx38) ?_
    rintro _ w39 ⟨rfl, hk40⟩
    have ht41 := Kp.tr hk40 hA hB
    replace hH := Hp.kp hH hk40
    replace h_plan := Sl.tr h_plan ht41
    replace h8 := El.tr h8 ht41
    replace h17 := El.tr h17 ht41
    replace hK := Tr.trans hK ht41
    replace hB := Nat.le_trans hB ht41.ex.size
    replace hA := ht41.new
    refine V_y (Y_assign rfl) rfl rfl rfl ?_
    refine V_to (fun _ _ => rfl) ?_
    refine C_seq ?_
    refine C_region ?_
    refine V_y (Y_move rfl) rfl rfl rfl ?_
    refine V_y (Y_neq rfl rfl) rfl rfl rfl ?_
    refine V_to (fun _ _ => rfl) ?_
    refine C_cond rfl (fun hc42 => ?_) (fun hc42 => ?_)
    · rw [if_pos hc42] at hm
      refine C_seq ?_
      refine C_region ?_
      refine V_y (Y_move rfl) rfl rfl rfl ?_
      refine V_storeC (off := 0) (ds := [.slice none 0 0]) hH (i := 0) rfl Try.sizeOf32 rfl (Nat.le_of_ble_eq_true rfl) (by simp [Value.cells, Value.oneCell']) rfl hB hA rfl rfl ?_
      intro w43 hH44 ht45
      replace h_plan := Sl.tr h_plan ht45
      replace h8 := El.tr h8 ht45
      replace h17 := El.tr h17 ht45
      replace hK := Tr.trans hK ht45
      replace hB := Nat.le_trans hB ht45.ex.size
      replace hA := ht45.new
      replace hH : Hp B A22 w43 (obC b20 [.slice none 0 0] 32 :: L) := hH44
      refine V_y (Y_assign rfl) rfl rfl rfl ?_
      refine V_y (Y_assign rfl) rfl rfl rfl ?_
      refine V_to (fun _ _ => rfl) ?_
      obtain rfl := Option.some.inj hm
      replace hH : Hp B A22 w43 (obS (α := staff_Duty) 37 (.slice none 0 0) ([] : (List staff_Duty)) :: obC b20 [.slice none 0 0] 32 :: L) := Hp.addNil (α := staff_Duty) (e := 37) hH
      replace hH : Hp B A22 w43 (obS (α := staff_Duty) 37 (.slice none 0 0) ([] : (List staff_Duty)) :: obS (α := staff_Duty) 37 (.slice none 0 0) ([] : (List staff_Duty)) :: obC b20 [.slice none 0 0] 32 :: L) := Hp.addNil (α := staff_Duty) (e := 37) hH
      have hv46 := loadVar_one (Hp.cell (j := 0) hH (i := 2) rfl rfl) Try.isAgg32
      replace hH : Hp B A22 w43 (obS (α := staff_Duty) 37 (.slice none 0 0) ([] : (List staff_Duty)) :: obS (α := staff_Duty) 37 (.slice none 0 0) ([] : (List staff_Duty)) :: obC b20 [.slice none 0 0] 32 :: L) := Hp.front hH (i := 1) rfl
      replace hH : Hp B A22 w43 (obS (α := staff_Duty) 37 (.slice none 0 0) ([] : (List staff_Duty)) :: obS (α := staff_Duty) 37 (.slice none 0 0) ([] : (List staff_Duty)) :: L) := Hp.drop hH (i := 2) rfl
      refine C_ret ?_
      try simp only [↓inBlock_ret, ↓then_ret]
      exact retQ rfl (Res.l3 Try.results9 (RL.cell rfl hv46) (RL.tmp rfl) (RL.tmp rfl)) ⟨.slice none 0 0, .slice none 0 0, A22, rfl, hH, hK⟩
    · rw [if_neg (nt hc42)] at hm
      refine C_skip_to (fun _ _ => rfl) ?_
      refine C_seq ?_
      refine C_region ?_
      refine V_y (Y_assign rfl) rfl rfl rfl ?_
      refine V_to (fun _ _ => rfl) ?_
      refine C_seq ?_
      refine C_seq ?_
      refine C_region ?_
      refine V_y (Y_move rfl) rfl rfl rfl ?_
      refine V_y (Y_lenSl h_plan rfl Try.underlying23 rfl) rfl rfl rfl ?_
      refine V_y (Y_move rfl) rfl rfl rfl ?_
      refine V_to (fun _ _ => rfl) ?_
      have hn63 := Sl.le h_plan
      obtain ⟨o47, ho47, hm⟩ := Option.bind_eq_some_iff.1 hm
      refine C_cutG (ι := Int) (fun (s48 : Int) => [(1, v_plan), (3, .pointer (some ⟨b5, 0, none⟩)), (5, .pointer (some ⟨b14, 0, none⟩)), (6, .pointer (some ⟨b20, 0, none⟩)), (7, .slice none 0 0), (11, .int .i64 s48)]) (fun (s48 : Int) => fun w' => o47 = .fin s48 ∧ w39 = w') ?_ ?_
      · refine C_block ?_
        refine C_range ho47 (fun k50 s54 a w' => ∃ i : Unit, Has ⟨111, [], none⟩ a ([(1, v_plan), (3, .pointer (some ⟨b5, 0, none⟩)), (5, .pointer (some ⟨b14, 0, none⟩)), (6, .pointer (some ⟨b20, 0, none⟩)), (7, .slice none 0 0), (11, .int .i64 s54), (31, v_plan), (32, .int .i64 (plan.length : Int)), (33, .int .i64 (k50 : Int))]) ∧ w39 = w') (fun a ha => ⟨(), ha.sub ⟨rfl, rfl, rfl, rfl, rfl, rfl, rfl, rfl, rfl, trivial⟩, rfl⟩) ?_
        rintro K k50 s54 a _ ⟨_, ha71, rfl⟩ hle59 K62 h61
        refine C_of ?_ ha71
        refine C_seq (C_region (V_y (Y_lss rfl rfl) rfl rfl rfl (V_to (fun _ _ => rfl) ?_)))
        refine C_seq ?_
        refine C_cond rfl (fun hc64 => ?_) (fun hc64 => ?_)
        · have hlt60 := lt_of_dec hc64
          obtain ⟨x56, h57, h58⟩ := K62 hlt60
          refine C_skip_to (fun _ _ => rfl) ?_
          refine C_seq ?_
          refine C_block ?_
          refine C_seq ?_
          refine C_region ?_
          obtain ⟨x65, hx65, h57⟩ := Option.bind_eq_some_iff.1 h57
          refine V_indexAddr h_plan hx65 Try.underlying23 Try.sizeOf3 rfl rfl rfl ?_
          intro b66 o67 h68
          refine V_y (Y_load (El.int h68) Try.isAgg3 rfl) rfl rfl rfl ?_
          refine V_y (Y_assign rfl) rfl rfl rfl ?_
          refine V_to (fun _ _ => rfl) ?_
          refine C_region ?_
          refine V_y (Y_move rfl) rfl rfl rfl ?_
          refine V_y (Y_move rfl) rfl rfl rfl ?_
          refine V_y (Y_addI rfl rfl) rfl rfl rfl ?_
          refine V_y (Y_assign rfl) rfl rfl rfl ?_
          refine V_to (fun _ _ => rfl) ?_
          refine C_region ?_
          refine V_y (Y_addI rfl rfl) rfl rfl rfl ?_
          refine V_y (Y_move rfl) rfl rfl rfl ?_
          obtain rfl := Option.some.inj h57
          refine V_end (fun a ha69 => ?_)
          exact ⟨w64 (s54 + x65), hlt60, h58, ⟨(), ha69.sub ⟨rfl, rfl, rfl, rfl, rfl, rfl, rfl, rfl, (congrArg (fun z => some (Value.int .i64 z)) (w64_succ hlt60 hn63)), trivial⟩, rfl⟩⟩
        · refine C_exit (fun a ha70 => ?_)
          exact ⟨s54, ha70.sub ⟨rfl, rfl, rfl, rfl, rfl, rfl, trivial⟩, ⟨(h61 (eq_of_dec hle59 hc64)).symm, rfl⟩⟩
      rintro s48 _ ⟨rfl, rfl⟩ a ha53
      rw [Lp.andThen_fin] at hm
      refine C_at (n := ⟨111, [], none⟩) (fun _ _ => rfl) ?_ ha53
      refine C_seq ?_
      refine C_seq ?_
      refine C_region ?_
      refine V_y (Y_move rfl) rfl rfl rfl ?_
      refine V_y (Y_gtr rfl rfl) rfl rfl rfl ?_
      refine V_to (fun _ _ => rfl) ?_
      refine C_cond rfl (fun hc72 => ?_) (fun hc72 => ?_)
      · rw [if_pos hc72] at hm
        refine C_seq ?_
        refine C_region ?_
        refine V_storeC (off := 0) (ds := [.slice none 0 0]) hH (i := 0) rfl Try.sizeOf32 rfl (Nat.le_of_ble_eq_true rfl) (by simp [Value.cells, Value.oneCell']) rfl hB hA rfl rfl ?_
        intro w73 hH74 ht75
        replace h_plan := Sl.tr h_plan ht75
        replace h8 := El.tr h8 ht75
        replace h17 := El.tr h17 ht75
        replace hK := Tr.trans hK ht75
        replace hB := Nat.le_trans hB ht75.ex.size
        replace hA := ht75.new
        replace hH : Hp B A22 w73 (obC b20 [.slice none 0 0] 32 :: L) := hH74
        refine V_y (Y_assign rfl) rfl rfl rfl ?_
        refine V_y (Y_assign rfl) rfl rfl rfl ?_
        refine V_to (fun _ _ => rfl) ?_
        obtain rfl := Option.some.inj hm
        replace hH : Hp B A22 w73 (obS (α := staff_Duty) 37 (.slice none 0 0) ([] : (List staff_Duty)) :: obC b20 [.slice none 0 0] 32 :: L) := Hp.addNil (α := staff_Duty) (e := 37) hH
        replace hH : Hp B A22 w73 (obS (α := staff_Duty) 37 (.slice none 0 0) ([] : (List staff_Duty)) :: obS (α := staff_Duty) 37 (.slice none 0 0) ([] : (List staff_Duty)) :: obC b20 [.slice none 0 0] 32 :: L) := Hp.addNil (α := staff_Duty) (e := 37) hH
        have hv76 := loadVar_one (Hp.cell (j := 0) hH (i := 2) rfl rfl) Try.isAgg32
        replace hH : Hp B A22 w73 (obS (α := staff_Duty) 37 (.slice none 0 0) ([] : (List staff_Duty)) :: obS (α := staff_Duty) 37 (.slice none 0 0) ([] : (List staff_Duty)) :: obC b20 [.slice none 0 0] 32 :: L) := Hp.front hH (i := 1) rfl
        replace hH : Hp B A22 w73 (obS (α := staff_Duty) 37 (.slice none 0 0) ([] : (List staff_Duty)) :: obS (α := staff_Duty) 37 (.slice none 0 0) ([] : (List staff_Duty)) :: L) := Hp.drop hH (i := 2) rfl
        refine C_ret ?_
        try simp only [↓inBlock_ret, ↓then_ret]
        exact retQ rfl (Res.l3 Try.results9 (RL.cell rfl hv76) (RL.tmp rfl) (RL.tmp rfl)) ⟨.slice none 0 0, .slice none 0 0, A22, rfl, hH, hK⟩
      · rw [if_neg (nt hc72)] at hm
        refine C_skip_to (fun _ _ => rfl) ?_
        refine C_seq ?_
        refine C_region ?_
        refine V_y (Y_makeFunc rfl rfl) rfl rfl rfl ?_
        refine V_y (Y_assign rfl) rfl rfl rfl ?_
        refine V_to (fun _ _ => rfl) ?_
        refine C_seq ?_
        refine C_seq ?_
        refine C_region ?_
        obtain ⟨v77, h78, h79⟩ := El.list h8
        refine V_y (Y_load h78 Try.isAgg29 rfl) rfl rfl rfl ?_
        refine V_y (Y_lenSl h79 rfl Try.underlying29 rfl) rfl rfl rfl ?_
        refine V_y (Y_move rfl) rfl rfl rfl ?_
        refine V_to (fun _ _ => rfl) ?_
        replace hH : Hp B A22 w39 (obS (α := staff_Duty) 37 (.slice none 0 0) ([] : (List staff_Duty)) :: obC b20 [.slice none 0 0] 32 :: L) := Hp.addNil (α := staff_Duty) (e := 37) hH
        replace hH : Hp B A22 w39 (obS (α := staff_Duty) 37 (.slice none 0 0) ([] : (List staff_Duty)) :: obS (α := staff_Duty) 37 (.slice none 0 0) ([] : (List staff_Duty)) :: obC b20 [.slice none 0 0] 32 :: L) := Hp.addNil (α := staff_Duty) (e := 37) hH
        have hn108 := Sl.le h79
        obtain ⟨o80, ho80, hm⟩ := Option.bind_eq_some_iff.1 hm
        refine C_cutG (ι := (((List staff_Duty) × (List staff_Duty)) × Value × Value × (Nat → Prop))) (fun ⟨s81, v87, v89, A91⟩ => [(6, .pointer (some ⟨b20, 0, none⟩)), (7, v87)]) (fun ⟨s81, v87, v89, A91⟩ => fun w' => o80 = .fin s81 ∧ Hp B A91 w' (obS (α := staff_Duty) 37 v89 s81.2 :: obS (α := staff_Duty) 37 v87 s81.1 :: obC b20 [v89] 32 :: L) ∧ Tr B A22 w39 A91 w') ?_ ?_
        · refine C_block ?_
          refine C_range ho80 (fun k83 s93 a w' => ∃ i : (Value × Value × (Nat → Prop)), Has ⟨111, [], none⟩ a ([(1, v_plan), (3, .pointer (some ⟨b5, 0, none⟩)), (5, .pointer (some ⟨b14, 0, none⟩)), (6, .pointer (some ⟨b20, 0, none⟩)), (7, i.1), (14, .func (.func 25) #[] #[.pointer (some ⟨b20, 0, none⟩), .pointer (some ⟨b5, 0, none⟩)]), (44, v77), (45, .int .i64 (forms.length : Int)), (46, .int .i64 (k83 : Int))]) ∧ Hp B i.2.2 w' (obS (α := staff_Duty) 37 i.2.1 s93.2 :: obS (α := staff_Duty) 37 i.1 s93.1 :: obC b20 [i.2.1] 32 :: L) ∧ Tr B A22 w39 i.2.2 w') (fun a ha => ⟨(.slice none 0 0, .slice none 0 0, A22), ha.sub ⟨rfl, rfl, rfl, rfl, rfl, rfl, rfl, rfl, rfl, trivial⟩, ⟨hH, Tr.refl hA⟩⟩) ?_
          rintro K k83 s93 a w94 ⟨⟨v95, v97, A99⟩, ha321, hH100, hr82⟩ hle104 K107 h106
          refine C_of ?_ ha321
          replace h_plan := Sl.tr h_plan hr82
          replace h8 := El.tr h8 hr82
          replace h17 := El.tr h17 hr82
          replace h79 := Sl.tr h79 hr82
          replace hK := Tr.trans hK hr82
          replace hB := Nat.le_trans hB hr82.ex.size
          replace hA := hr82.new
          replace hH : Hp B A99 w94 (obS (α := staff_Duty) 37 v97 s93.2 :: obS (α := staff_Duty) 37 v95 s93.1 :: obC b20 [v97] 32 :: L) := hH100
          refine C_seq (C_region (V_y (Y_lss rfl rfl) rfl rfl rfl (V_to (fun _ _ => rfl) ?_)))
          refine C_seq ?_
          refine C_cond rfl (fun hc109 => ?_) (fun hc109 => ?_)
          · have hlt105 := lt_of_dec hc109
            obtain ⟨x101, h102, h103⟩ := K107 hlt105
            refine C_skip_to (fun _ _ => rfl) ?_
            refine C_seq ?_
            obtain ⟨s111, ho110, h102⟩ := Option.bind_eq_some_iff.1 h102
            refine C_cutG (ι := (Value × Value × (Nat → Prop))) (fun ⟨v113, v115, A120⟩ => [(1, v_plan), (3, .pointer (some ⟨b5, 0, none⟩)), (5, .pointer (some ⟨b14, 0, none⟩)), (6, .pointer (some ⟨b20, 0, none⟩)), (7, v113), (14, .func (.func 25) #[] #[.pointer (some ⟨b20, 0, none⟩), .pointer (some ⟨b5, 0, none⟩)]), (44, v77), (45, .int .i64 (forms.length : Int)), (46, .int .i64 (k83 : Int))]) (fun ⟨v113, v115, A120⟩ => fun w' => Hp B A120 w' (obS (α := staff_Duty) 37 v115 s111.2 :: obS (α := staff_Duty) 37 v113 s111.1 :: obC b20 [v115] 32 :: L) ∧ Tr B A99 w94 A120 w') ?_ ?_
            · have hr112 : Tr B A99 w94 A99 w94 := Tr.refl hA
              refine C_block ?_
              refine C_seq ?_
              refine C_region ?_
              refine V_y (Y_move rfl) rfl rfl rfl ?_
              obtain ⟨x122, hx122, ho110⟩ := Option.bind_eq_some_iff.1 ho110
              refine V_indexAddr h79 hx122 Try.underlying29 Try.sizeOf52 rfl rfl rfl ?_
              intro b123 o124 h125
              obtain ⟨h126, _⟩ := El_staff_Form h125
              refine V_y (Y_loadA h126 Try.isAgg52 Try.sizeOf52 rfl) rfl rfl rfl ?_
              refine V_alloc Try.zeroValue52 rfl ?_
              intro b127 w128 h129
              refine V_y (Y_assign rfl) rfl rfl rfl ?_
              refine V_storeNew h129 Try.sizeOf52 rfl rfl rfl rfl (by exact (List.forall_mem_cons.2 ⟨rfl, (List.forall_mem_cons.2 ⟨rfl, (fun _ h => nomatch h)⟩)⟩)) ?_
              intro w130 h131
              have hk133 := h131.kp
              have h132 : El (α := staff_Form) A99 w130 b127 0 x122 := h131.el hA ⟨[.int .i64 x122.from_], _, rfl, rfl, rfl⟩
              have ht134 := Kp.tr hk133 hA hB
              replace hH := Hp.kp hH hk133
              replace h_plan := Sl.tr h_plan ht134
              replace h8 := El.tr h8 ht134
              replace h17 := El.tr h17 ht134
              replace h79 := Sl.tr h79 ht134
              replace h125 := El.tr h125 ht134
              replace hK := Tr.trans hK ht134
              replace hr82 := Tr.trans hr82 ht134
              replace hr112 := Tr.trans hr112 ht134
              replace hB := Nat.le_trans hB ht134.ex.size
              replace hA := ht134.new
              refine V_to (fun _ _ => rfl) ?_
              refine C_seq ?_
              refine C_region ?_
              refine V_y (Y_move rfl) rfl rfl rfl ?_
              refine V_y (Y_move rfl) rfl rfl rfl ?_
              obtain ⟨x135, hx135, ho110⟩ := Option.bind_eq_some_iff.1 ho110
              refine V_indexAddr h_plan hx135 Try.underlying23 Try.sizeOf3 rfl rfl rfl ?_
              intro b136 o137 h138
              refine V_y (Y_load (El.int h138) Try.isAgg3 rfl) rfl rfl rfl ?_
              refine V_y (Y_move rfl) rfl rfl rfl ?_
              refine V_to (fun _ _ => rfl) ?_
              obtain ⟨o139, ho139, ho110⟩ := Option.bind_eq_some_iff.1 ho110
              refine C_cutG (ι := (((List staff_Duty) × Int × (List staff_Duty)) × Value × Value × (Nat → Prop))) (fun ⟨s140, v146, v148, A150⟩ => [(1, v_plan), (3, .pointer (some ⟨b5, 0, none⟩)), (5, .pointer (some ⟨b14, 0, none⟩)), (6, .pointer (some ⟨b20, 0, none⟩)), (7, v146), (14, .func (.func 25) #[] #[.pointer (some ⟨b20, 0, none⟩), .pointer (some ⟨b5, 0, none⟩)]), (44, v77), (45, .int .i64 (forms.length : Int)), (46, .int .i64 (k83 : Int))]) (fun ⟨s140, v146, v148, A150⟩ => fun w' => o139 = .fin s140 ∧ Hp B A150 w' (obS (α := staff_Duty) 37 v148 s140.2.2 :: obS (α := staff_Duty) 37 v146 s140.1 :: obC b20 [v148] 32 :: L) ∧ Tr B A99 w130 A150 w') ?_ ?_
              · refine C_block ?_
                refine C_while ho139 (fun s152 a w' => ∃ i : (Value × Value × (Nat → Prop)), Has ⟨111, [], none⟩ a ([(1, v_plan), (3, .pointer (some ⟨b5, 0, none⟩)), (5, .pointer (some ⟨b14, 0, none⟩)), (6, .pointer (some ⟨b20, 0, none⟩)), (7, i.1), (14, .func (.func 25) #[] #[.pointer (some ⟨b20, 0, none⟩), .pointer (some ⟨b5, 0, none⟩)]), (15, .int .i64 (k83 : Int)), (16, .pointer (some ⟨b127, 0, none⟩)), (44, v77), (45, .int .i64 (forms.length : Int)), (46, .int .i64 (k83 : Int)), (54, .int .i64 x135), (55, .int .i64 s152.2.1)]) ∧ Hp B i.2.2 w' (obS (α := staff_Duty) 37 i.2.1 s152.2.2 :: obS (α := staff_Duty) 37 i.1 s152.1 :: obC b20 [i.2.1] 32 :: L) ∧ Tr B A99 w130 i.2.2 w') (fun a ha => ⟨(v95, v97, A99), ha.sub ⟨rfl, rfl, rfl, rfl, rfl, rfl, rfl, rfl, rfl, rfl, rfl, rfl, rfl, trivial⟩, ⟨hH, Tr.refl hA⟩⟩) ?_
                rintro K s152 a w153 ⟨⟨v154, v156, A158⟩, ha317, hH159, hr141⟩ K166
                refine C_of ?_ ha317
                replace h_plan := Sl.tr h_plan hr141
                replace h8 := El.tr h8 hr141
                replace h17 := El.tr h17 hr141
                replace h79 := Sl.tr h79 hr141
                replace h132 := El.tr h132 hr141
                replace hK := Tr.trans hK hr141
                replace hr82 := Tr.trans hr82 hr141
                replace hr112 := Tr.trans hr112 hr141
                replace hB := Nat.le_trans hB hr141.ex.size
                replace hA := hr141.new
                replace hH : Hp B A158 w153 (obS (α := staff_Duty) 37 v156 s152.2.2 :: obS (α := staff_Duty) 37 v154 s152.1 :: obC b20 [v156] 32 :: L) := hH159
                obtain ⟨x160, h161, h162⟩ := K166
                refine C_seq ?_
                refine C_region ?_
                refine V_y (Y_lss rfl rfl) rfl rfl rfl ?_
                refine V_to (fun _ _ => rfl) ?_
                refine C_seq ?_
                refine C_cond rfl (fun hc167 => ?_) (fun hc167 => ?_)
                · rw [if_pos hc167] at h161
                  refine C_skip_to (fun _ _ => rfl) ?_
                  refine C_seq ?_
                  obtain ⟨s169, ho168, h161⟩ := Option.bind_eq_some_iff.1 h161
                  refine C_cutG (ι := (Value × Value × (Nat → Prop))) (fun ⟨v171, v173, A178⟩ => [(1, v_plan), (3, .pointer (some ⟨b5, 0, none⟩)), (5, .pointer (some ⟨b14, 0, none⟩)), (6, .pointer (some ⟨b20, 0, none⟩)), (7, v171), (14, .func (.func 25) #[] #[.pointer (some ⟨b20, 0, none⟩), .pointer (some ⟨b5, 0, none⟩)]), (15, .int .i64 (k83 : Int)), (16, .pointer (some ⟨b127, 0, none⟩)), (44, v77), (45, .int .i64 (forms.length : Int)), (46, .int .i64 (k83 : Int)), (54, .int .i64 x135), (55, .int .i64 s152.2.1)]) (fun ⟨v171, v173, A178⟩ => fun w' => Hp B A178 w' (obS (α := staff_Duty) 37 v173 s169.2 :: obS (α := staff_Duty) 37 v171 s169.1 :: obC b20 [v173] 32 :: L) ∧ Tr B A158 w153 A178 w') ?_ ?_
                  · have hr170 : Tr B A158 w153 A158 w153 := Tr.refl hA
                    refine C_block ?_
                    refine C_seq ?_
                    refine C_region ?_
                    refine V_y (Y_assign rfl) rfl rfl rfl ?_
                    refine V_to (fun _ _ => rfl) ?_
                    refine C_seq ?_
                    refine C_seq ?_
                    refine C_region ?_
                    refine V_allocH (B := B) hH Try.zeroValue3 hB hA rfl ?_
                    intro b180 w181 A182 hH183 ht184
                    replace h_plan := Sl.tr h_plan ht184
                    replace h8 := El.tr h8 ht184
                    replace h17 := El.tr h17 ht184
                    replace h79 := Sl.tr h79 ht184
                    replace h132 := El.tr h132 ht184
                    replace hK := Tr.trans hK ht184
                    replace hr82 := Tr.trans hr82 ht184
                    replace hr112 := Tr.trans hr112 ht184
                    replace hr141 := Tr.trans hr141 ht184
                    replace hr170 := Tr.trans hr170 ht184
                    replace hB := Nat.le_trans hB ht184.ex.size
                    replace hA := ht184.new
                    replace hH : Hp B A182 w181 (obC b180 [.int .i64 0] 3 :: obS (α := staff_Duty) 37 v156 s152.2.2 :: obS (α := staff_Duty) 37 v154 s152.1 :: obC b20 [v156] 32 :: L) := hH183
                    refine V_storeC (off := 0) (ds := [.int .i64 1]) hH (i := 0) rfl Try.sizeOf3 rfl (Nat.le_of_ble_eq_true rfl) (by simp [Value.cells, Value.oneCell']) rfl hB hA rfl rfl ?_
                    intro w185 hH186 ht187
                    replace h_plan := Sl.tr h_plan ht187
                    replace h8 := El.tr h8 ht187
                    replace h17 := El.tr h17 ht187
                    replace h79 := Sl.tr h79 ht187
                    replace h132 := El.tr h132 ht187
                    replace hK := Tr.trans hK ht187
                    replace hr82 := Tr.trans hr82 ht187
                    replace hr112 := Tr.trans hr112 ht187
                    replace hr141 := Tr.trans hr141 ht187
                    replace hr170 := Tr.trans hr170 ht187
                    replace hB := Nat.le_trans hB ht187.ex.size
                    replace hA := ht187.new
                    replace hH : Hp B A182 w185 (obC b180 [.int .i64 1] 3 :: obS (α := staff_Duty) 37 v156 s152.2.2 :: obS (α := staff_Duty) 37 v154 s152.1 :: obC b20 [v156] 32 :: L) := hH186
                    refine V_to (fun _ _ => rfl) ?_
                    obtain ⟨o188, ho188, ho168⟩ := Option.bind_eq_some_iff.1 ho168
                    refine C_cutG (ι := ((Int × Int) × Nat × (Nat → Prop))) (fun ⟨s189, pb195, A196⟩ => [(1, v_plan), (3, .pointer (some ⟨b5, 0, none⟩)), (5, .pointer (some ⟨b14, 0, none⟩)), (6, .pointer (some ⟨b20, 0, none⟩)), (7, v154), (14, .func (.func 25) #[] #[.pointer (some ⟨b20, 0, none⟩), .pointer (some ⟨b5, 0, none⟩)]), (15, .int .i64 (k83 : Int)), (16, .pointer (some ⟨b127, 0, none⟩)), (17, .int .i64 s189.1), (44, v77), (45, .int .i64 (forms.length : Int)), (46, .int .i64 (k83 : Int)), (54, .int .i64 x135), (55, .int .i64 s152.2.1)]) (fun ⟨s189, pb195, A196⟩ => fun w' => o188 = .fin s189 ∧ Hp B A196 w' (obC pb195 [.int .i64 s189.2] 3 :: obS (α := staff_Duty) 37 v156 s152.2.2 :: obS (α := staff_Duty) 37 v154 s152.1 :: obC b20 [v156] 32 :: L) ∧ Tr B A182 w185 A196 w') ?_ ?_
                    · refine C_block ?_
                      refine C_while ho188 (fun s198 a w' => ∃ i : (Nat × (Nat → Prop)), Has ⟨111, [], none⟩ a ([(1, v_plan), (3, .pointer (some ⟨b5, 0, none⟩)), (5, .pointer (some ⟨b14, 0, none⟩)), (6, .pointer (some ⟨b20, 0, none⟩)), (7, v154), (14, .func (.func 25) #[] #[.pointer (some ⟨b20, 0, none⟩), .pointer (some ⟨b5, 0, none⟩)]), (15, .int .i64 (k83 : Int)), (16, .pointer (some ⟨b127, 0, none⟩)), (17, .int .i64 s198.1), (18, .pointer (some ⟨i.1, 0, none⟩)), (44, v77), (45, .int .i64 (forms.length : Int)), (46, .int .i64 (k83 : Int)), (54, .int .i64 x135), (55, .int .i64 s152.2.1)]) ∧ Hp B i.2 w' (obC i.1 [.int .i64 s198.2] 3 :: obS (α := staff_Duty) 37 v156 s152.2.2 :: obS (α := staff_Duty) 37 v154 s152.1 :: obC b20 [v156] 32 :: L) ∧ Tr B A182 w185 i.2 w') (fun a ha => ⟨(b180, A182), ha.sub ⟨rfl, rfl, rfl, rfl, rfl, rfl, rfl, rfl, rfl, rfl, rfl, rfl, rfl, rfl, rfl, trivial⟩, ⟨hH, Tr.refl hA⟩⟩) ?_
                      rintro K s198 a w199 ⟨⟨pb200, A201⟩, ha270, hH202, hr190⟩ K209
                      refine C_of ?_ ha270
                      replace h_plan := Sl.tr h_plan hr190
                      replace h8 := El.tr h8 hr190
                      replace h17 := El.tr h17 hr190
                      replace h79 := Sl.tr h79 hr190
                      replace h132 := El.tr h132 hr190
                      replace hK := Tr.trans hK hr190
                      replace hr82 := Tr.trans hr82 hr190
                      replace hr112 := Tr.trans hr112 hr190
                      replace hr141 := Tr.trans hr141 hr190
                      replace hr170 := Tr.trans hr170 hr190
                      replace hB := Nat.le_trans hB hr190.ex.size
                      replace hA := hr190.new
                      replace hH : Hp B A201 w199 (obC pb200 [.int .i64 s198.2] 3 :: obS (α := staff_Duty) 37 v156 s152.2.2 :: obS (α := staff_Duty) 37 v154 s152.1 :: obC b20 [v156] 32 :: L) := hH202
                      obtain ⟨x203, h204, h205⟩ := K209
                      refine C_seq ?_
                      refine C_seq ?_
                      refine C_region ?_
                      refine V_y (Y_load (Hp.cell (j := 0) hH (i := 0) rfl rfl) Try.isAgg3 rfl) rfl rfl rfl ?_
                      have h210 := El_staff_Rules_0 h17
                      refine V_y (Y_fieldAddr Try.underlying31 rfl Try.sizeOf3 (by decide) rfl) rfl rfl rfl ?_
                      refine V_y (Y_load (El.int h210) Try.isAgg3 rfl) rfl rfl rfl ?_
                      refine V_y (Y_leq rfl rfl) rfl rfl rfl ?_
                      refine V_to (fun _ _ => rfl) ?_
                      refine C_cond rfl (fun hc211 => ?_) (fun hc211 => ?_)
                      · rw [if_pos hc211] at h204
                        refine C_skip_to (fun _ _ => rfl) ?_
                        refine C_seq ?_
                        obtain ⟨s213, ho212, h204⟩ := Option.bind_eq_some_iff.1 h204
                        refine C_cutG (ι := (Nat → Prop)) (fun (A218 : (Nat → Prop)) => [(1, v_plan), (3, .pointer (some ⟨b5, 0, none⟩)), (5, .pointer (some ⟨b14, 0, none⟩)), (6, .pointer (some ⟨b20, 0, none⟩)), (7, v154), (14, .func (.func 25) #[] #[.pointer (some ⟨b20, 0, none⟩), .pointer (some ⟨b5, 0, none⟩)]), (15, .int .i64 (k83 : Int)), (16, .pointer (some ⟨b127, 0, none⟩)), (17, .int .i64 s213), (18, .pointer (some ⟨pb200, 0, none⟩)), (44, v77), (45, .int .i64 (forms.length : Int)), (46, .int .i64 (k83 : Int)), (54, .int .i64 x135), (55, .int .i64 s152.2.1)]) (fun (A218 : (Nat → Prop)) => fun w' => Hp B A218 w' (obC pb200 [.int .i64 s198.2] 3 :: obS (α := staff_Duty) 37 v156 s152.2.2 :: obS (α := staff_Duty) 37 v154 s152.1 :: obC b20 [v156] 32 :: L) ∧ Tr B A201 w199 A218 w') ?_ ?_
                        · have hr214 : Tr B A201 w199 A201 w199 := Tr.refl hA
                          refine C_block ?_
                          refine C_seq ?_
                          refine C_region ?_
                          refine V_y (Y_load (Hp.cell (j := 0) hH (i := 3) rfl rfl) Try.isAgg32 rfl) rfl rfl rfl ?_
                          refine V_y (Y_makeFunc rfl rfl) rfl rfl rfl ?_
                          obtain ⟨x221, hx221, ho212⟩ := Option.bind_eq_some_iff.1 ho212
                          refine V_call Try.call26 rfl rfl rfl rfl (slices_ContainsFunc_Lstaff_Duty_staff_Duty_c w199 (A := fun _ => True) (fun _ _ => trivial) s152.2.2 v156 (Hp.any (α := staff_Duty) (e := 37) (v := v156) (l := s152.2.2) hH (i := 1) rfl) (fun y229 => portref2_RosterOf_2 y229 s198.2 forms x122 r_) 27 #[] #[.pointer (some ⟨pb200, 0, none⟩), .pointer (some ⟨b5, 0, none⟩), .pointer (some ⟨b127, 0, none⟩), .pointer (some ⟨b14, 0, none⟩)] Try.call27 (fun w225 A226 ht227 h228 y222 r223 h224 => (portref2_RosterOf_2_c w225 h228 y222 s198.2 pb200 (El.tr (Hp.el (α := Int) (x := s198.2) hH (i := 0) rfl rfl) ht227) forms b5 (El.tr (El.keep h8 .any) ht227) x122 b127 (El.tr (El.keep h132 .any) ht227) r_ b14 (El.tr (El.keep h17 .any) ht227) h224).mono (fun _ _ h => ⟨h.1, h.2⟩)) hx221) ?_
                          rintro _ w230 ⟨rfl, hk231⟩
                          have ht232 := Kp.tr hk231 hA hB
                          replace hH := Hp.kp hH hk231
                          replace h_plan := Sl.tr h_plan ht232
                          replace h8 := El.tr h8 ht232
                          replace h17 := El.tr h17 ht232
                          replace h79 := Sl.tr h79 ht232
                          replace h132 := El.tr h132 ht232
                          replace hK := Tr.trans hK ht232
                          replace hr82 := Tr.trans hr82 ht232
                          replace hr112 := Tr.trans hr112 ht232
                          replace hr141 := Tr.trans hr141 ht232
                          replace hr170 := Tr.trans hr170 ht232
                          replace hr190 := Tr.trans hr190 ht232
                          replace hr214 := Tr.trans hr214 ht232
                          replace hB := Nat.le_trans hB ht232.ex.size
                          replace hA := ht232.new
                          refine V_y (Y_not rfl) rfl rfl rfl ?_
                          refine V_y (Y_assign rfl) rfl rfl rfl ?_
                          refine V_to (fun _ _ => rfl) ?_
                          refine C_seq ?_
                          refine C_region_q Try_mixed (by kernel_rfl) ?_
                          refine VQ_y (fun w' hw' => Y_move rfl) rfl rfl rfl ?_
                          refine VQ_y (fun w' hw' => Y_move rfl) rfl rfl rfl ?_
                          obtain ⟨s234, hs234, ho212⟩ := Option.bind_eq_some_iff.1 ho212
                          refine VQ_cut 10 (fun _ : Unit => [(1, v_plan), (3, .pointer (some ⟨b5, 0, none⟩)), (5, .pointer (some ⟨b14, 0, none⟩)), (6, .pointer (some ⟨b20, 0, none⟩)), (7, v154), (14, .func (.func 25) #[] #[.pointer (some ⟨b20, 0, none⟩), .pointer (some ⟨b5, 0, none⟩)]), (15, .int .i64 (k83 : Int)), (16, .pointer (some ⟨b127, 0, none⟩)), (17, .int .i64 s198.1), (18, .pointer (some ⟨pb200, 0, none⟩)), (44, v77), (45, .int .i64 (forms.length : Int)), (46, .int .i64 (k83 : Int)), (54, .int .i64 x135), (55, .int .i64 s152.2.1), (78, .bool s234)]) (fun _ => True) ?_ ?_
                          · simp only [List.take, List.drop]
                            rcases Bool.eq_false_or_eq_true (!x221) with hc233 | hc233
                            · rw [if_pos hc233] at hs234
                              refine VQ_ge rfl rfl rfl hc233 ?_
                              refine VQ_y (fun w' hw' => Y_move rfl) rfl rfl rfl ?_
                              refine VQ_ge rfl rfl rfl hc233 ?_
                              refine VQ_y (fun w' hw' => Y_load ((World.cell?_of_block (hw'.block _ (World.block_lt_of_cell? _ _ (Hp.cell (j := 0) hH (i := 0) rfl rfl)))).trans (Hp.cell (j := 0) hH (i := 0) rfl rfl)) Try.isAgg3 rfl) rfl rfl rfl ?_
                              refine VQ_ge rfl rfl rfl hc233 ?_
                              obtain ⟨x235, hx235, hs234⟩ := Option.bind_eq_some_iff.1 hs234
                              refine VQ_call (.int .i64 x235) Try.call25 rfl rfl rfl rfl (fun w' hw' => (portref2_RosterOf_1_c w' (A := fun _ => True) (fun _ _ => trivial) s198.2 s152.2.2 b20 (El.kp (Hp.el (α := (List staff_Duty)) (x := s152.2.2) hH (i := 3) rfl ⟨_, rfl, (Hp.any (α := staff_Duty) (e := 37) (v := v156) (l := s152.2.2) hH (i := 1) rfl)⟩) hw') forms b5 (El.kp (El.keep h8 .any) hw') hx235).mono (fun _ _ h => ⟨h.1, Kp.trans hw' h.2⟩)) ?_
                              refine VQ_ge rfl rfl rfl hc233 ?_
                              have h236 := El_staff_Form_1 h132
                              refine VQ_y (fun w' hw' => Y_fieldAddr Try.underlying52 rfl Try.sizeOf3 (by decide) rfl) rfl rfl rfl ?_
                              refine VQ_ge rfl rfl rfl hc233 ?_
                              refine VQ_y (fun w' hw' => Y_load (El.int (El.kp h236 hw')) Try.isAgg3 rfl) rfl rfl rfl ?_
                              refine VQ_ge rfl rfl rfl hc233 ?_
                              refine VQ_y (fun w' hw' => Y_addI rfl rfl) rfl rfl rfl ?_
                              refine VQ_ge rfl rfl rfl hc233 ?_
                              have h237 := El_staff_Rules_2 h17
                              refine VQ_y (fun w' hw' => Y_fieldAddr Try.underlying31 rfl Try.sizeOf3 (by decide) rfl) rfl rfl rfl ?_
                              refine VQ_ge rfl rfl rfl hc233 ?_
                              refine VQ_y (fun w' hw' => Y_load (El.int (El.kp h237 hw')) Try.isAgg3 rfl) rfl rfl rfl ?_
                              refine VQ_ge rfl rfl rfl hc233 ?_
                              refine VQ_y (fun w' hw' => Y_leq rfl rfl) rfl rfl rfl ?_
                              refine VQ_y (fun _ _ => Y_pick_te rfl hc233 rfl) rfl rfl rfl ?_
                              obtain rfl := Option.some.inj hs234
                              exact VQ_end fun a ha => ⟨(), ha.sub ⟨rfl, rfl, rfl, rfl, rfl, rfl, rfl, rfl, rfl, rfl, rfl, rfl, rfl, rfl, rfl, rfl, trivial⟩, trivial⟩
                            · rw [if_neg (nt hc233)] at hs234
                              refine VQ_gn rfl rfl rfl hc233 rfl rfl rfl ?_
                              refine VQ_gn rfl rfl rfl hc233 rfl rfl rfl ?_
                              refine VQ_gn rfl rfl rfl hc233 rfl rfl rfl ?_
                              refine VQ_gn rfl rfl rfl hc233 rfl rfl rfl ?_
                              refine VQ_gn rfl rfl rfl hc233 rfl rfl rfl ?_
                              refine VQ_gn rfl rfl rfl hc233 rfl rfl rfl ?_
                              refine VQ_gn rfl rfl rfl hc233 rfl rfl rfl ?_
                              refine VQ_gn rfl rfl rfl hc233 rfl rfl rfl ?_
                              refine VQ_gn rfl rfl rfl hc233 rfl rfl rfl ?_
                              refine VQ_y (fun _ _ => Y_pick_fe rfl hc233 rfl) rfl rfl rfl ?_
                              obtain rfl := Option.some.inj hs234
                              exact VQ_end fun a ha => ⟨(), ha.sub ⟨rfl, rfl, rfl, rfl, rfl, rfl, rfl, rfl, rfl, rfl, rfl, rfl, rfl, rfl, rfl, rfl, trivial⟩, trivial⟩
                          simp only [List.take, List.drop]
                          rintro _ _
                          refine VQ_y (fun w' hw' => Y_move rfl) rfl rfl rfl ?_
                          obtain ⟨s239, hs239, ho212⟩ := Option.bind_eq_some_iff.1 ho212
                          refine VQ_cut 12 (fun _ : Unit => [(1, v_plan), (3, .pointer (some ⟨b5, 0, none⟩)), (5, .pointer (some ⟨b14, 0, none⟩)), (6, .pointer (some ⟨b20, 0, none⟩)), (7, v154), (14, .func (.func 25) #[] #[.pointer (some ⟨b20, 0, none⟩), .pointer (some ⟨b5, 0, none⟩)]), (15, .int .i64 (k83 : Int)), (16, .pointer (some ⟨b127, 0, none⟩)), (17, .int .i64 s198.1), (18, .pointer (some ⟨pb200, 0, none⟩)), (44, v77), (45, .int .i64 (forms.length : Int)), (46, .int .i64 (k83 : Int)), (54, .int .i64 x135), (55, .int .i64 s152.2.1), (91, .bool s239)]) (fun _ => True) ?_ ?_
                          · simp only [List.take, List.drop]
                            rcases Bool.eq_false_or_eq_true (s234) with hc238 | hc238
                            · rw [if_pos hc238] at hs239
                              refine VQ_ge rfl rfl rfl hc238 ?_
                              refine VQ_y (fun w' hw' => Y_move rfl) rfl rfl rfl ?_
                              refine VQ_ge rfl rfl rfl hc238 ?_
                              refine VQ_y (fun w' hw' => Y_eql rfl rfl) rfl rfl rfl ?_
                              refine VQ_ge rfl rfl rfl hc238 ?_
                              refine VQ_y (fun w' hw' => Y_move rfl) rfl rfl rfl ?_
                              obtain ⟨s241, hs241, hs239⟩ := Option.bind_eq_some_iff.1 hs239
                              refine VQ_cut 8 (fun _ : Unit => [(1, v_plan), (3, .pointer (some ⟨b5, 0, none⟩)), (5, .pointer (some ⟨b14, 0, none⟩)), (6, .pointer (some ⟨b20, 0, none⟩)), (7, v154), (14, .func (.func 25) #[] #[.pointer (some ⟨b20, 0, none⟩), .pointer (some ⟨b5, 0, none⟩)]), (15, .int .i64 (k83 : Int)), (16, .pointer (some ⟨b127, 0, none⟩)), (17, .int .i64 s198.1), (18, .pointer (some ⟨pb200, 0, none⟩)), (44, v77), (45, .int .i64 (forms.length : Int)), (46, .int .i64 (k83 : Int)), (54, .int .i64 x135), (55, .int .i64 s152.2.1), (79, .bool s234), (90, .bool s241)]) (fun _ => True) ?_ ?_
                              · simp only [List.take, List.drop]
                                rcases Bool.eq_false_or_eq_true (s198.1 == 0) with hc240 | hc240
                                · rw [if_pos hc240] at hs241
                                  refine VQ_gn rfl rfl rfl hc240 rfl rfl rfl ?_
                                  refine VQ_gn rfl rfl rfl hc240 rfl rfl rfl ?_
                                  refine VQ_gn rfl rfl rfl hc240 rfl rfl rfl ?_
                                  refine VQ_gn rfl rfl rfl hc240 rfl rfl rfl ?_
                                  refine VQ_gn rfl rfl rfl hc240 rfl rfl rfl ?_
                                  refine VQ_gn rfl rfl rfl hc240 rfl rfl rfl ?_
                                  refine VQ_gn rfl rfl rfl hc240 rfl rfl rfl ?_
                                  refine VQ_ge rfl rfl rfl hc238 ?_
                                  refine VQ_y (fun _ _ => Y_pick_te rfl hc240 rfl) rfl rfl rfl ?_
                                  obtain rfl := Option.some.inj hs241
                                  exact VQ_end fun a ha => ⟨(), ha.sub ⟨rfl, rfl, rfl, rfl, rfl, rfl, rfl, rfl, rfl, rfl, rfl, rfl, rfl, rfl, rfl, rfl, rfl, trivial⟩, trivial⟩
                                · rw [if_neg (nt hc240)] at hs241
                                  refine VQ_ge rfl rfl rfl hc240 ?_
                                  refine VQ_y (fun w' hw' => Y_move rfl) rfl rfl rfl ?_
                                  refine VQ_ge rfl rfl rfl hc240 ?_
                                  refine VQ_y (fun w' hw' => Y_load ((World.cell?_of_block (hw'.block _ (World.block_lt_of_cell? _ _ (Hp.cell (j := 0) hH (i := 0) rfl rfl)))).trans (Hp.cell (j := 0) hH (i := 0) rfl rfl)) Try.isAgg3 rfl) rfl rfl rfl ?_
                                  refine VQ_ge rfl rfl rfl hc240 ?_
                                  obtain ⟨x242, hx242, hs241⟩ := Option.bind_eq_some_iff.1 hs241
                                  refine VQ_call (.int .i64 x242) Try.call25 rfl rfl rfl rfl (fun w' hw' => (portref2_RosterOf_1_c w' (A := fun _ => True) (fun _ _ => trivial) s198.2 s152.2.2 b20 (El.kp (Hp.el (α := (List staff_Duty)) (x := s152.2.2) hH (i := 3) rfl ⟨_, rfl, (Hp.any (α := staff_Duty) (e := 37) (v := v156) (l := s152.2.2) hH (i := 1) rfl)⟩) hw') forms b5 (El.kp (El.keep h8 .any) hw') hx242).mono (fun _ _ h => ⟨h.1, Kp.trans hw' h.2⟩)) ?_
                                  refine VQ_ge rfl rfl rfl hc240 ?_
                                  refine VQ_y (fun w' hw' => Y_move rfl) rfl rfl rfl ?_
                                  refine VQ_ge rfl rfl rfl hc240 ?_
                                  refine VQ_y (fun w' hw' => Y_move rfl) rfl rfl rfl ?_
                                  refine VQ_ge rfl rfl rfl hc240 ?_
                                  obtain ⟨x243, hx243, hs241⟩ := Option.bind_eq_some_iff.1 hs241
                                  refine VQ_call (.int .i64 x243) Try.call25 rfl rfl rfl rfl (fun w' hw' => (portref2_RosterOf_1_c w' (A := fun _ => True) (fun _ _ => trivial) s198.1 s152.2.2 b20 (El.kp (Hp.el (α := (List staff_Duty)) (x := s152.2.2) hH (i := 3) rfl ⟨_, rfl, (Hp.any (α := staff_Duty) (e := 37) (v := v156) (l := s152.2.2) hH (i := 1) rfl)⟩) hw') forms b5 (El.kp (El.keep h8 .any) hw') hx243).mono (fun _ _ h => ⟨h.1, Kp.trans hw' h.2⟩)) ?_
                                  refine VQ_ge rfl rfl rfl hc240 ?_
                                  refine VQ_y (fun w' hw' => Y_lss rfl rfl) rfl rfl rfl ?_
                                  refine VQ_ge rfl rfl rfl hc238 ?_
                                  refine VQ_y (fun _ _ => Y_pick_fe rfl hc240 rfl) rfl rfl rfl ?_
                                  obtain rfl := Option.some.inj hs241
                                  exact VQ_end fun a ha => ⟨(), ha.sub ⟨rfl, rfl, rfl, rfl, rfl, rfl, rfl, rfl, rfl, rfl, rfl, rfl, rfl, rfl, rfl, rfl, rfl, trivial⟩, trivial⟩
                              simp only [List.take, List.drop]
                              rintro _ _
                              refine VQ_y (fun _ _ => Y_pick_te rfl hc238 rfl) rfl rfl rfl ?_
                              obtain rfl := Option.some.inj hs239
                              exact VQ_end fun a ha => ⟨(), ha.sub ⟨rfl, rfl, rfl, rfl, rfl, rfl, rfl, rfl, rfl, rfl, rfl, rfl, rfl, rfl, rfl, rfl, trivial⟩, trivial⟩
                            · rw [if_neg (nt hc238)] at hs239
                              refine VQ_gn rfl rfl rfl hc238 rfl rfl rfl ?_
                              refine VQ_gn rfl rfl rfl hc238 rfl rfl rfl ?_
                              refine VQ_gn rfl rfl rfl hc238 rfl rfl rfl ?_
                              refine VQ_gu rfl rfl rfl rfl rfl ?_
                              refine VQ_gu rfl rfl rfl rfl rfl ?_
                              refine VQ_gu rfl rfl rfl rfl rfl ?_
                              refine VQ_gu rfl rfl rfl rfl rfl ?_
                              refine VQ_gu rfl rfl rfl rfl rfl ?_
                              refine VQ_gu rfl rfl rfl rfl rfl ?_
                              refine VQ_gu rfl rfl rfl rfl rfl ?_
                              refine VQ_gn rfl rfl rfl hc238 rfl rfl rfl ?_
                              refine VQ_y (fun _ _ => Y_pick_fe rfl hc238 rfl) rfl rfl rfl ?_
                              obtain rfl := Option.some.inj hs239
                              exact VQ_end fun a ha => ⟨(), ha.sub ⟨rfl, rfl, rfl, rfl, rfl, rfl, rfl, rfl, rfl, rfl, rfl, rfl, rfl, rfl, rfl, rfl, trivial⟩, trivial⟩
                          simp only [List.take, List.drop]
                          rintro _ _
                          refine VQ_to (fun _ _ => rfl) (fun w244 hk245 => ?_)
                          have ht246 := Kp.tr hk245 hA hB
                          replace hH := Hp.kp hH hk245
                          replace h_plan := Sl.tr h_plan ht246
                          replace h8 := El.tr h8 ht246
                          replace h17 := El.tr h17 ht246
                          replace h79 := Sl.tr h79 ht246
                          replace h132 := El.tr h132 ht246
                          replace hK := Tr.trans hK ht246
                          replace hr82 := Tr.trans hr82 ht246
                          replace hr112 := Tr.trans hr112 ht246
                          replace hr141 := Tr.trans hr141 ht246
                          replace hr170 := Tr.trans hr170 ht246
                          replace hr190 := Tr.trans hr190 ht246
                          replace hr214 := Tr.trans hr214 ht246
                          replace hB := Nat.le_trans hB ht246.ex.size
                          replace hA := ht246.new
                          obtain ⟨s248, ho247, ho212⟩ := Option.bind_eq_some_iff.1 ho212
                          refine C_cutG (ι := Unit) (fun (_ : Unit) => [(1, v_plan), (3, .pointer (some ⟨b5, 0, none⟩)), (5, .pointer (some ⟨b14, 0, none⟩)), (6, .pointer (some ⟨b20, 0, none⟩)), (7, v154), (14, .func (.func 25) #[] #[.pointer (some ⟨b20, 0, none⟩), .pointer (some ⟨b5, 0, none⟩)]), (15, .int .i64 (k83 : Int)), (16, .pointer (some ⟨b127, 0, none⟩)), (17, .int .i64 s248), (18, .pointer (some ⟨pb200, 0, none⟩)), (44, v77), (45, .int .i64 (forms.length : Int)), (46, .int .i64 (k83 : Int)), (54, .int .i64 x135), (55, .int .i64 s152.2.1)]) (fun (_ : Unit) => fun w' => w244 = w') ?_ ?_
                          · refine C_cond rfl (fun hc253 => ?_) (fun hc253 => ?_)
                            · rw [if_pos hc253] at ho247
                              refine C_region ?_
                              refine V_y (Y_load (Hp.cell (j := 0) hH (i := 0) rfl rfl) Try.isAgg3 rfl) rfl rfl rfl ?_
                              refine V_y (Y_assign rfl) rfl rfl rfl ?_
                              obtain rfl := Option.some.inj ho247
                              refine V_end (fun a ha254 => ?_)
                              exact ⟨(), ha254.sub ⟨rfl, rfl, rfl, rfl, rfl, rfl, rfl, rfl, rfl, rfl, rfl, rfl, rfl, rfl, rfl, trivial⟩, rfl⟩
                            · rw [if_neg (nt hc253)] at ho247
                              obtain rfl := Option.some.inj ho247
                              refine C_skip (fun a ha255 => ?_)
                              exact ⟨(), ha255.sub ⟨rfl, rfl, rfl, rfl, rfl, rfl, rfl, rfl, rfl, rfl, rfl, rfl, rfl, rfl, rfl, trivial⟩, rfl⟩
                          rintro _ _ rfl a ha252
                          obtain rfl := Option.some.inj ho212
                          exact ⟨A201, ha252.sub ⟨rfl, rfl, rfl, rfl, rfl, rfl, rfl, rfl, rfl, rfl, rfl, rfl, rfl, rfl, rfl, trivial⟩, ⟨hH, hr214⟩⟩
                        rintro A218 w215 ⟨hH219, hk216⟩ a ha217
                        replace h_plan := Sl.tr h_plan hk216
                        replace h8 := El.tr h8 hk216
                        replace h17 := El.tr h17 hk216
                        replace h79 := Sl.tr h79 hk216
                        replace h132 := El.tr h132 hk216
                        replace hK := Tr.trans hK hk216
                        replace hr82 := Tr.trans hr82 hk216
                        replace hr112 := Tr.trans hr112 hk216
                        replace hr141 := Tr.trans hr141 hk216
                        replace hr170 := Tr.trans hr170 hk216
                        replace hr190 := Tr.trans hr190 hk216
                        replace hB := Nat.le_trans hB hk216.ex.size
                        replace hA := hk216.new
                        replace hH : Hp B A218 w215 (obC pb200 [.int .i64 s198.2] 3 :: obS (α := staff_Duty) 37 v156 s152.2.2 :: obS (α := staff_Duty) 37 v154 s152.1 :: obC b20 [v156] 32 :: L) := hH219
                        refine C_at (n := ⟨111, [], none⟩) (fun _ _ => rfl) ?_ ha217
                        refine C_seq ?_
                        refine C_seq ?_
                        refine C_region ?_
                        refine V_y (Y_load (Hp.cell (j := 0) hH (i := 0) rfl rfl) Try.isAgg3 rfl) rfl rfl rfl ?_
                        refine V_to (fun _ _ => rfl) ?_
                        refine C_region ?_
                        refine V_allocH (B := B) hH Try.zeroValue3 hB hA rfl ?_
                        intro b257 w258 A259 hH260 ht261
                        replace h_plan := Sl.tr h_plan ht261
                        replace h8 := El.tr h8 ht261
                        replace h17 := El.tr h17 ht261
                        replace h79 := Sl.tr h79 ht261
                        replace h132 := El.tr h132 ht261
                        replace hK := Tr.trans hK ht261
                        replace hr82 := Tr.trans hr82 ht261
                        replace hr112 := Tr.trans hr112 ht261
                        replace hr141 := Tr.trans hr141 ht261
                        replace hr170 := Tr.trans hr170 ht261
                        replace hr190 := Tr.trans hr190 ht261
                        replace hB := Nat.le_trans hB ht261.ex.size
                        replace hA := ht261.new
                        replace hH : Hp B A259 w258 (obC b257 [.int .i64 0] 3 :: obC pb200 [.int .i64 s198.2] 3 :: obS (α := staff_Duty) 37 v156 s152.2.2 :: obS (α := staff_Duty) 37 v154 s152.1 :: obC b20 [v156] 32 :: L) := hH260
                        refine V_storeC (off := 0) (ds := [.int .i64 s198.2]) hH (i := 0) rfl Try.sizeOf3 rfl (Nat.le_of_ble_eq_true rfl) (by simp [Value.cells, Value.oneCell']) rfl hB hA rfl rfl ?_
                        intro w262 hH263 ht264
                        replace h_plan := Sl.tr h_plan ht264
                        replace h8 := El.tr h8 ht264
                        replace h17 := El.tr h17 ht264
                        replace h79 := Sl.tr h79 ht264
                        replace h132 := El.tr h132 ht264
                        replace hK := Tr.trans hK ht264
                        replace hr82 := Tr.trans hr82 ht264
                        replace hr112 := Tr.trans hr112 ht264
                        replace hr141 := Tr.trans hr141 ht264
                        replace hr170 := Tr.trans hr170 ht264
                        replace hr190 := Tr.trans hr190 ht264
                        replace hB := Nat.le_trans hB ht264.ex.size
                        replace hA := ht264.new
                        replace hH : Hp B A259 w262 (obC b257 [.int .i64 s198.2] 3 :: obC pb200 [.int .i64 s198.2] 3 :: obS (α := staff_Duty) 37 v156 s152.2.2 :: obS (α := staff_Duty) 37 v154 s152.1 :: obC b20 [v156] 32 :: L) := hH263
                        refine V_to (fun _ _ => rfl) ?_
                        refine C_region ?_
                        refine V_y (Y_load (Hp.cell (j := 0) hH (i := 0) rfl rfl) Try.isAgg3 rfl) rfl rfl rfl ?_
                        refine V_y (Y_addI rfl rfl) rfl rfl rfl ?_
                        refine V_storeC (off := 0) (ds := [.int .i64 (w64 (s198.2 + 1))]) hH (i := 0) rfl Try.sizeOf3 rfl (Nat.le_of_ble_eq_true rfl) (by simp [Value.cells, Value.oneCell']) rfl hB hA rfl rfl ?_
                        intro w265 hH266 ht267
                        replace h_plan := Sl.tr h_plan ht267
                        replace h8 := El.tr h8 ht267
                        replace h17 := El.tr h17 ht267
                        replace h79 := Sl.tr h79 ht267
                        replace h132 := El.tr h132 ht267
                        replace hK := Tr.trans hK ht267
                        replace hr82 := Tr.trans hr82 ht267
                        replace hr112 := Tr.trans hr112 ht267
                        replace hr141 := Tr.trans hr141 ht267
                        replace hr170 := Tr.trans hr170 ht267
                        replace hr190 := Tr.trans hr190 ht267
                        replace hB := Nat.le_trans hB ht267.ex.size
                        replace hA := ht267.new
                        replace hH : Hp B A259 w265 (obC b257 [.int .i64 (w64 (s198.2 + 1))] 3 :: obC pb200 [.int .i64 s198.2] 3 :: obS (α := staff_Duty) 37 v156 s152.2.2 :: obS (α := staff_Duty) 37 v154 s152.1 :: obC b20 [v156] 32 :: L) := hH266
                        obtain rfl := Option.some.inj h204
                        refine V_end (fun a ha268 => ?_)
                        replace hH : Hp B A259 w265 (obC b20 [v156] 32 :: obC b257 [.int .i64 (w64 (s198.2 + 1))] 3 :: obC pb200 [.int .i64 s198.2] 3 :: obS (α := staff_Duty) 37 v156 s152.2.2 :: obS (α := staff_Duty) 37 v154 s152.1 :: L) := Hp.front hH (i := 4) rfl
                        replace hH : Hp B A259 w265 (obS (α := staff_Duty) 37 v154 s152.1 :: obC b20 [v156] 32 :: obC b257 [.int .i64 (w64 (s198.2 + 1))] 3 :: obC pb200 [.int .i64 s198.2] 3 :: obS (α := staff_Duty) 37 v156 s152.2.2 :: L) := Hp.front hH (i := 4) rfl
                        replace hH : Hp B A259 w265 (obS (α := staff_Duty) 37 v156 s152.2.2 :: obS (α := staff_Duty) 37 v154 s152.1 :: obC b20 [v156] 32 :: obC b257 [.int .i64 (w64 (s198.2 + 1))] 3 :: obC pb200 [.int .i64 s198.2] 3 :: L) := Hp.front hH (i := 4) rfl
                        replace hH : Hp B A259 w265 (obC b257 [.int .i64 (w64 (s198.2 + 1))] 3 :: obS (α := staff_Duty) 37 v156 s152.2.2 :: obS (α := staff_Duty) 37 v154 s152.1 :: obC b20 [v156] 32 :: obC pb200 [.int .i64 s198.2] 3 :: L) := Hp.front hH (i := 3) rfl
                        replace hH : Hp B A259 w265 (obC b257 [.int .i64 (w64 (s198.2 + 1))] 3 :: obS (α := staff_Duty) 37 v156 s152.2.2 :: obS (α := staff_Duty) 37 v154 s152.1 :: obC b20 [v156] 32 :: L) := Hp.drop hH (i := 4) rfl
                        exact ⟨(s213, w64 (s198.2 + 1)), h205, ⟨(b257, A259), ha268.sub ⟨rfl, rfl, rfl, rfl, rfl, rfl, rfl, rfl, rfl, rfl, rfl, rfl, rfl, rfl, rfl, trivial⟩, ⟨hH, hr190⟩⟩⟩
                      · rw [if_neg (nt hc211)] at h204
                        obtain rfl := Option.some.inj h204
                        refine C_exit (fun a ha269 => ?_)
                        exact ⟨((s198.1, s198.2), pb200, A201), ha269.sub ⟨rfl, rfl, rfl, rfl, rfl, rfl, rfl, rfl, rfl, rfl, rfl, rfl, rfl, rfl, trivial⟩, ⟨h205.symm, hH, hr190⟩⟩
                    rintro ⟨s189, pb195, A196⟩ w192 ⟨rfl, hH197, hk193⟩ a ha194
                    rw [Lp.andThen_fin] at ho168
                    replace h_plan := Sl.tr h_plan hk193
                    replace h8 := El.tr h8 hk193
                    replace h17 := El.tr h17 hk193
                    replace h79 := Sl.tr h79 hk193
                    replace h132 := El.tr h132 hk193
                    replace hK := Tr.trans hK hk193
                    replace hr82 := Tr.trans hr82 hk193
                    replace hr112 := Tr.trans hr112 hk193
                    replace hr141 := Tr.trans hr141 hk193
                    replace hr170 := Tr.trans hr170 hk193
                    replace hB := Nat.le_trans hB hk193.ex.size
                    replace hA := hk193.new
                    replace hH : Hp B A196 w192 (obC pb195 [.int .i64 s189.2] 3 :: obS (α := staff_Duty) 37 v156 s152.2.2 :: obS (α := staff_Duty) 37 v154 s152.1 :: obC b20 [v156] 32 :: L) := hH197
                    refine C_at (n := ⟨111, [], none⟩) (fun _ _ => rfl) ?_ ha194
                    refine C_seq ?_
                    refine C_region ?_
                    refine V_y (Y_move rfl) rfl rfl rfl ?_
                    refine V_y (Y_eql rfl rfl) rfl rfl rfl ?_
                    refine V_to (fun _ _ => rfl) ?_
                    obtain ⟨s272, ho271, ho168⟩ := Option.bind_eq_some_iff.1 ho168
                    refine C_cutG (ι := (Value × Value × (Nat → Prop))) (fun ⟨v274, v276, A281⟩ => [(1, v_plan), (3, .pointer (some ⟨b5, 0, none⟩)), (5, .pointer (some ⟨b14, 0, none⟩)), (6, .pointer (some ⟨b20, 0, none⟩)), (7, v274), (14, .func (.func 25) #[] #[.pointer (some ⟨b20, 0, none⟩), .pointer (some ⟨b5, 0, none⟩)]), (15, .int .i64 (k83 : Int)), (16, .pointer (some ⟨b127, 0, none⟩)), (44, v77), (45, .int .i64 (forms.length : Int)), (46, .int .i64 (k83 : Int)), (54, .int .i64 x135), (55, .int .i64 s152.2.1)]) (fun ⟨v274, v276, A281⟩ => fun w' => Hp B A281 w' (obC pb195 [.int .i64 s189.2] 3 :: obS (α := staff_Duty) 37 v276 s272.2 :: obS (α := staff_Duty) 37 v274 s272.1 :: obC b20 [v276] 32 :: L) ∧ Tr B A196 w192 A281 w') ?_ ?_
                    · have hr273 : Tr B A196 w192 A196 w192 := Tr.refl hA
                      refine C_cond rfl (fun hc283 => ?_) (fun hc283 => ?_)
                      · rw [if_pos hc283] at ho271
                        refine C_region ?_
                        refine V_y (Y_move rfl) rfl rfl rfl ?_
                        refine V_y (Y_move rfl) rfl rfl rfl ?_
                        refine V_y (Y_build Try.underlying37 Try.zeroValue37 (Try_places37 _ Try.underlying37) rfl (by with_unfolding_all rfl)) rfl rfl rfl ?_
                        refine V_buildSlice (l := ([(⟨(k83 : Int), 0⟩ : staff_Duty)] : List staff_Duty)) (len := 1) Try.underlying32 Try.sizeOf37 Try.zeroValue37 rfl (by with_unfolding_all rfl) (by decide) (by decide) hA ⟨[.int .i64 (k83 : Int), .int .i64 0], _, rfl, ⟨[.int .i64 (k83 : Int)], _, rfl, rfl, rfl⟩, rfl⟩ rfl rfl ?_
                        intro v284 w285 hk287 h286
                        have ht288 := Kp.tr hk287 hA hB
                        replace hH := Hp.kp hH hk287
                        replace h_plan := Sl.tr h_plan ht288
                        replace h8 := El.tr h8 ht288
                        replace h17 := El.tr h17 ht288
                        replace h79 := Sl.tr h79 ht288
                        replace h132 := El.tr h132 ht288
                        replace hK := Tr.trans hK ht288
                        replace hr82 := Tr.trans hr82 ht288
                        replace hr112 := Tr.trans hr112 ht288
                        replace hr141 := Tr.trans hr141 ht288
                        replace hr170 := Tr.trans hr170 ht288
                        replace hr273 := Tr.trans hr273 ht288
                        replace hB := Nat.le_trans hB ht288.ex.size
                        replace hA := ht288.new
                        obtain ⟨x289, hx289, ho271⟩ := Option.bind_eq_some_iff.1 ho271
                        refine V_appendH (e := 37) (v := v154) (l := s152.1) (ti := Try.t37) (bytes := 16) (lim := 8796093022208) hH (i := 2) rfl h286 hx289 Try.underlying32 Try_info37 rfl rfl rfl rfl (by decide) (by decide) (by decide) hB hA rfl rfl rfl ?_
                        intro v290 w291 A292 hH293 ht294
                        replace h_plan := Sl.tr h_plan ht294
                        replace h8 := El.tr h8 ht294
                        replace h17 := El.tr h17 ht294
                        replace h79 := Sl.tr h79 ht294
                        replace h132 := El.tr h132 ht294
                        replace h286 := Sl.tr h286 ht294
                        replace hK := Tr.trans hK ht294
                        replace hr82 := Tr.trans hr82 ht294
                        replace hr112 := Tr.trans hr112 ht294
                        replace hr141 := Tr.trans hr141 ht294
                        replace hr170 := Tr.trans hr170 ht294
                        replace hr273 := Tr.trans hr273 ht294
                        replace hB := Nat.le_trans hB ht294.ex.size
                        replace hA := ht294.new
                        replace hH : Hp B A292 w291 (obC pb195 [.int .i64 s189.2] 3 :: obS (α := staff_Duty) 37 v156 s152.2.2 :: obS (α := staff_Duty) 37 v290 x289 :: obC b20 [v156] 32 :: L) := hH293
                        refine V_y (Y_assign rfl) rfl rfl rfl ?_
                        obtain rfl := Option.some.inj ho271
                        refine V_end (fun a ha295 => ?_)
                        exact ⟨(v290, v156, A292), ha295.sub ⟨rfl, rfl, rfl, rfl, rfl, rfl, rfl, rfl, rfl, rfl, rfl, rfl, rfl, trivial⟩, ⟨hH, hr273⟩⟩
                      · rw [if_neg (nt hc283)] at ho271
                        refine C_region ?_
                        refine V_y (Y_load (Hp.cell (j := 0) hH (i := 3) rfl rfl) Try.isAgg32 rfl) rfl rfl rfl ?_
                        refine V_y (Y_move rfl) rfl rfl rfl ?_
                        refine V_y (Y_move rfl) rfl rfl rfl ?_
                        refine V_y (Y_build Try.underlying37 Try.zeroValue37 (Try_places37 _ Try.underlying37) rfl (by with_unfolding_all rfl)) rfl rfl rfl ?_
                        refine V_buildSlice (l := ([(⟨(k83 : Int), s189.1⟩ : staff_Duty)] : List staff_Duty)) (len := 1) Try.underlying32 Try.sizeOf37 Try.zeroValue37 rfl (by with_unfolding_all rfl) (by decide) (by decide) hA ⟨[.int .i64 (k83 : Int), .int .i64 s189.1], _, rfl, ⟨[.int .i64 (k83 : Int)], _, rfl, rfl, rfl⟩, rfl⟩ rfl rfl ?_
                        intro v296 w297 hk299 h298
                        have ht300 := Kp.tr hk299 hA hB
                        replace hH := Hp.kp hH hk299
                        replace h_plan := Sl.tr h_plan ht300
                        replace h8 := El.tr h8 ht300
                        replace h17 := El.tr h17 ht300
                        replace h79 := Sl.tr h79 ht300
                        replace h132 := El.tr h132 ht300
                        replace hK := Tr.trans hK ht300
                        replace hr82 := Tr.trans hr82 ht300
                        replace hr112 := Tr.trans hr112 ht300
                        replace hr141 := Tr.trans hr141 ht300
                        replace hr170 := Tr.trans hr170 ht300
                        replace hr273 := Tr.trans hr273 ht300
                        replace hB := Nat.le_trans hB ht300.ex.size
                        replace hA := ht300.new
                        obtain ⟨x301, hx301, ho271⟩ := Option.bind_eq_some_iff.1 ho271
                        refine V_appendH (e := 37) (v := v156) (l := s152.2.2) (ti := Try.t37) (bytes := 16) (lim := 8796093022208) hH (i := 1) rfl h298 hx301 Try.underlying32 Try_info37 rfl rfl rfl rfl (by decide) (by decide) (by decide) hB hA rfl rfl rfl ?_
                        intro v302 w303 A304 hH305 ht306
                        replace h_plan := Sl.tr h_plan ht306
                        replace h8 := El.tr h8 ht306
                        replace h17 := El.tr h17 ht306
                        replace h79 := Sl.tr h79 ht306
                        replace h132 := El.tr h132 ht306
                        replace h298 := Sl.tr h298 ht306
                        replace hK := Tr.trans hK ht306
                        replace hr82 := Tr.trans hr82 ht306
                        replace hr112 := Tr.trans hr112 ht306
                        replace hr141 := Tr.trans hr141 ht306
                        replace hr170 := Tr.trans hr170 ht306
                        replace hr273 := Tr.trans hr273 ht306
                        replace hB := Nat.le_trans hB ht306.ex.size
                        replace hA := ht306.new
                        replace hH : Hp B A304 w303 (obC pb195 [.int .i64 s189.2] 3 :: obS (α := staff_Duty) 37 v302 x301 :: obS (α := staff_Duty) 37 v154 s152.1 :: obC b20 [v156] 32 :: L) := hH305
                        have h312 : (v302).oneCell' = true := by obtain ⟨_, _, e, _⟩ := Hp.form (α := staff_Duty) (e := 37) (v := v302) (l := x301) hH (i := 1) rfl; rw [e]; rfl
                        refine V_storeC (off := 0) (ds := [v302]) hH (i := 3) rfl Try.sizeOf32 (by rw [← Array.length_toList, Value.cells_one h312]; rfl) (Nat.le_of_ble_eq_true rfl) (by intro u hu; rw [Value.cells_one h312] at hu; simp at hu; subst hu; assumption) (by rw [Value.cells_one h312]; rfl) hB hA rfl rfl ?_
                        intro w307 hH308 ht309
                        replace h_plan := Sl.tr h_plan ht309
                        replace h8 := El.tr h8 ht309
                        replace h17 := El.tr h17 ht309
                        replace h79 := Sl.tr h79 ht309
                        replace h132 := El.tr h132 ht309
                        replace h298 := Sl.tr h298 ht309
                        replace hK := Tr.trans hK ht309
                        replace hr82 := Tr.trans hr82 ht309
                        replace hr112 := Tr.trans hr112 ht309
                        replace hr141 := Tr.trans hr141 ht309
                        replace hr170 := Tr.trans hr170 ht309
                        replace hr273 := Tr.trans hr273 ht309
                        replace hB := Nat.le_trans hB ht309.ex.size
                        replace hA := ht309.new
                        replace hH : Hp B A304 w307 (obC pb195 [.int .i64 s189.2] 3 :: obS (α := staff_Duty) 37 v302 x301 :: obS (α := staff_Duty) 37 v154 s152.1 :: obC b20 [v302] 32 :: L) := hH308
                        obtain rfl := Option.some.inj ho271
                        refine V_end (fun a ha313 => ?_)
                        exact ⟨(v154, v302, A304), ha313.sub ⟨rfl, rfl, rfl, rfl, rfl, rfl, rfl, rfl, rfl, rfl, rfl, rfl, rfl, trivial⟩, ⟨hH, hr273⟩⟩
                    rintro ⟨v274, v276, A281⟩ w278 ⟨hH282, hk279⟩ a ha280
                    replace h_plan := Sl.tr h_plan hk279
                    replace h8 := El.tr h8 hk279
                    replace h17 := El.tr h17 hk279
                    replace h79 := Sl.tr h79 hk279
                    replace h132 := El.tr h132 hk279
                    replace hK := Tr.trans hK hk279
                    replace hr82 := Tr.trans hr82 hk279
                    replace hr112 := Tr.trans hr112 hk279
                    replace hr141 := Tr.trans hr141 hk279
                    replace hr170 := Tr.trans hr170 hk279
                    replace hB := Nat.le_trans hB hk279.ex.size
                    replace hA := hk279.new
                    replace hH : Hp B A281 w278 (obC pb195 [.int .i64 s189.2] 3 :: obS (α := staff_Duty) 37 v276 s272.2 :: obS (α := staff_Duty) 37 v274 s272.1 :: obC b20 [v276] 32 :: L) := hH282
                    obtain rfl := Option.some.inj ho168
                    replace hH : Hp B A281 w278 (obC b20 [v276] 32 :: obC pb195 [.int .i64 s189.2] 3 :: obS (α := staff_Duty) 37 v276 s272.2 :: obS (α := staff_Duty) 37 v274 s272.1 :: L) := Hp.front hH (i := 3) rfl
                    replace hH : Hp B A281 w278 (obS (α := staff_Duty) 37 v274 s272.1 :: obC b20 [v276] 32 :: obC pb195 [.int .i64 s189.2] 3 :: obS (α := staff_Duty) 37 v276 s272.2 :: L) := Hp.front hH (i := 3) rfl
                    replace hH : Hp B A281 w278 (obS (α := staff_Duty) 37 v276 s272.2 :: obS (α := staff_Duty) 37 v274 s272.1 :: obC b20 [v276] 32 :: obC pb195 [.int .i64 s189.2] 3 :: L) := Hp.front hH (i := 3) rfl
                    replace hH : Hp B A281 w278 (obS (α := staff_Duty) 37 v276 s272.2 :: obS (α := staff_Duty) 37 v274 s272.1 :: obC b20 [v276] 32 :: L) := Hp.drop hH (i := 3) rfl
                    exact ⟨(v274, v276, A281), ha280.sub ⟨rfl, rfl, rfl, rfl, rfl, rfl, rfl, rfl, rfl, rfl, rfl, rfl, rfl, trivial⟩, ⟨hH, hr170⟩⟩
                  rintro ⟨v171, v173, A178⟩ w175 ⟨hH179, hk176⟩ a ha177
                  replace h_plan := Sl.tr h_plan hk176
                  replace h8 := El.tr h8 hk176
                  replace h17 := El.tr h17 hk176
                  replace h79 := Sl.tr h79 hk176
                  replace h132 := El.tr h132 hk176
                  replace hK := Tr.trans hK hk176
                  replace hr82 := Tr.trans hr82 hk176
                  replace hr112 := Tr.trans hr112 hk176
                  replace hr141 := Tr.trans hr141 hk176
                  replace hB := Nat.le_trans hB hk176.ex.size
                  replace hA := hk176.new
                  replace hH : Hp B A178 w175 (obS (α := staff_Duty) 37 v173 s169.2 :: obS (α := staff_Duty) 37 v171 s169.1 :: obC b20 [v173] 32 :: L) := hH179
                  refine C_at (n := ⟨111, [], none⟩) (fun _ _ => rfl) ?_ ha177
                  refine C_region ?_
                  refine V_y (Y_addI rfl rfl) rfl rfl rfl ?_
                  refine V_y (Y_move rfl) rfl rfl rfl ?_
                  obtain rfl := Option.some.inj h161
                  refine V_end (fun a ha315 => ?_)
                  exact ⟨(s169.1, w64 (s152.2.1 + 1), s169.2), h162, ⟨(v171, v173, A178), ha315.sub ⟨rfl, rfl, rfl, rfl, rfl, rfl, rfl, rfl, rfl, rfl, rfl, rfl, rfl, trivial⟩, ⟨hH, hr141⟩⟩⟩
                · rw [if_neg (nt hc167)] at h161
                  obtain rfl := Option.some.inj h161
                  refine C_exit (fun a ha316 => ?_)
                  exact ⟨((s152.1, s152.2.1, s152.2.2), v154, v156, A158), ha316.sub ⟨rfl, rfl, rfl, rfl, rfl, rfl, rfl, rfl, rfl, trivial⟩, ⟨h162.symm, hH, hr141⟩⟩
              rintro ⟨s140, v146, v148, A150⟩ w143 ⟨rfl, hH151, hk144⟩ a ha145
              rw [Lp.andThen_fin] at ho110
              replace h_plan := Sl.tr h_plan hk144
              replace h8 := El.tr h8 hk144
              replace h17 := El.tr h17 hk144
              replace h79 := Sl.tr h79 hk144
              replace hK := Tr.trans hK hk144
              replace hr82 := Tr.trans hr82 hk144
              replace hr112 := Tr.trans hr112 hk144
              replace hB := Nat.le_trans hB hk144.ex.size
              replace hA := hk144.new
              replace hH : Hp B A150 w143 (obS (α := staff_Duty) 37 v148 s140.2.2 :: obS (α := staff_Duty) 37 v146 s140.1 :: obC b20 [v148] 32 :: L) := hH151
              obtain rfl := Option.some.inj ho110
              exact ⟨(v146, v148, A150), ha145.sub ⟨rfl, rfl, rfl, rfl, rfl, rfl, rfl, rfl, rfl, trivial⟩, ⟨hH, hr112⟩⟩
            rintro ⟨v113, v115, A120⟩ w117 ⟨hH121, hk118⟩ a ha119
            replace h_plan := Sl.tr h_plan hk118
            replace h8 := El.tr h8 hk118
            replace h17 := El.tr h17 hk118
            replace h79 := Sl.tr h79 hk118
            replace hK := Tr.trans hK hk118
            replace hr82 := Tr.trans hr82 hk118
            replace hB := Nat.le_trans hB hk118.ex.size
            replace hA := hk118.new
            replace hH : Hp B A120 w117 (obS (α := staff_Duty) 37 v115 s111.2 :: obS (α := staff_Duty) 37 v113 s111.1 :: obC b20 [v115] 32 :: L) := hH121
            refine C_at (n := ⟨111, [], none⟩) (fun _ _ => rfl) ?_ ha119
            refine C_region ?_
            refine V_y (Y_addI rfl rfl) rfl rfl rfl ?_
            refine V_y (Y_move rfl) rfl rfl rfl ?_
            obtain rfl := Option.some.inj h102
            refine V_end (fun a ha319 => ?_)
            exact ⟨(s111.1, s111.2), hlt105, h103, ⟨(v113, v115, A120), ha319.sub ⟨rfl, rfl, rfl, rfl, rfl, rfl, rfl, rfl, (congrArg (fun z => some (Value.int .i64 z)) (w64_succ hlt105 hn108)), trivial⟩, ⟨hH, hr82⟩⟩⟩
          · refine C_exit (fun a ha320 => ?_)
            exact ⟨((s93.1, s93.2), v95, v97, A99), ha320.sub ⟨rfl, rfl, trivial⟩, ⟨(h106 (eq_of_dec hle104 hc109)).symm, hH, hr82⟩⟩
        rintro ⟨s81, v87, v89, A91⟩ w84 ⟨rfl, hH92, hk85⟩ a ha86
        rw [Lp.andThen_fin] at hm
        replace hK := Tr.trans hK hk85
        replace hB := Nat.le_trans hB hk85.ex.size
        replace hA := hk85.new
        replace hH : Hp B A91 w84 (obS (α := staff_Duty) 37 v89 s81.2 :: obS (α := staff_Duty) 37 v87 s81.1 :: obC b20 [v89] 32 :: L) := hH92
        refine C_at (n := ⟨111, [], none⟩) (fun _ _ => rfl) ?_ ha86
        refine C_seq ?_
        refine C_region ?_
        refine V_y (Y_load (Hp.cell (j := 0) hH (i := 2) rfl rfl) Try.isAgg32 rfl) rfl rfl rfl ?_
        refine V_y (Y_move rfl) rfl rfl rfl ?_
        have h327 : (v89).oneCell' = true := by obtain ⟨_, _, e, _⟩ := Hp.form (α := staff_Duty) (e := 37) (v := v89) (l := s81.2) hH (i := 0) rfl; rw [e]; rfl
        refine V_storeC (off := 0) (ds := [v89]) hH (i := 2) rfl Try.sizeOf32 (by rw [← Array.length_toList, Value.cells_one h327]; rfl) (Nat.le_of_ble_eq_true rfl) (by intro u hu; rw [Value.cells_one h327] at hu; simp at hu; subst hu; assumption) (by rw [Value.cells_one h327]; rfl) hB hA rfl rfl ?_
        intro w322 hH323 ht324
        replace hK := Tr.trans hK ht324
        replace hB := Nat.le_trans hB ht324.ex.size
        replace hA := ht324.new
        replace hH : Hp B A91 w322 (obS (α := staff_Duty) 37 v89 s81.2 :: obS (α := staff_Duty) 37 v87 s81.1 :: obC b20 [v89] 32 :: L) := hH323
        refine V_y (Y_assign rfl) rfl rfl rfl ?_
        refine V_y (Y_assign rfl) rfl rfl rfl ?_
        refine V_to (fun _ _ => rfl) ?_
        obtain rfl := Option.some.inj hm
        have hv328 := loadVar_one (Hp.cell (j := 0) hH (i := 2) rfl rfl) Try.isAgg32
        replace hH : Hp B A91 w322 (obS (α := staff_Duty) 37 v87 s81.1 :: obS (α := staff_Duty) 37 v89 s81.2 :: obC b20 [v89] 32 :: L) := Hp.front hH (i := 1) rfl
        replace hH : Hp B A91 w322 (obS (α := staff_Duty) 37 v89 s81.2 :: obS (α := staff_Duty) 37 v87 s81.1 :: obC b20 [v89] 32 :: L) := Hp.front hH (i := 1) rfl
        replace hH : Hp B A91 w322 (obS (α := staff_Duty) 37 v89 s81.2 :: obS (α := staff_Duty) 37 v87 s81.1 :: L) := Hp.drop hH (i := 2) rfl
        refine C_ret ?_
        try simp only [↓inBlock_ret, ↓then_ret]
        exact retQ rfl (Res.l3 Try.results9 (RL.cell rfl hv328) (RL.tmp rfl) (RL.tmp rfl)) ⟨v89, v87, A91, rfl, hH, hK⟩

end Go.Proofs.Ytklcifchnpnpnaa.W
