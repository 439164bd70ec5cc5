/-
  Written by program (gen.py) from the IR of the dump: each function computes its model.
-/
import Derived.Test.YtcfhifbmjjhhdaaRosterJudgesW0
namespace Go.Proofs.Ytcfhifbmjjhhdaa.W
open Go Go.RowKit Go.Pu Go.Gw Go.Proofs Go.Proofs.Ytcfhifbmjjhhdaa.M
set_option linter.unusedVariables false
set_option linter.unusedSimpArgs false
variable {Dw : Prop}

set_option maxRecDepth 4000 in
set_option maxHeartbeats 4000000 in
theorem portref2_FormsFault_c (w : World) {A : Nat → Prop} (hA : ∀ b, w.heap.size ≤ b → A b) (l : (List staff_Form)) (v_l : Value) (h_l : Sl A w v_l l) {r : Int} (hm : portref2_FormsFault l = some r) : Ret Try.prog 22 #[v_l] w fun v w' => v = .int .i64 r ∧ Kp Dw w w' := by
  unfold portref2_FormsFault at hm
  refine enter Try.func22 rfl Try.ntmps22 rfl ?_
  have hA0 := hA
  have hB := Nat.le_refl w.heap.size
  have hK : Tr Dw w.heap.size A w A w := Tr.refl (Dw := Dw) hA
  have hH : Hp w.heap.size A w [] := Hp.nil
  refine C_seq ?_
  refine C_region ?_
  refine V_y (Y_assign rfl) rfl rfl rfl ?_
  refine V_to (fun _ _ => rfl) ?_
  refine C_seq ?_
  refine C_seq ?_
  refine C_region ?_
  refine V_y (Y_move rfl) rfl rfl rfl ?_
  refine V_y (Y_lenSl h_l rfl Try.underlying22 rfl) rfl rfl rfl ?_
  refine V_y (Y_gtr rfl rfl) rfl rfl rfl ?_
  refine V_to (fun _ _ => rfl) ?_
  refine C_cond rfl (fun hc3 => ?_) (fun hc3 => ?_)
  · rw [if_pos hc3] at hm
    refine C_seq ?_
    refine C_region ?_
    refine V_y (Y_assign rfl) rfl rfl rfl ?_
    refine V_to (fun _ _ => rfl) ?_
    obtain rfl := Option.some.inj hm
    refine C_ret ?_
    try simp only [↓inBlock_ret, ↓then_ret]
    exact retQ rfl (Res.one Try.results22 rfl) ⟨rfl, hK.kp⟩
  · rw [if_neg (nt hc3)] at hm
    refine C_skip_to (fun _ _ => rfl) ?_
    refine C_seq ?_
    refine C_seq ?_
    refine C_region ?_
    refine V_y (Y_move rfl) rfl rfl rfl ?_
    refine V_y (Y_lenSl h_l rfl Try.underlying22 rfl) rfl rfl rfl ?_
    refine V_y (Y_move rfl) rfl rfl rfl ?_
    refine V_to (fun _ _ => rfl) ?_
    have hn25 := Sl.le h_l
    obtain ⟨o4, ho4, hm⟩ := Option.bind_eq_some_iff.1 hm
    refine C_cutG (ι := (Unit × (Nat → Prop))) (fun ⟨s5, A12⟩ => []) (fun ⟨s5, A12⟩ => fun w' => o4 = .fin s5 ∧ Hp w.heap.size A12 w' ([]) ∧ Tr Dw w.heap.size A w A12 w') ?_ ?_
    · refine C_block ?_
      refine C_range ho4 (fun k7 _ a w' => ∃ i : (Nat → Prop), Has ⟨62, [], none⟩ a ([(0, v_l), (8, v_l), (9, .int .i64 (l.length : Int)), (10, .int .i64 (k7 : Int))]) ∧ Hp w.heap.size i w' ([]) ∧ Tr Dw w.heap.size A w i w') (fun a ha => ⟨A, ha.sub ⟨rfl, rfl, rfl, rfl, trivial⟩, ⟨hH, Tr.refl (Dw := Dw) hA⟩⟩) ?_
      rintro K k7 _ a w15 ⟨A16, ha91, hH17, hr6⟩ hle21 K24 h23
      refine C_of ?_ ha91
      replace h_l := Sl.tr (Dw := Dw) h_l hr6
      replace hK := Tr.trans (Dw := Dw) hK hr6
      replace hB := Nat.le_trans hB hr6.ex.size
      replace hA := hr6.new
      replace hH : Hp w.heap.size A16 w15 ([]) := hH17
      refine C_seq (C_region (V_y (Y_lss rfl rfl) rfl rfl rfl (V_to (fun _ _ => rfl) ?_)))
      refine C_seq ?_
      refine C_cond rfl (fun hc26 => ?_) (fun hc26 => ?_)
      · have hlt22 := lt_of_dec hc26
        obtain ⟨x18, h19, h20⟩ := K24 hlt22
        refine C_skip_to (fun _ _ => rfl) ?_
        refine C_seq ?_
        refine C_block ?_
        refine C_seq ?_
        refine C_region ?_
        refine V_y (Y_move rfl) rfl rfl rfl ?_
        obtain ⟨x27, hx27, h19⟩ := Option.bind_eq_some_iff.1 h19
        refine V_indexAddr h_l hx27 Try.underlying22 Try.sizeOf53 rfl rfl rfl ?_
        intro b28 o29 h30
        obtain ⟨h31, _⟩ := El_staff_Form h30
        refine V_y (Y_loadA h31 Try.isAgg53 Try.sizeOf53 rfl) rfl rfl rfl ?_
        refine V_alloc Try.zeroValue53 rfl ?_
        intro b32 w33 h34
        refine V_y (Y_assign rfl) rfl rfl rfl ?_
        refine V_storeNew h34 Try.sizeOf53 rfl rfl rfl rfl (by exact (List.forall_mem_cons.2 ⟨rfl, (List.forall_mem_cons.2 ⟨rfl, (fun _ h => nomatch h)⟩)⟩)) ?_
        intro w35 h36
        have hk38 := h36.kp (Dw := Dw)
        have h37 : El (α := staff_Form) A16 w35 b32 0 x27 := h36.el hA ⟨[.int .i64 x27.from_], _, rfl, rfl, rfl⟩
        have ht39 := Kp.tr (Dw := Dw) hk38 hA hB
        replace hH := Hp.kp (Dw := Dw) hH hk38
        replace h_l := Sl.tr (Dw := Dw) h_l ht39
        replace h30 := El.tr (Dw := Dw) h30 ht39
        replace hK := Tr.trans (Dw := Dw) hK ht39
        replace hr6 := Tr.trans (Dw := Dw) hr6 ht39
        replace hB := Nat.le_trans hB ht39.ex.size
        replace hA := ht39.new
        refine V_to (fun _ _ => rfl) ?_
        refine C_seq ?_
        refine C_seq ?_
        refine C_region ?_
        have h40 := El_staff_Form_0 h37
        refine V_y (Y_fieldAddr Try.underlying53 rfl Try.sizeOf3 (by decide) rfl) rfl rfl rfl ?_
        refine V_y (Y_load (El.int h40) Try.isAgg3 rfl) rfl rfl rfl ?_
        refine V_y (Y_lss rfl rfl) rfl rfl rfl ?_
        refine V_y (Y_move rfl) rfl rfl rfl ?_
        refine V_cut 4 (fun _ : Unit => [(0, v_l), (3, .int .i64 (k7 : Int)), (4, .pointer (some ⟨b32, 0, none⟩)), (8, v_l), (9, .int .i64 (l.length : Int)), (10, .int .i64 (k7 : Int)), (22, .bool ((decide (x27.from_ < 0)) || (decide ((400 : Int) ≤ x27.from_))))]) (fun _ w' => w35 = w') ?_ ?_
        · simp only [List.take, List.drop]
          rcases Bool.eq_false_or_eq_true (decide (x27.from_ < 0)) with hc41 | hc41
          · refine V_gn rfl rfl rfl hc41 rfl rfl rfl ?_
            refine V_gn rfl rfl rfl hc41 rfl rfl rfl ?_
            refine V_gn rfl rfl rfl hc41 rfl rfl rfl ?_
            refine V_y (Y_pick_te rfl hc41 rfl) rfl rfl rfl ?_
            exact V_end fun a ha => ⟨(), ha.sub ⟨rfl, rfl, rfl, rfl, rfl, rfl, (by rw [hc41]; rfl), trivial⟩, rfl⟩
          · refine V_ge rfl rfl rfl hc41 ?_
            have h43 := El_staff_Form_0 h37
            refine V_y (Y_fieldAddr Try.underlying53 rfl Try.sizeOf3 (by decide) rfl) rfl rfl rfl ?_
            refine V_ge rfl rfl rfl hc41 ?_
            refine V_y (Y_load (El.int h43) Try.isAgg3 rfl) rfl rfl rfl ?_
            refine V_ge rfl rfl rfl hc41 ?_
            refine V_y (Y_geq rfl rfl) rfl rfl rfl ?_
            refine V_y (Y_pick_fe rfl hc41 rfl) rfl rfl rfl ?_
            exact V_end fun a ha => ⟨(), ha.sub ⟨rfl, rfl, rfl, rfl, rfl, rfl, (by rw [hc41]; rfl), trivial⟩, rfl⟩
        simp only [List.take, List.drop]
        rintro _ _ rfl
        refine V_y (Y_move rfl) rfl rfl rfl ?_
        refine V_cut 4 (fun _ : Unit => [(0, v_l), (3, .int .i64 (k7 : Int)), (4, .pointer (some ⟨b32, 0, none⟩)), (8, v_l), (9, .int .i64 (l.length : Int)), (10, .int .i64 (k7 : Int)), (27, .bool (((decide (x27.from_ < 0)) || (decide ((400 : Int) ≤ x27.from_))) || (decide (x27.slots < 1))))]) (fun _ w' => w35 = w') ?_ ?_
        · simp only [List.take, List.drop]
          rcases Bool.eq_false_or_eq_true (((decide (x27.from_ < 0)) || (decide ((400 : Int) ≤ x27.from_)))) with hc44 | hc44
          · refine V_gn rfl rfl rfl hc44 rfl rfl rfl ?_
            refine V_gn rfl rfl rfl hc44 rfl rfl rfl ?_
            refine V_gn rfl rfl rfl hc44 rfl rfl rfl ?_
            refine V_y (Y_pick_te rfl hc44 rfl) rfl rfl rfl ?_
            exact V_end fun a ha => ⟨(), ha.sub ⟨rfl, rfl, rfl, rfl, rfl, rfl, (by rw [hc44]; rfl), trivial⟩, rfl⟩
          · refine V_ge rfl rfl rfl hc44 ?_
            have h46 := El_staff_Form_1 h37
            refine V_y (Y_fieldAddr Try.underlying53 rfl Try.sizeOf3 (by decide) rfl) rfl rfl rfl ?_
            refine V_ge rfl rfl rfl hc44 ?_
            refine V_y (Y_load (El.int h46) Try.isAgg3 rfl) rfl rfl rfl ?_
            refine V_ge rfl rfl rfl hc44 ?_
            refine V_y (Y_lss rfl rfl) rfl rfl rfl ?_
            refine V_y (Y_pick_fe rfl hc44 rfl) rfl rfl rfl ?_
            exact V_end fun a ha => ⟨(), ha.sub ⟨rfl, rfl, rfl, rfl, rfl, rfl, (by rw [hc44]; rfl), trivial⟩, rfl⟩
        simp only [List.take, List.drop]
        rintro _ _ rfl
        refine V_y (Y_move rfl) rfl rfl rfl ?_
        refine V_cut 7 (fun _ : Unit => [(0, v_l), (3, .int .i64 (k7 : Int)), (4, .pointer (some ⟨b32, 0, none⟩)), (8, v_l), (9, .int .i64 (l.length : Int)), (10, .int .i64 (k7 : Int)), (35, .bool ((((decide (x27.from_ < 0)) || (decide ((400 : Int) ≤ x27.from_))) || (decide (x27.slots < 1))) || (decide ((w64 (400 - x27.from_)) < x27.slots))))]) (fun _ w' => w35 = w') ?_ ?_
        · simp only [List.take, List.drop]
          rcases Bool.eq_false_or_eq_true ((((decide (x27.from_ < 0)) || (decide ((400 : Int) ≤ x27.from_))) || (decide (x27.slots < 1)))) with hc47 | hc47
          · refine V_gn rfl rfl rfl hc47 rfl rfl rfl ?_
            refine V_gn rfl rfl rfl hc47 rfl rfl rfl ?_
            refine V_gn rfl rfl rfl hc47 rfl rfl rfl ?_
            refine V_gn rfl rfl rfl hc47 rfl rfl rfl ?_
            refine V_gn rfl rfl rfl hc47 rfl rfl rfl ?_
            refine V_gn rfl rfl rfl hc47 rfl rfl rfl ?_
            refine V_y (Y_pick_te rfl hc47 rfl) rfl rfl rfl ?_
            exact V_end fun a ha => ⟨(), ha.sub ⟨rfl, rfl, rfl, rfl, rfl, rfl, (by rw [hc47]; rfl), trivial⟩, rfl⟩
          · refine V_ge rfl rfl rfl hc47 ?_
            have h49 := El_staff_Form_1 h37
            refine V_y (Y_fieldAddr Try.underlying53 rfl Try.sizeOf3 (by decide) rfl) rfl rfl rfl ?_
            refine V_ge rfl rfl rfl hc47 ?_
            refine V_y (Y_load (El.int h49) Try.isAgg3 rfl) rfl rfl rfl ?_
            refine V_ge rfl rfl rfl hc47 ?_
            have h50 := El_staff_Form_0 h37
            refine V_y (Y_fieldAddr Try.underlying53 rfl Try.sizeOf3 (by decide) rfl) rfl rfl rfl ?_
            refine V_ge rfl rfl rfl hc47 ?_
            refine V_y (Y_load (El.int h50) Try.isAgg3 rfl) rfl rfl rfl ?_
            refine V_ge rfl rfl rfl hc47 ?_
            refine V_y (Y_subI rfl rfl) rfl rfl rfl ?_
            refine V_ge rfl rfl rfl hc47 ?_
            refine V_y (Y_gtr rfl rfl) rfl rfl rfl ?_
            refine V_y (Y_pick_fe rfl hc47 rfl) rfl rfl rfl ?_
            exact V_end fun a ha => ⟨(), ha.sub ⟨rfl, rfl, rfl, rfl, rfl, rfl, (by rw [hc47]; rfl), trivial⟩, rfl⟩
        simp only [List.take, List.drop]
        rintro _ _ rfl
        refine V_to (fun _ _ => rfl) ?_
        refine C_cond rfl (fun hc51 => ?_) (fun hc51 => ?_)
        · rw [if_pos hc51] at h19
          refine C_seq ?_
          refine C_region ?_
          refine V_y (Y_assign rfl) rfl rfl rfl ?_
          refine V_to (fun _ _ => rfl) ?_
          obtain rfl := Option.some.inj h19
          obtain rfl := (h20 : Lp.rt _ = _)
          rw [Lp.andThen_rt] at hm
          obtain rfl := Option.some.inj hm
          refine C_ret ?_
          try simp only [↓inBlock_ret, ↓then_ret]
          exact retQ rfl (Res.one Try.results22 rfl) ⟨rfl, hK.kp⟩
        · rw [if_neg (nt hc51)] at h19
          refine C_skip_to (fun _ _ => rfl) ?_
          refine C_seq ?_
          obtain ⟨s53, ho52, h19⟩ := Option.bind_eq_some_iff.1 h19
          refine C_cutG (ι := (Nat → Prop)) (fun (A58 : (Nat → Prop)) => [(0, v_l), (8, v_l), (9, .int .i64 (l.length : Int)), (10, .int .i64 (k7 : Int)), (60, .bool s53)]) (fun (A58 : (Nat → Prop)) => fun w' => Hp w.heap.size A58 w' ([]) ∧ Tr Dw w.heap.size A16 w35 A58 w') ?_ ?_
          · have hr54 : Tr Dw w.heap.size A16 w35 A16 w35 := Tr.refl (Dw := Dw) hA
            refine C_region_qt (Dw := Dw) 21 Try_mixed (by kernel_rfl) ?_
            simp only [List.take, List.drop]
            refine VQ_y (fun w' hw' => Y_move rfl) rfl rfl rfl ?_
            refine VQ_y (fun w' hw' => Y_gtr rfl rfl) rfl rfl rfl ?_
            refine VQ_y (fun w' hw' => Y_move rfl) rfl rfl rfl ?_
            rcases Bool.eq_false_or_eq_true (decide ((0 : Int) < (k7 : Int))) with hc60 | hc60
            · rw [if_pos hc60] at ho52
              refine VQ_ge rfl rfl rfl hc60 ?_
              refine VQ_y (fun w' hw' => Y_move rfl) rfl rfl rfl ?_
              refine VQ_ge rfl rfl rfl hc60 ?_
              refine VQ_y (fun w' hw' => Y_move rfl) rfl rfl rfl ?_
              refine VQ_ge rfl rfl rfl hc60 ?_
              refine VQ_y (fun w' hw' => Y_subI rfl rfl) rfl rfl rfl ?_
              refine VQ_ge rfl rfl rfl hc60 ?_
              obtain ⟨x61, hx61, ho52⟩ := Option.bind_eq_some_iff.1 ho52
              refine VQ_indexAddr h_l hx61 Try.underlying22 Try.sizeOf53 rfl rfl rfl ?_
              intro b62 o63 h64
              refine VQ_ge rfl rfl rfl hc60 ?_
              have h65 := El_staff_Form_0 h64
              refine VQ_y (fun w' hw' => Y_fieldAddr Try.underlying53 rfl Try.sizeOf3 (by decide) rfl) rfl rfl rfl ?_
              refine VQ_ge rfl rfl rfl hc60 ?_
              refine VQ_y (fun w' hw' => Y_load (El.int (El.kp (Dw := Dw) h65 hw')) Try.isAgg3 rfl) rfl rfl rfl ?_
              refine VQ_ge rfl rfl rfl hc60 ?_
              have h66 := El_staff_Form_0 h37
              refine VQ_y (fun w' hw' => Y_fieldAddr Try.underlying53 rfl Try.sizeOf3 (by decide) rfl) rfl rfl rfl ?_
              refine VQ_ge rfl rfl rfl hc60 ?_
              refine VQ_y (fun w' hw' => Y_load (El.int (El.kp (Dw := Dw) h66 hw')) Try.isAgg3 rfl) rfl rfl rfl ?_
              refine VQ_ge rfl rfl rfl hc60 ?_
              refine VQ_call (.int .i64 (cmp_Compare_int x61.from_ x27.from_)) Try.call21 rfl rfl rfl rfl (fun w' hw' => (cmp_Compare_int_c w' x61.from_ x27.from_).mono (fun _ _ h => ⟨h.1, h.2 ▸ hw'⟩)) ?_
              refine VQ_ge rfl rfl rfl hc60 ?_
              refine VQ_y (fun w' hw' => Y_move rfl) rfl rfl rfl ?_
              refine VQ_ge rfl rfl rfl hc60 ?_
              refine VQ_y (fun w' hw' => Y_move rfl) rfl rfl rfl ?_
              refine VQ_ge rfl rfl rfl hc60 ?_
              refine VQ_y (fun w' hw' => Y_subI rfl rfl) rfl rfl rfl ?_
              refine VQ_ge rfl rfl rfl hc60 ?_
              refine VQ_indexAddr h_l hx61 Try.underlying22 Try.sizeOf53 rfl rfl rfl ?_
              intro b67 o68 h69
              refine VQ_ge rfl rfl rfl hc60 ?_
              have h70 := El_staff_Form_1 h69
              refine VQ_y (fun w' hw' => Y_fieldAddr Try.underlying53 rfl Try.sizeOf3 (by decide) rfl) rfl rfl rfl ?_
              refine VQ_ge rfl rfl rfl hc60 ?_
              refine VQ_y (fun w' hw' => Y_load (El.int (El.kp (Dw := Dw) h70 hw')) Try.isAgg3 rfl) rfl rfl rfl ?_
              refine VQ_ge rfl rfl rfl hc60 ?_
              have h71 := El_staff_Form_1 h37
              refine VQ_y (fun w' hw' => Y_fieldAddr Try.underlying53 rfl Try.sizeOf3 (by decide) rfl) rfl rfl rfl ?_
              refine VQ_ge rfl rfl rfl hc60 ?_
              refine VQ_y (fun w' hw' => Y_load (El.int (El.kp (Dw := Dw) h71 hw')) Try.isAgg3 rfl) rfl rfl rfl ?_
              refine VQ_ge rfl rfl rfl hc60 ?_
              refine VQ_call (.int .i64 (cmp_Compare_int x61.slots x27.slots)) Try.call21 rfl rfl rfl rfl (fun w' hw' => (cmp_Compare_int_c w' x61.slots x27.slots).mono (fun _ _ h => ⟨h.1, h.2 ▸ hw'⟩)) ?_
              refine VQ_tail (fun w72 hk73 => ?_)
              try simp only [List.take, List.drop]
              have ht74 := Kp.tr (Dw := Dw) hk73 hA hB
              replace hH := Hp.kp (Dw := Dw) hH hk73
              replace h_l := Sl.tr (Dw := Dw) h_l ht74
              replace h37 := El.tr (Dw := Dw) h37 ht74
              replace h64 := El.tr (Dw := Dw) h64 ht74
              replace h65 := El.tr (Dw := Dw) h65 ht74
              replace h66 := El.tr (Dw := Dw) h66 ht74
              replace h69 := El.tr (Dw := Dw) h69 ht74
              replace h70 := El.tr (Dw := Dw) h70 ht74
              replace h71 := El.tr (Dw := Dw) h71 ht74
              replace hK := Tr.trans (Dw := Dw) hK ht74
              replace hr6 := Tr.trans (Dw := Dw) hr6 ht74
              replace hr54 := Tr.trans (Dw := Dw) hr54 ht74
              replace hB := Nat.le_trans hB ht74.ex.size
              replace hA := ht74.new
              refine V_ge rfl rfl rfl hc60 ?_
              refine V_buildSlice (Dw := Dw) (cells := #[.int .i64 (cmp_Compare_int x61.from_ x27.from_), .int .i64 (cmp_Compare_int x61.slots x27.slots)]) (l := ([(cmp_Compare_int x61.from_ x27.from_), (cmp_Compare_int x61.slots x27.slots)] : List Int)) (len := 2) Try.underlying45 Try.sizeOf3 Try.zeroValue3 rfl (by generalize ((cmp_Compare_int x61.from_ x27.from_) : Int) = z79; generalize ((cmp_Compare_int x61.slots x27.slots) : Int) = z80; kernel_rfl) (show (2 * 1 : Nat) ≠ 0 by decide) (show (2 * 1 : Nat) ≤ 2 ^ 24 by decide) hA ⟨[.int .i64 (cmp_Compare_int x61.from_ x27.from_)], _, rfl, rfl, ⟨[.int .i64 (cmp_Compare_int x61.slots x27.slots)], _, rfl, rfl, rfl⟩⟩ rfl rfl ?_
              intro v75 w76 hk78 h77
              have ht81 := Kp.tr (Dw := Dw) hk78 hA hB
              replace hH := Hp.kp (Dw := Dw) hH hk78
              replace h_l := Sl.tr (Dw := Dw) h_l ht81
              replace h37 := El.tr (Dw := Dw) h37 ht81
              replace h64 := El.tr (Dw := Dw) h64 ht81
              replace h65 := El.tr (Dw := Dw) h65 ht81
              replace h66 := El.tr (Dw := Dw) h66 ht81
              replace h69 := El.tr (Dw := Dw) h69 ht81
              replace h70 := El.tr (Dw := Dw) h70 ht81
              replace h71 := El.tr (Dw := Dw) h71 ht81
              replace hK := Tr.trans (Dw := Dw) hK ht81
              replace hr6 := Tr.trans (Dw := Dw) hr6 ht81
              replace hr54 := Tr.trans (Dw := Dw) hr54 ht81
              replace hB := Nat.le_trans hB ht81.ex.size
              replace hA := ht81.new
              refine V_ge rfl rfl rfl hc60 ?_
              obtain ⟨x82, hx82, ho52⟩ := Option.bind_eq_some_iff.1 ho52
              refine V_call Try.call20 rfl rfl rfl rfl (cmp_Or_int_c w76 ([(cmp_Compare_int x61.from_ x27.from_), (cmp_Compare_int x61.slots x27.slots)] : List Int) v75 h77 hx82) ?_
              rintro _ _ ⟨rfl, rfl⟩
              refine V_ge rfl rfl rfl hc60 ?_
              refine V_y (Y_geq rfl rfl) rfl rfl rfl ?_
              refine V_y (Y_pick_te rfl hc60 rfl) rfl rfl rfl ?_
              obtain rfl := Option.some.inj ho52
              refine V_end (fun a ha83 => ?_)
              exact ⟨A16, ha83.sub ⟨rfl, rfl, rfl, rfl, rfl, trivial⟩, ⟨hH, hr54⟩⟩
            · rw [if_neg (nt hc60)] at ho52
              refine VQ_gn rfl rfl rfl hc60 rfl rfl rfl ?_
              refine VQ_gn rfl rfl rfl hc60 rfl rfl rfl ?_
              refine VQ_gn rfl rfl rfl hc60 rfl rfl rfl ?_
              refine VQ_gn rfl rfl rfl hc60 rfl rfl rfl ?_
              refine VQ_gn rfl rfl rfl hc60 rfl rfl rfl ?_
              refine VQ_gn rfl rfl rfl hc60 rfl rfl rfl ?_
              refine VQ_gn rfl rfl rfl hc60 rfl rfl rfl ?_
              refine VQ_gn rfl rfl rfl hc60 rfl rfl rfl ?_
              refine VQ_gn rfl rfl rfl hc60 rfl rfl rfl ?_
              refine VQ_gn rfl rfl rfl hc60 rfl rfl rfl ?_
              refine VQ_gn rfl rfl rfl hc60 rfl rfl rfl ?_
              refine VQ_gn rfl rfl rfl hc60 rfl rfl rfl ?_
              refine VQ_gn rfl rfl rfl hc60 rfl rfl rfl ?_
              refine VQ_gn rfl rfl rfl hc60 rfl rfl rfl ?_
              refine VQ_gn rfl rfl rfl hc60 rfl rfl rfl ?_
              refine VQ_gn rfl rfl rfl hc60 rfl rfl rfl ?_
              refine VQ_gn rfl rfl rfl hc60 rfl rfl rfl ?_
              refine VQ_gn rfl rfl rfl hc60 rfl rfl rfl ?_
              refine VQ_tail (fun w84 hk85 => ?_)
              try simp only [List.take, List.drop]
              have ht86 := Kp.tr (Dw := Dw) hk85 hA hB
              replace hH := Hp.kp (Dw := Dw) hH hk85
              replace h_l := Sl.tr (Dw := Dw) h_l ht86
              replace h37 := El.tr (Dw := Dw) h37 ht86
              replace hK := Tr.trans (Dw := Dw) hK ht86
              replace hr6 := Tr.trans (Dw := Dw) hr6 ht86
              replace hr54 := Tr.trans (Dw := Dw) hr54 ht86
              replace hB := Nat.le_trans hB ht86.ex.size
              replace hA := ht86.new
              refine V_gn rfl rfl rfl hc60 rfl rfl rfl ?_
              refine V_gn rfl rfl rfl hc60 rfl rfl rfl ?_
              refine V_gn rfl rfl rfl hc60 rfl rfl rfl ?_
              refine V_y (Y_pick_fe rfl hc60 rfl) rfl rfl rfl ?_
              obtain rfl := Option.some.inj ho52
              refine V_end (fun a ha87 => ?_)
              exact ⟨A16, ha87.sub ⟨rfl, rfl, rfl, rfl, rfl, trivial⟩, ⟨hH, hr54⟩⟩
          rintro A58 w55 ⟨hH59, hk56⟩ a ha57
          replace h_l := Sl.tr (Dw := Dw) h_l hk56
          replace hK := Tr.trans (Dw := Dw) hK hk56
          replace hr6 := Tr.trans (Dw := Dw) hr6 hk56
          replace hB := Nat.le_trans hB hk56.ex.size
          replace hA := hk56.new
          replace hH : Hp w.heap.size A58 w55 ([]) := hH59
          refine C_at (n := ⟨62, [], none⟩) (fun _ _ => rfl) ?_ ha57
          refine C_cond rfl (fun hc88 => ?_) (fun hc88 => ?_)
          · rw [if_pos hc88] at h19
            refine C_seq ?_
            refine C_region ?_
            refine V_y (Y_assign rfl) rfl rfl rfl ?_
            refine V_to (fun _ _ => rfl) ?_
            obtain rfl := Option.some.inj h19
            obtain rfl := (h20 : Lp.rt _ = _)
            rw [Lp.andThen_rt] at hm
            obtain rfl := Option.some.inj hm
            refine C_ret ?_
            try simp only [↓inBlock_ret, ↓then_ret]
            exact retQ rfl (Res.one Try.results22 rfl) ⟨rfl, hK.kp⟩
          · rw [if_neg (nt hc88)] at h19
            refine C_skip_to (fun _ _ => rfl) ?_
            refine C_region ?_
            refine V_y (Y_addI rfl rfl) rfl rfl rfl ?_
            refine V_y (Y_move rfl) rfl rfl rfl ?_
            obtain rfl := Option.some.inj h19
            refine V_end (fun a ha89 => ?_)
            exact ⟨(), hlt22, h20, ⟨A58, ha89.sub ⟨rfl, rfl, rfl, (congrArg (fun z => some (Value.int .i64 z)) (w64_succ hlt22 hn25)), trivial⟩, ⟨hH, hr6⟩⟩⟩
      · refine C_exit (fun a ha90 => ?_)
        exact ⟨((), A16), ha90.sub trivial, ⟨(h23 (eq_of_dec hle21 hc26)).symm, hH, hr6⟩⟩
    rintro ⟨s5, A12⟩ w9 ⟨rfl, hH13, hk10⟩ a ha11
    rw [Lp.andThen_fin] at hm
    replace hK := Tr.trans (Dw := Dw) hK hk10
    replace hB := Nat.le_trans hB hk10.ex.size
    replace hA := hk10.new
    replace hH : Hp w.heap.size A12 w9 ([]) := hH13
    refine C_at (n := ⟨62, [], none⟩) (fun _ _ => rfl) ?_ ha11
    refine C_seq ?_
    refine C_region ?_
    refine V_y (Y_assign rfl) rfl rfl rfl ?_
    refine V_to (fun _ _ => rfl) ?_
    obtain rfl := Option.some.inj hm
    refine C_ret ?_
    try simp only [↓inBlock_ret, ↓then_ret]
    exact retQ rfl (Res.one Try.results22 rfl) ⟨rfl, hK.kp⟩

set_option maxRecDepth 4000 in
set_option maxHeartbeats 4000000 in
theorem portref2_RulesFault_c (w : World) {A : Nat → Prop} (hA : ∀ b, w.heap.size ≤ b → A b) (r_ : staff_Rules) {r : Int} (hm : portref2_RulesFault r_ = some r) : Ret Try.prog 23 #[.agg #[.int .i64 r_.people, .int .i64 r_.rest_, .int .i64 r_.most]] w fun v w' => v = .int .i64 r ∧ Kp Dw w w' := by
  unfold portref2_RulesFault at hm
  refine enter Try.func23 rfl Try.ntmps23 rfl ?_
  have hA0 := hA
  have hB := Nat.le_refl w.heap.size
  have hK : Tr Dw w.heap.size A w A w := Tr.refl (Dw := Dw) hA
  have hH : Hp w.heap.size A w [] := Hp.nil
  refine C_seq ?_
  refine C_region ?_
  refine V_box rfl rfl ?_
  intro b1 w2 h3
  have hk5 := h3.kp (Dw := Dw)
  have h4 : El (α := staff_Rules) A w2 b1 0 r_ := h3.el hA ⟨[.int .i64 r_.people], _, rfl, rfl, ⟨[.int .i64 r_.rest_], _, rfl, rfl, rfl⟩⟩
  have ht6 := Kp.tr (Dw := Dw) hk5 hA hB
  replace hH := Hp.kp (Dw := Dw) hH hk5
  replace hK := Tr.trans (Dw := Dw) hK ht6
  replace hB := Nat.le_trans hB ht6.ex.size
  replace hA := ht6.new
  refine V_y (Y_assign rfl) rfl rfl rfl ?_
  refine V_to (fun _ _ => rfl) ?_
  refine C_seq ?_
  refine C_seq ?_
  refine C_region ?_
  have h7 := El_staff_Rules_0 h4
  refine V_y (Y_fieldAddr Try.underlying24 rfl Try.sizeOf3 (by decide) rfl) rfl rfl rfl ?_
  refine V_y (Y_load (El.int h7) Try.isAgg3 rfl) rfl rfl rfl ?_
  refine V_y (Y_lss rfl rfl) rfl rfl rfl ?_
  refine V_y (Y_move rfl) rfl rfl rfl ?_
  refine V_cut 4 (fun _ : Unit => [(1, .pointer (some ⟨b1, 0, none⟩)), (10, .bool ((decide (r_.people < 0)) || (decide ((60 : Int) < r_.people))))]) (fun _ w' => w2 = w') ?_ ?_
  · simp only [List.take, List.drop]
    rcases Bool.eq_false_or_eq_true (decide (r_.people < 0)) with hc8 | hc8
    · refine V_gn rfl rfl rfl hc8 rfl rfl rfl ?_
      refine V_gn rfl rfl rfl hc8 rfl rfl rfl ?_
      refine V_gn rfl rfl rfl hc8 rfl rfl rfl ?_
      refine V_y (Y_pick_te rfl hc8 rfl) rfl rfl rfl ?_
      exact V_end fun a ha => ⟨(), ha.sub ⟨rfl, (by rw [hc8]; rfl), trivial⟩, rfl⟩
    · refine V_ge rfl rfl rfl hc8 ?_
      have h10 := El_staff_Rules_0 h4
      refine V_y (Y_fieldAddr Try.underlying24 rfl Try.sizeOf3 (by decide) rfl) rfl rfl rfl ?_
      refine V_ge rfl rfl rfl hc8 ?_
      refine V_y (Y_load (El.int h10) Try.isAgg3 rfl) rfl rfl rfl ?_
      refine V_ge rfl rfl rfl hc8 ?_
      refine V_y (Y_gtr rfl rfl) rfl rfl rfl ?_
      refine V_y (Y_pick_fe rfl hc8 rfl) rfl rfl rfl ?_
      exact V_end fun a ha => ⟨(), ha.sub ⟨rfl, (by rw [hc8]; rfl), trivial⟩, rfl⟩
  simp only [List.take, List.drop]
  rintro _ _ rfl
  refine V_y (Y_move rfl) rfl rfl rfl ?_
  refine V_cut 4 (fun _ : Unit => [(1, .pointer (some ⟨b1, 0, none⟩)), (15, .bool (((decide (r_.people < 0)) || (decide ((60 : Int) < r_.people))) || (decide (r_.rest_ < 0))))]) (fun _ w' => w2 = w') ?_ ?_
  · simp only [List.take, List.drop]
    rcases Bool.eq_false_or_eq_true (((decide (r_.people < 0)) || (decide ((60 : Int) < r_.people)))) with hc11 | hc11
    · refine V_gn rfl rfl rfl hc11 rfl rfl rfl ?_
      refine V_gn rfl rfl rfl hc11 rfl rfl rfl ?_
      refine V_gn rfl rfl rfl hc11 rfl rfl rfl ?_
      refine V_y (Y_pick_te rfl hc11 rfl) rfl rfl rfl ?_
      exact V_end fun a ha => ⟨(), ha.sub ⟨rfl, (by rw [hc11]; rfl), trivial⟩, rfl⟩
    · refine V_ge rfl rfl rfl hc11 ?_
      have h13 := El_staff_Rules_1 h4
      refine V_y (Y_fieldAddr Try.underlying24 rfl Try.sizeOf3 (by decide) rfl) rfl rfl rfl ?_
      refine V_ge rfl rfl rfl hc11 ?_
      refine V_y (Y_load (El.int h13) Try.isAgg3 rfl) rfl rfl rfl ?_
      refine V_ge rfl rfl rfl hc11 ?_
      refine V_y (Y_lss rfl rfl) rfl rfl rfl ?_
      refine V_y (Y_pick_fe rfl hc11 rfl) rfl rfl rfl ?_
      exact V_end fun a ha => ⟨(), ha.sub ⟨rfl, (by rw [hc11]; rfl), trivial⟩, rfl⟩
  simp only [List.take, List.drop]
  rintro _ _ rfl
  refine V_y (Y_move rfl) rfl rfl rfl ?_
  refine V_cut 4 (fun _ : Unit => [(1, .pointer (some ⟨b1, 0, none⟩)), (20, .bool ((((decide (r_.people < 0)) || (decide ((60 : Int) < r_.people))) || (decide (r_.rest_ < 0))) || (decide ((400 : Int) < r_.rest_))))]) (fun _ w' => w2 = w') ?_ ?_
  · simp only [List.take, List.drop]
    rcases Bool.eq_false_or_eq_true ((((decide (r_.people < 0)) || (decide ((60 : Int) < r_.people))) || (decide (r_.rest_ < 0)))) with hc14 | hc14
    · refine V_gn rfl rfl rfl hc14 rfl rfl rfl ?_
      refine V_gn rfl rfl rfl hc14 rfl rfl rfl ?_
      refine V_gn rfl rfl rfl hc14 rfl rfl rfl ?_
      refine V_y (Y_pick_te rfl hc14 rfl) rfl rfl rfl ?_
      exact V_end fun a ha => ⟨(), ha.sub ⟨rfl, (by rw [hc14]; rfl), trivial⟩, rfl⟩
    · refine V_ge rfl rfl rfl hc14 ?_
      have h16 := El_staff_Rules_1 h4
      refine V_y (Y_fieldAddr Try.underlying24 rfl Try.sizeOf3 (by decide) rfl) rfl rfl rfl ?_
      refine V_ge rfl rfl rfl hc14 ?_
      refine V_y (Y_load (El.int h16) Try.isAgg3 rfl) rfl rfl rfl ?_
      refine V_ge rfl rfl rfl hc14 ?_
      refine V_y (Y_gtr rfl rfl) rfl rfl rfl ?_
      refine V_y (Y_pick_fe rfl hc14 rfl) rfl rfl rfl ?_
      exact V_end fun a ha => ⟨(), ha.sub ⟨rfl, (by rw [hc14]; rfl), trivial⟩, rfl⟩
  simp only [List.take, List.drop]
  rintro _ _ rfl
  refine V_y (Y_move rfl) rfl rfl rfl ?_
  refine V_cut 4 (fun _ : Unit => [(1, .pointer (some ⟨b1, 0, none⟩)), (25, .bool (((((decide (r_.people < 0)) || (decide ((60 : Int) < r_.people))) || (decide (r_.rest_ < 0))) || (decide ((400 : Int) < r_.rest_))) || (decide (r_.most < 0))))]) (fun _ w' => w2 = w') ?_ ?_
  · simp only [List.take, List.drop]
    rcases Bool.eq_false_or_eq_true (((((decide (r_.people < 0)) || (decide ((60 : Int) < r_.people))) || (decide (r_.rest_ < 0))) || (decide ((400 : Int) < r_.rest_)))) with hc17 | hc17
    · refine V_gn rfl rfl rfl hc17 rfl rfl rfl ?_
      refine V_gn rfl rfl rfl hc17 rfl rfl rfl ?_
      refine V_gn rfl rfl rfl hc17 rfl rfl rfl ?_
      refine V_y (Y_pick_te rfl hc17 rfl) rfl rfl rfl ?_
      exact V_end fun a ha => ⟨(), ha.sub ⟨rfl, (by rw [hc17]; rfl), trivial⟩, rfl⟩
    · refine V_ge rfl rfl rfl hc17 ?_
      have h19 := El_staff_Rules_2 h4
      refine V_y (Y_fieldAddr Try.underlying24 rfl Try.sizeOf3 (by decide) rfl) rfl rfl rfl ?_
      refine V_ge rfl rfl rfl hc17 ?_
      refine V_y (Y_load (El.int h19) Try.isAgg3 rfl) rfl rfl rfl ?_
      refine V_ge rfl rfl rfl hc17 ?_
      refine V_y (Y_lss rfl rfl) rfl rfl rfl ?_
      refine V_y (Y_pick_fe rfl hc17 rfl) rfl rfl rfl ?_
      exact V_end fun a ha => ⟨(), ha.sub ⟨rfl, (by rw [hc17]; rfl), trivial⟩, rfl⟩
  simp only [List.take, List.drop]
  rintro _ _ rfl
  refine V_y (Y_move rfl) rfl rfl rfl ?_
  refine V_cut 4 (fun _ : Unit => [(30, .bool ((((((decide (r_.people < 0)) || (decide ((60 : Int) < r_.people))) || (decide (r_.rest_ < 0))) || (decide ((400 : Int) < r_.rest_))) || (decide (r_.most < 0))) || (decide ((400 : Int) < r_.most))))]) (fun _ w' => w2 = w') ?_ ?_
  · simp only [List.take, List.drop]
    rcases Bool.eq_false_or_eq_true ((((((decide (r_.people < 0)) || (decide ((60 : Int) < r_.people))) || (decide (r_.rest_ < 0))) || (decide ((400 : Int) < r_.rest_))) || (decide (r_.most < 0)))) with hc20 | hc20
    · refine V_gn rfl rfl rfl hc20 rfl rfl rfl ?_
      refine V_gn rfl rfl rfl hc20 rfl rfl rfl ?_
      refine V_gn rfl rfl rfl hc20 rfl rfl rfl ?_
      refine V_y (Y_pick_te rfl hc20 rfl) rfl rfl rfl ?_
      exact V_end fun a ha => ⟨(), ha.sub ⟨(by rw [hc20]; rfl), trivial⟩, rfl⟩
    · refine V_ge rfl rfl rfl hc20 ?_
      have h22 := El_staff_Rules_2 h4
      refine V_y (Y_fieldAddr Try.underlying24 rfl Try.sizeOf3 (by decide) rfl) rfl rfl rfl ?_
      refine V_ge rfl rfl rfl hc20 ?_
      refine V_y (Y_load (El.int h22) Try.isAgg3 rfl) rfl rfl rfl ?_
      refine V_ge rfl rfl rfl hc20 ?_
      refine V_y (Y_gtr rfl rfl) rfl rfl rfl ?_
      refine V_y (Y_pick_fe rfl hc20 rfl) rfl rfl rfl ?_
      exact V_end fun a ha => ⟨(), ha.sub ⟨(by rw [hc20]; rfl), trivial⟩, rfl⟩
  simp only [List.take, List.drop]
  rintro _ _ rfl
  refine V_to (fun _ _ => rfl) ?_
  refine C_cond rfl (fun hc23 => ?_) (fun hc23 => ?_)
  · rw [if_pos hc23] at hm
    refine C_seq ?_
    refine C_region ?_
    refine V_y (Y_assign rfl) rfl rfl rfl ?_
    refine V_to (fun _ _ => rfl) ?_
    obtain rfl := Option.some.inj hm
    refine C_ret ?_
    try simp only [↓inBlock_ret, ↓then_ret]
    exact retQ rfl (Res.one Try.results23 rfl) ⟨rfl, hK.kp⟩
  · rw [if_neg (nt hc23)] at hm
    refine C_skip_to (fun _ _ => rfl) ?_
    refine C_seq ?_
    refine C_region ?_
    refine V_y (Y_assign rfl) rfl rfl rfl ?_
    refine V_to (fun _ _ => rfl) ?_
    obtain rfl := Option.some.inj hm
    refine C_ret ?_
    try simp only [↓inBlock_ret, ↓then_ret]
    exact retQ rfl (Res.one Try.results23 rfl) ⟨rfl, hK.kp⟩

set_option maxRecDepth 4000 in
set_option maxHeartbeats 4000000 in
theorem portref2_JudgeOf_1_c (w : World) {A : Nat → Prop} (hA : ∀ b, w.heap.size ≤ b → A b) (x : staff_Duty) (p1 : (List staff_Form)) (b_p1 : Nat) (h_p1 : El A w b_p1 0 p1) {r : Bool} (hm : portref2_JudgeOf_1 x p1 = some r) : Ret Try.prog 24 #[.agg #[.int .i64 x.form, .int .i64 x.person], .pointer (some ⟨b_p1, 0, none⟩)] w fun v w' => v = .bool r ∧ Kp Dw w w' := by
  unfold portref2_JudgeOf_1 at hm
  refine enter Try.func24 rfl Try.ntmps24 rfl ?_
  have hA0 := hA
  have hB := Nat.le_refl w.heap.size
  have hK : Tr Dw w.heap.size A w A w := Tr.refl (Dw := Dw) hA
  have hH : Hp w.heap.size A w [] := Hp.nil
  refine C_seq ?_
  refine C_region ?_
  refine V_box rfl rfl ?_
  intro b1 w2 h3
  have hk5 := h3.kp (Dw := Dw)
  have h4 : El (α := staff_Duty) A w2 b1 0 x := h3.el hA ⟨[.int .i64 x.form], _, rfl, rfl, rfl⟩
  have ht6 := Kp.tr (Dw := Dw) hk5 hA hB
  replace hH := Hp.kp (Dw := Dw) hH hk5
  replace h_p1 := El.tr (Dw := Dw) h_p1 ht6
  replace hK := Tr.trans (Dw := Dw) hK ht6
  replace hB := Nat.le_trans hB ht6.ex.size
  replace hA := ht6.new
  refine V_y (Y_assign rfl) rfl rfl rfl ?_
  refine V_to (fun _ _ => rfl) ?_
  refine C_seq ?_
  refine C_region ?_
  have h7 := El_staff_Duty_0 h4
  refine V_y (Y_fieldAddr Try.underlying49 rfl Try.sizeOf3 (by decide) rfl) rfl rfl rfl ?_
  refine V_y (Y_load (El.int h7) Try.isAgg3 rfl) rfl rfl rfl ?_
  refine V_y (Y_lss rfl rfl) rfl rfl rfl ?_
  refine V_y (Y_move rfl) rfl rfl rfl ?_
  refine V_cut 6 (fun _ : Unit => [(13, .bool ((decide (x.form < 0)) || (decide ((p1.length : Int) ≤ x.form))))]) (fun _ w' => w2 = w') ?_ ?_
  · simp only [List.take, List.drop]
    rcases Bool.eq_false_or_eq_true (decide (x.form < 0)) with hc8 | hc8
    · refine V_gn rfl rfl rfl hc8 rfl rfl rfl ?_
      refine V_gn rfl rfl rfl hc8 rfl rfl rfl ?_
      refine V_gn rfl rfl rfl hc8 rfl rfl rfl ?_
      refine V_gn rfl rfl rfl hc8 rfl rfl rfl ?_
      refine V_gn rfl rfl rfl hc8 rfl rfl rfl ?_
      refine V_y (Y_pick_te rfl hc8 rfl) rfl rfl rfl ?_
      exact V_end fun a ha => ⟨(), ha.sub ⟨(by rw [hc8]; rfl), trivial⟩, rfl⟩
    · refine V_ge rfl rfl rfl hc8 ?_
      have h10 := El_staff_Duty_0 h4
      refine V_y (Y_fieldAddr Try.underlying49 rfl Try.sizeOf3 (by decide) rfl) rfl rfl rfl ?_
      refine V_ge rfl rfl rfl hc8 ?_
      refine V_y (Y_load (El.int h10) Try.isAgg3 rfl) rfl rfl rfl ?_
      refine V_ge rfl rfl rfl hc8 ?_
      obtain ⟨v11, h12, h13⟩ := El.list h_p1
      refine V_y (Y_load h12 Try.isAgg22 rfl) rfl rfl rfl ?_
      refine V_ge rfl rfl rfl hc8 ?_
      refine V_y (Y_lenSl h13 rfl Try.underlying22 rfl) rfl rfl rfl ?_
      refine V_ge rfl rfl rfl hc8 ?_
      refine V_y (Y_geq rfl rfl) rfl rfl rfl ?_
      refine V_y (Y_pick_fe rfl hc8 rfl) rfl rfl rfl ?_
      exact V_end fun a ha => ⟨(), ha.sub ⟨(by rw [hc8]; rfl), trivial⟩, rfl⟩
  simp only [List.take, List.drop]
  rintro _ _ rfl
  refine V_y (Y_assign rfl) rfl rfl rfl ?_
  refine V_to (fun _ _ => rfl) ?_
  obtain rfl := Option.some.inj hm
  refine C_ret ?_
  try simp only [↓inBlock_ret, ↓then_ret]
  exact retQ rfl (Res.one Try.results24 rfl) ⟨rfl, hK.kp⟩

set_option maxRecDepth 4000 in
set_option maxHeartbeats 4000000 in
theorem portref2_JudgeOf_2_c (w : World) {A : Nat → Prop} (hA : ∀ b, w.heap.size ≤ b → A b) (x : staff_Duty) (p1 : staff_Rules) (b_p1 : Nat) (h_p1 : El A w b_p1 0 p1) {r : Bool} (hm : portref2_JudgeOf_2 x p1 = some r) : Ret Try.prog 25 #[.agg #[.int .i64 x.form, .int .i64 x.person], .pointer (some ⟨b_p1, 0, none⟩)] w fun v w' => v = .bool r ∧ Kp Dw w w' := by
  unfold portref2_JudgeOf_2 at hm
  refine enter Try.func25 rfl Try.ntmps25 rfl ?_
  have hA0 := hA
  have hB := Nat.le_refl w.heap.size
  have hK : Tr Dw w.heap.size A w A w := Tr.refl (Dw := Dw) hA
  have hH : Hp w.heap.size A w [] := Hp.nil
  refine C_seq ?_
  refine C_region ?_
  refine V_box rfl rfl ?_
  intro b1 w2 h3
  have hk5 := h3.kp (Dw := Dw)
  have h4 : El (α := staff_Duty) A w2 b1 0 x := h3.el hA ⟨[.int .i64 x.form], _, rfl, rfl, rfl⟩
  have ht6 := Kp.tr (Dw := Dw) hk5 hA hB
  replace hH := Hp.kp (Dw := Dw) hH hk5
  replace h_p1 := El.tr (Dw := Dw) h_p1 ht6
  replace hK := Tr.trans (Dw := Dw) hK ht6
  replace hB := Nat.le_trans hB ht6.ex.size
  replace hA := ht6.new
  refine V_y (Y_assign rfl) rfl rfl rfl ?_
  refine V_to (fun _ _ => rfl) ?_
  refine C_seq ?_
  refine C_region ?_
  have h7 := El_staff_Duty_1 h4
  refine V_y (Y_fieldAddr Try.underlying49 rfl Try.sizeOf3 (by decide) rfl) rfl rfl rfl ?_
  refine V_y (Y_load (El.int h7) Try.isAgg3 rfl) rfl rfl rfl ?_
  refine V_y (Y_lss rfl rfl) rfl rfl rfl ?_
  refine V_y (Y_move rfl) rfl rfl rfl ?_
  refine V_cut 6 (fun _ : Unit => [(13, .bool ((decide (x.person < 1)) || (decide (p1.people < x.person))))]) (fun _ w' => w2 = w') ?_ ?_
  · simp only [List.take, List.drop]
    rcases Bool.eq_false_or_eq_true (decide (x.person < 1)) with hc8 | hc8
    · refine V_gn rfl rfl rfl hc8 rfl rfl rfl ?_
      refine V_gn rfl rfl rfl hc8 rfl rfl rfl ?_
      refine V_gn rfl rfl rfl hc8 rfl rfl rfl ?_
      refine V_gn rfl rfl rfl hc8 rfl rfl rfl ?_
      refine V_gn rfl rfl rfl hc8 rfl rfl rfl ?_
      refine V_y (Y_pick_te rfl hc8 rfl) rfl rfl rfl ?_
      exact V_end fun a ha => ⟨(), ha.sub ⟨(by rw [hc8]; rfl), trivial⟩, rfl⟩
    · refine V_ge rfl rfl rfl hc8 ?_
      have h10 := El_staff_Duty_1 h4
      refine V_y (Y_fieldAddr Try.underlying49 rfl Try.sizeOf3 (by decide) rfl) rfl rfl rfl ?_
      refine V_ge rfl rfl rfl hc8 ?_
      refine V_y (Y_load (El.int h10) Try.isAgg3 rfl) rfl rfl rfl ?_
      refine V_ge rfl rfl rfl hc8 ?_
      have h11 := El_staff_Rules_0 h_p1
      refine V_y (Y_fieldAddr Try.underlying24 rfl Try.sizeOf3 (by decide) rfl) rfl rfl rfl ?_
      refine V_ge rfl rfl rfl hc8 ?_
      refine V_y (Y_load (El.int h11) Try.isAgg3 rfl) rfl rfl rfl ?_
      refine V_ge rfl rfl rfl hc8 ?_
      refine V_y (Y_gtr rfl rfl) rfl rfl rfl ?_
      refine V_y (Y_pick_fe rfl hc8 rfl) rfl rfl rfl ?_
      exact V_end fun a ha => ⟨(), ha.sub ⟨(by rw [hc8]; rfl), trivial⟩, rfl⟩
  simp only [List.take, List.drop]
  rintro _ _ rfl
  refine V_y (Y_assign rfl) rfl rfl rfl ?_
  refine V_to (fun _ _ => rfl) ?_
  obtain rfl := Option.some.inj hm
  refine C_ret ?_
  try simp only [↓inBlock_ret, ↓then_ret]
  exact retQ rfl (Res.one Try.results25 rfl) ⟨rfl, hK.kp⟩

set_option maxRecDepth 4000 in
set_option maxHeartbeats 4000000 in
theorem portref2_apart_c (w : World) {A : Nat → Prop} (hA : ∀ b, w.heap.size ≤ b → A b) (a_ : staff_Form) (b : staff_Form) (rest_ : Int) {r : Bool} (hm : portref2_apart a_ b rest_ = some r) : Ret Try.prog 26 #[.agg #[.int .i64 a_.from_, .int .i64 a_.slots], .agg #[.int .i64 b.from_, .int .i64 b.slots], .int .i64 rest_] w fun v w' => v = .bool r ∧ Kp Dw w w' := by
  unfold portref2_apart at hm
  refine enter Try.func26 rfl Try.ntmps26 rfl ?_
  have hA0 := hA
  have hB := Nat.le_refl w.heap.size
  have hK : Tr Dw w.heap.size A w A w := Tr.refl (Dw := Dw) hA
  have hH : Hp w.heap.size A w [] := Hp.nil
  refine C_seq ?_
  refine C_region ?_
  refine V_box rfl rfl ?_
  intro b1 w2 h3
  have hk5 := h3.kp (Dw := Dw)
  have h4 : El (α := staff_Form) A w2 b1 0 a_ := h3.el hA ⟨[.int .i64 a_.from_], _, rfl, rfl, rfl⟩
  have ht6 := Kp.tr (Dw := Dw) hk5 hA hB
  replace hH := Hp.kp (Dw := Dw) hH hk5
  replace hK := Tr.trans (Dw := Dw) hK ht6
  replace hB := Nat.le_trans hB ht6.ex.size
  replace hA := ht6.new
  refine V_box rfl rfl ?_
  intro b7 w9 h10
  have hk12 := h10.kp (Dw := Dw)
  have h11 : El (α := staff_Form) A w9 b7 0 b := h10.el hA ⟨[.int .i64 b.from_], _, rfl, rfl, rfl⟩
  have ht13 := Kp.tr (Dw := Dw) hk12 hA hB
  replace hH := Hp.kp (Dw := Dw) hH hk12
  replace h4 := El.tr (Dw := Dw) h4 ht13
  replace hK := Tr.trans (Dw := Dw) hK ht13
  replace hB := Nat.le_trans hB ht13.ex.size
  replace hA := ht13.new
  refine V_y (Y_assign rfl) rfl rfl rfl ?_
  refine V_to (fun _ _ => rfl) ?_
  refine C_seq ?_
  refine C_region ?_
  have h14 := El_staff_Form_0 h4
  refine V_y (Y_fieldAddr Try.underlying53 rfl Try.sizeOf3 (by decide) rfl) rfl rfl rfl ?_
  refine V_y (Y_load (El.int h14) Try.isAgg3 rfl) rfl rfl rfl ?_
  have h15 := El_staff_Form_1 h4
  refine V_y (Y_fieldAddr Try.underlying53 rfl Try.sizeOf3 (by decide) rfl) rfl rfl rfl ?_
  refine V_y (Y_load (El.int h15) Try.isAgg3 rfl) rfl rfl rfl ?_
  refine V_y (Y_addI rfl rfl) rfl rfl rfl ?_
  refine V_y (Y_move rfl) rfl rfl rfl ?_
  refine V_y (Y_addI rfl rfl) rfl rfl rfl ?_
  have h16 := El_staff_Form_0 h11
  refine V_y (Y_fieldAddr Try.underlying53 rfl Try.sizeOf3 (by decide) rfl) rfl rfl rfl ?_
  refine V_y (Y_load (El.int h16) Try.isAgg3 rfl) rfl rfl rfl ?_
  refine V_y (Y_leq rfl rfl) rfl rfl rfl ?_
  refine V_y (Y_move rfl) rfl rfl rfl ?_
  refine V_cut 11 (fun _ : Unit => [(28, .bool ((decide ((w64 ((w64 (a_.from_ + a_.slots)) + rest_)) ≤ b.from_)) || (decide ((w64 ((w64 (b.from_ + b.slots)) + rest_)) ≤ a_.from_))))]) (fun _ w' => w9 = w') ?_ ?_
  · simp only [List.take, List.drop]
    rcases Bool.eq_false_or_eq_true (decide ((w64 ((w64 (a_.from_ + a_.slots)) + rest_)) ≤ b.from_)) with hc17 | hc17
    · refine V_gn rfl rfl rfl hc17 rfl rfl rfl ?_
      refine V_gn rfl rfl rfl hc17 rfl rfl rfl ?_
      refine V_gn rfl rfl rfl hc17 rfl rfl rfl ?_
      refine V_gn rfl rfl rfl hc17 rfl rfl rfl ?_
      refine V_gn rfl rfl rfl hc17 rfl rfl rfl ?_
      refine V_gn rfl rfl rfl hc17 rfl rfl rfl ?_
      refine V_gn rfl rfl rfl hc17 rfl rfl rfl ?_
      refine V_gn rfl rfl rfl hc17 rfl rfl rfl ?_
      refine V_gn rfl rfl rfl hc17 rfl rfl rfl ?_
      refine V_gn rfl rfl rfl hc17 rfl rfl rfl ?_
      refine V_y (Y_pick_te rfl hc17 rfl) rfl rfl rfl ?_
      exact V_end fun a ha => ⟨(), ha.sub ⟨(by rw [hc17]; rfl), trivial⟩, rfl⟩
    · refine V_ge rfl rfl rfl hc17 ?_
      have h19 := El_staff_Form_0 h11
      refine V_y (Y_fieldAddr Try.underlying53 rfl Try.sizeOf3 (by decide) rfl) rfl rfl rfl ?_
      refine V_ge rfl rfl rfl hc17 ?_
      refine V_y (Y_load (El.int h19) Try.isAgg3 rfl) rfl rfl rfl ?_
      refine V_ge rfl rfl rfl hc17 ?_
      have h20 := El_staff_Form_1 h11
      refine V_y (Y_fieldAddr Try.underlying53 rfl Try.sizeOf3 (by decide) rfl) rfl rfl rfl ?_
      refine V_ge rfl rfl rfl hc17 ?_
      refine V_y (Y_load (El.int h20) Try.isAgg3 rfl) rfl rfl rfl ?_
      refine V_ge rfl rfl rfl hc17 ?_
      refine V_y (Y_addI rfl rfl) rfl rfl rfl ?_
      refine V_ge rfl rfl rfl hc17 ?_
      refine V_y (Y_move rfl) rfl rfl rfl ?_
      refine V_ge rfl rfl rfl hc17 ?_
      refine V_y (Y_addI rfl rfl) rfl rfl rfl ?_
      refine V_ge rfl rfl rfl hc17 ?_
      have h21 := El_staff_Form_0 h4
      refine V_y (Y_fieldAddr Try.underlying53 rfl Try.sizeOf3 (by decide) rfl) rfl rfl rfl ?_
      refine V_ge rfl rfl rfl hc17 ?_
      refine V_y (Y_load (El.int h21) Try.isAgg3 rfl) rfl rfl rfl ?_
      refine V_ge rfl rfl rfl hc17 ?_
      refine V_y (Y_leq rfl rfl) rfl rfl rfl ?_
      refine V_y (Y_pick_fe rfl hc17 rfl) rfl rfl rfl ?_
      exact V_end fun a ha => ⟨(), ha.sub ⟨(by rw [hc17]; rfl), trivial⟩, rfl⟩
  simp only [List.take, List.drop]
  rintro _ _ rfl
  refine V_y (Y_assign rfl) rfl rfl rfl ?_
  refine V_to (fun _ _ => rfl) ?_
  obtain rfl := Option.some.inj hm
  refine C_ret ?_
  try simp only [↓inBlock_ret, ↓then_ret]
  exact retQ rfl (Res.one Try.results26 rfl) ⟨rfl, hK.kp⟩

set_option maxRecDepth 4000 in
set_option maxHeartbeats 4000000 in
theorem portref2_JudgeOf_3_c (w : World) {A : Nat → Prop} (hA : ∀ b, w.heap.size ≤ b → A b) (a_ : staff_Breach) (b : staff_Breach) {r : Int} (hm : portref2_JudgeOf_3 a_ b = some r) : Ret Try.prog 27 #[.agg #[.int .i64 a_.kind, .int .i64 a_.first, .int .i64 a_.second], .agg #[.int .i64 b.kind, .int .i64 b.first, .int .i64 b.second]] w fun v w' => v = .int .i64 r ∧ Kp Dw w w' := by
  unfold portref2_JudgeOf_3 at hm
  refine enter Try.func27 rfl Try.ntmps27 rfl ?_
  have hA0 := hA
  have hB := Nat.le_refl w.heap.size
  have hK : Tr Dw w.heap.size A w A w := Tr.refl (Dw := Dw) hA
  have hH : Hp w.heap.size A w [] := Hp.nil
  refine C_seq ?_
  refine C_region ?_
  refine V_box rfl rfl ?_
  intro b1 w2 h3
  have hk5 := h3.kp (Dw := Dw)
  have h4 : El (α := staff_Breach) A w2 b1 0 a_ := h3.el hA ⟨[.int .i64 a_.kind], _, rfl, rfl, ⟨[.int .i64 a_.first], _, rfl, rfl, rfl⟩⟩
  have ht6 := Kp.tr (Dw := Dw) hk5 hA hB
  replace hH := Hp.kp (Dw := Dw) hH hk5
  replace hK := Tr.trans (Dw := Dw) hK ht6
  replace hB := Nat.le_trans hB ht6.ex.size
  replace hA := ht6.new
  refine V_box rfl rfl ?_
  intro b7 w9 h10
  have hk12 := h10.kp (Dw := Dw)
  have h11 : El (α := staff_Breach) A w9 b7 0 b := h10.el hA ⟨[.int .i64 b.kind], _, rfl, rfl, ⟨[.int .i64 b.first], _, rfl, rfl, rfl⟩⟩
  have ht13 := Kp.tr (Dw := Dw) hk12 hA hB
  replace hH := Hp.kp (Dw := Dw) hH hk12
  replace h4 := El.tr (Dw := Dw) h4 ht13
  replace hK := Tr.trans (Dw := Dw) hK ht13
  replace hB := Nat.le_trans hB ht13.ex.size
  replace hA := ht13.new
  refine V_y (Y_assign rfl) rfl rfl rfl ?_
  refine V_to (fun _ _ => rfl) ?_
  refine C_seq ?_
  refine C_region_qt (Dw := Dw) 15 Try_mixed (by kernel_rfl) ?_
  simp only [List.take, List.drop]
  have h14 := El_staff_Breach_1 h4
  refine VQ_y (fun w' hw' => Y_fieldAddr Try.underlying32 rfl Try.sizeOf3 (by decide) rfl) rfl rfl rfl ?_
  refine VQ_y (fun w' hw' => Y_load (El.int (El.kp (Dw := Dw) h14 hw')) Try.isAgg3 rfl) rfl rfl rfl ?_
  have h15 := El_staff_Breach_1 h11
  refine VQ_y (fun w' hw' => Y_fieldAddr Try.underlying32 rfl Try.sizeOf3 (by decide) rfl) rfl rfl rfl ?_
  refine VQ_y (fun w' hw' => Y_load (El.int (El.kp (Dw := Dw) h15 hw')) Try.isAgg3 rfl) rfl rfl rfl ?_
  refine VQ_call (.int .i64 (cmp_Compare_int a_.first b.first)) Try.call21 rfl rfl rfl rfl (fun w' hw' => (cmp_Compare_int_c w' a_.first b.first).mono (fun _ _ h => ⟨h.1, h.2 ▸ hw'⟩)) ?_
  have h16 := El_staff_Breach_0 h4
  refine VQ_y (fun w' hw' => Y_fieldAddr Try.underlying32 rfl Try.sizeOf3 (by decide) rfl) rfl rfl rfl ?_
  refine VQ_y (fun w' hw' => Y_load (El.int (El.kp (Dw := Dw) h16 hw')) Try.isAgg3 rfl) rfl rfl rfl ?_
  have h17 := El_staff_Breach_0 h11
  refine VQ_y (fun w' hw' => Y_fieldAddr Try.underlying32 rfl Try.sizeOf3 (by decide) rfl) rfl rfl rfl ?_
  refine VQ_y (fun w' hw' => Y_load (El.int (El.kp (Dw := Dw) h17 hw')) Try.isAgg3 rfl) rfl rfl rfl ?_
  refine VQ_call (.int .i64 (cmp_Compare_int a_.kind b.kind)) Try.call21 rfl rfl rfl rfl (fun w' hw' => (cmp_Compare_int_c w' a_.kind b.kind).mono (fun _ _ h => ⟨h.1, h.2 ▸ hw'⟩)) ?_
  have h18 := El_staff_Breach_2 h4
  refine VQ_y (fun w' hw' => Y_fieldAddr Try.underlying32 rfl Try.sizeOf3 (by decide) rfl) rfl rfl rfl ?_
  refine VQ_y (fun w' hw' => Y_load (El.int (El.kp (Dw := Dw) h18 hw')) Try.isAgg3 rfl) rfl rfl rfl ?_
  have h19 := El_staff_Breach_2 h11
  refine VQ_y (fun w' hw' => Y_fieldAddr Try.underlying32 rfl Try.sizeOf3 (by decide) rfl) rfl rfl rfl ?_
  refine VQ_y (fun w' hw' => Y_load (El.int (El.kp (Dw := Dw) h19 hw')) Try.isAgg3 rfl) rfl rfl rfl ?_
  refine VQ_call (.int .i64 (cmp_Compare_int a_.second b.second)) Try.call21 rfl rfl rfl rfl (fun w' hw' => (cmp_Compare_int_c w' a_.second b.second).mono (fun _ _ h => ⟨h.1, h.2 ▸ hw'⟩)) ?_
  refine VQ_tail (fun w20 hk21 => ?_)
  try simp only [List.take, List.drop]
  have ht22 := Kp.tr (Dw := Dw) hk21 hA hB
  replace hH := Hp.kp (Dw := Dw) hH hk21
  replace h4 := El.tr (Dw := Dw) h4 ht22
  replace h11 := El.tr (Dw := Dw) h11 ht22
  replace h14 := El.tr (Dw := Dw) h14 ht22
  replace h15 := El.tr (Dw := Dw) h15 ht22
  replace h16 := El.tr (Dw := Dw) h16 ht22
  replace h17 := El.tr (Dw := Dw) h17 ht22
  replace h18 := El.tr (Dw := Dw) h18 ht22
  replace h19 := El.tr (Dw := Dw) h19 ht22
  replace hK := Tr.trans (Dw := Dw) hK ht22
  replace hB := Nat.le_trans hB ht22.ex.size
  replace hA := ht22.new
  refine V_buildSlice (Dw := Dw) (cells := #[.int .i64 (cmp_Compare_int a_.first b.first), .int .i64 (cmp_Compare_int a_.kind b.kind), .int .i64 (cmp_Compare_int a_.second b.second)]) (l := ([(cmp_Compare_int a_.first b.first), (cmp_Compare_int a_.kind b.kind), (cmp_Compare_int a_.second b.second)] : List Int)) (len := 3) Try.underlying45 Try.sizeOf3 Try.zeroValue3 rfl (by generalize ((cmp_Compare_int a_.second b.second) : Int) = z27; generalize ((cmp_Compare_int a_.first b.first) : Int) = z28; generalize ((cmp_Compare_int a_.kind b.kind) : Int) = z29; kernel_rfl) (show (3 * 1 : Nat) ≠ 0 by decide) (show (3 * 1 : Nat) ≤ 2 ^ 24 by decide) hA ⟨[.int .i64 (cmp_Compare_int a_.first b.first)], _, rfl, rfl, ⟨[.int .i64 (cmp_Compare_int a_.kind b.kind)], _, rfl, rfl, ⟨[.int .i64 (cmp_Compare_int a_.second b.second)], _, rfl, rfl, rfl⟩⟩⟩ rfl rfl ?_
  intro v23 w24 hk26 h25
  have ht30 := Kp.tr (Dw := Dw) hk26 hA hB
  replace hH := Hp.kp (Dw := Dw) hH hk26
  replace h4 := El.tr (Dw := Dw) h4 ht30
  replace h11 := El.tr (Dw := Dw) h11 ht30
  replace h14 := El.tr (Dw := Dw) h14 ht30
  replace h15 := El.tr (Dw := Dw) h15 ht30
  replace h16 := El.tr (Dw := Dw) h16 ht30
  replace h17 := El.tr (Dw := Dw) h17 ht30
  replace h18 := El.tr (Dw := Dw) h18 ht30
  replace h19 := El.tr (Dw := Dw) h19 ht30
  replace hK := Tr.trans (Dw := Dw) hK ht30
  replace hB := Nat.le_trans hB ht30.ex.size
  replace hA := ht30.new
  obtain ⟨x31, hx31, hm⟩ := Option.bind_eq_some_iff.1 hm
  refine V_call Try.call20 rfl rfl rfl rfl (cmp_Or_int_c w24 ([(cmp_Compare_int a_.first b.first), (cmp_Compare_int a_.kind b.kind), (cmp_Compare_int a_.second b.second)] : List Int) v23 h25 hx31) ?_
  rintro _ _ ⟨rfl, rfl⟩
  refine V_y (Y_assign rfl) rfl rfl rfl ?_
  refine V_to (fun _ _ => rfl) ?_
  obtain rfl := Option.some.inj hm
  refine C_ret ?_
  try simp only [↓inBlock_ret, ↓then_ret]
  exact retQ rfl (Res.one Try.results27 rfl) ⟨rfl, hK.kp⟩

set_option maxRecDepth 4000 in
set_option maxHeartbeats 4000000 in
theorem portref2_JudgeOf_c (w : World) {A : Nat → Prop} (hA : ∀ b, w.heap.size ≤ b → A b) (forms : (List staff_Form)) (v_forms : Value) (h_forms : Sl A w v_forms forms) (r_ : staff_Rules) (l : (List staff_Duty)) (v_l : Value) (h_l : Sl A w v_l l) {r : ((List staff_Breach) × Int)} (hm : portref2_JudgeOf forms r_ l = some r) : Ret Try.prog 6 #[v_forms, .agg #[.int .i64 r_.people, .int .i64 r_.rest_, .int .i64 r_.most], v_l] w fun v w' => ∃ s0, v = .tuple #[s0, .int .i64 r.2] ∧ Ownd 32 w w' s0 r.1 ∧ Kp Dw w w' := by
  unfold portref2_JudgeOf at hm
  refine enter Try.func6 rfl Try.ntmps6 rfl ?_
  have hA0 := hA
  have hB := Nat.le_refl w.heap.size
  have hK : Tr Dw w.heap.size A w A w := Tr.refl (Dw := Dw) hA
  have hH : Hp w.heap.size A w [] := Hp.nil
  refine C_seq ?_
  refine C_region ?_
  refine V_box rfl rfl ?_
  intro b5 w6 h7
  have h12 : (v_forms).oneCell' = true := by obtain ⟨_, _, e, _⟩ := Sl.form h_forms; rw [e]; rfl
  have hk9 := h7.kp (Dw := Dw)
  have h8 : El (α := (List staff_Form)) A w6 b5 0 forms := h7.el hA (by rw [Value.cells_one h12]; exact ⟨_, rfl, h_forms⟩)
  have ht13 := Kp.tr (Dw := Dw) hk9 hA hB
  replace hH := Hp.kp (Dw := Dw) hH hk9
  replace h_forms := Sl.tr (Dw := Dw) h_forms ht13
  replace h_l := Sl.tr (Dw := Dw) h_l ht13
  replace hK := Tr.trans (Dw := Dw) hK ht13
  replace hB := Nat.le_trans hB ht13.ex.size
  replace hA := ht13.new
  refine V_box rfl rfl ?_
  intro b14 w15 h16
  have hk18 := h16.kp (Dw := Dw)
  have h17 : El (α := staff_Rules) A w15 b14 0 r_ := h16.el hA ⟨[.int .i64 r_.people], _, rfl, rfl, ⟨[.int .i64 r_.rest_], _, rfl, rfl, rfl⟩⟩
  have ht19 := Kp.tr (Dw := Dw) hk18 hA hB
  replace hH := Hp.kp (Dw := Dw) hH hk18
  replace h_forms := Sl.tr (Dw := Dw) h_forms ht19
  replace h_l := Sl.tr (Dw := Dw) h_l ht19
  replace h8 := El.tr (Dw := Dw) h8 ht19
  replace hK := Tr.trans (Dw := Dw) hK ht19
  replace hB := Nat.le_trans hB ht19.ex.size
  replace hA := ht19.new
  refine V_y (Y_assign rfl) rfl rfl rfl ?_
  refine V_y (Y_assign rfl) rfl rfl rfl ?_
  refine V_to (fun _ _ => rfl) ?_
  refine C_seq ?_
  refine C_seq ?_
  refine C_region ?_
  obtain ⟨v20, h21, h22⟩ := El.list h8
  refine V_y (Y_load h21 Try.isAgg22 rfl) rfl rfl rfl ?_
  obtain ⟨x23, hx23, hm⟩ := Option.bind_eq_some_iff.1 hm
  refine V_call Try.call22 rfl rfl rfl rfl (portref2_FormsFault_c (Dw := Dw) w15 hA forms v20 h22 hx23) ?_
  rintro _ w24 ⟨rfl, hk25⟩
  have ht26 := Kp.tr (Dw := Dw) hk25 hA hB
  replace hH := Hp.kp (Dw := Dw) hH hk25
  replace h_l := Sl.tr (Dw := Dw) h_l ht26
  replace h8 := El.tr (Dw := Dw) h8 ht26
  replace h17 := El.tr (Dw := Dw) h17 ht26
  replace h22 := Sl.tr (Dw := Dw) h22 ht26
  replace hK := Tr.trans (Dw := Dw) hK ht26
  replace hB := Nat.le_trans hB ht26.ex.size
  replace hA := ht26.new
  refine V_y (Y_assign rfl) rfl rfl rfl ?_
  refine V_to (fun _ _ => rfl) ?_
  refine C_seq ?_
  refine C_region ?_
  refine V_y (Y_move rfl) rfl rfl rfl ?_
  refine V_y (Y_neq rfl rfl) rfl rfl rfl ?_
  refine V_to (fun _ _ => rfl) ?_
  refine C_cond rfl (fun hc27 => ?_) (fun hc27 => ?_)
  · rw [if_pos hc27] at hm
    refine C_seq ?_
    refine C_region ?_
    refine V_y (Y_move rfl) rfl rfl rfl ?_
    refine V_y (Y_assign rfl) rfl rfl rfl ?_
    refine V_y (Y_assign rfl) rfl rfl rfl ?_
    refine V_to (fun _ _ => rfl) ?_
    obtain rfl := Option.some.inj hm
    replace hH : Hp w.heap.size A w24 (obS (α := staff_Breach) 32 (.slice none 0 0) ([] : (List staff_Breach)) :: []) := Hp.addNil (α := staff_Breach) (e := 32) hH
    refine C_ret ?_
    try simp only [↓inBlock_ret, ↓then_ret]
    exact retQ rfl (Res.two Try.results6 rfl rfl) ⟨.slice none 0 0, rfl, (Hp.ownd hH (i := 0) rfl), hK.kp⟩
  · rw [if_neg (nt hc27)] at hm
    refine C_skip_to (fun _ _ => rfl) ?_
    refine C_seq ?_
    refine C_seq ?_
    refine C_region ?_
    obtain ⟨h28, _⟩ := El_staff_Rules h17
    refine V_y (Y_loadA h28 Try.isAgg24 Try.sizeOf24 rfl) rfl rfl rfl ?_
    obtain ⟨x29, hx29, hm⟩ := Option.bind_eq_some_iff.1 hm
    refine V_call Try.call23 rfl rfl rfl rfl (portref2_RulesFault_c (Dw := Dw) w24 hA r_ hx29) ?_
    rintro _ w30 ⟨rfl, hk31⟩
    have ht32 := Kp.tr (Dw := Dw) hk31 hA hB
    replace hH := Hp.kp (Dw := Dw) hH hk31
    replace h_l := Sl.tr (Dw := Dw) h_l ht32
    replace h8 := El.tr (Dw := Dw) h8 ht32
    replace h17 := El.tr (Dw := Dw) h17 ht32
    replace hK := Tr.trans (Dw := Dw) hK ht32
    replace hB := Nat.le_trans hB ht32.ex.size
    replace hA := ht32.new
    refine V_y (Y_assign rfl) rfl rfl rfl ?_
    refine V_to (fun _ _ => rfl) ?_
    refine C_seq ?_
    refine C_region ?_
    refine V_y (Y_move rfl) rfl rfl rfl ?_
    refine V_y (Y_neq rfl rfl) rfl rfl rfl ?_
    refine V_to (fun _ _ => rfl) ?_
    refine C_cond rfl (fun hc33 => ?_) (fun hc33 => ?_)
    · rw [if_pos hc33] at hm
      refine C_seq ?_
      refine C_region ?_
      refine V_y (Y_move rfl) rfl rfl rfl ?_
      refine V_y (Y_assign rfl) rfl rfl rfl ?_
      refine V_y (Y_assign rfl) rfl rfl rfl ?_
      refine V_to (fun _ _ => rfl) ?_
      obtain rfl := Option.some.inj hm
      replace hH : Hp w.heap.size A w30 (obS (α := staff_Breach) 32 (.slice none 0 0) ([] : (List staff_Breach)) :: []) := Hp.addNil (α := staff_Breach) (e := 32) hH
      refine C_ret ?_
      try simp only [↓inBlock_ret, ↓then_ret]
      exact retQ rfl (Res.two Try.results6 rfl rfl) ⟨.slice none 0 0, rfl, (Hp.ownd hH (i := 0) rfl), hK.kp⟩
    · rw [if_neg (nt hc33)] at hm
      refine C_skip_to (fun _ _ => rfl) ?_
      refine C_seq ?_
      refine C_seq ?_
      refine C_region ?_
      refine V_y (Y_move rfl) rfl rfl rfl ?_
      refine V_y (Y_lenSl h_l rfl Try.underlying25 rfl) rfl rfl rfl ?_
      refine V_y (Y_gtr rfl rfl) rfl rfl rfl ?_
      refine V_to (fun _ _ => rfl) ?_
      refine C_cond rfl (fun hc34 => ?_) (fun hc34 => ?_)
      · rw [if_pos hc34] at hm
        refine C_seq ?_
        refine C_region ?_
        refine V_y (Y_assign rfl) rfl rfl rfl ?_
        refine V_y (Y_assign rfl) rfl rfl rfl ?_
        refine V_to (fun _ _ => rfl) ?_
        obtain rfl := Option.some.inj hm
        replace hH : Hp w.heap.size A w30 (obS (α := staff_Breach) 32 (.slice none 0 0) ([] : (List staff_Breach)) :: []) := Hp.addNil (α := staff_Breach) (e := 32) hH
        refine C_ret ?_
        try simp only [↓inBlock_ret, ↓then_ret]
        exact retQ rfl (Res.two Try.results6 rfl rfl) ⟨.slice none 0 0, rfl, (Hp.ownd hH (i := 0) rfl), hK.kp⟩
      · rw [if_neg (nt hc34)] at hm
        refine C_skip_to (fun _ _ => rfl) ?_
        refine C_seq ?_
        refine C_region ?_
        refine V_y (Y_assign rfl) rfl rfl rfl ?_
        refine V_to (fun _ _ => rfl) ?_
        refine C_seq ?_
        refine C_region ?_
        refine V_y (Y_makeFunc rfl rfl) rfl rfl rfl ?_
        refine V_y (Y_assign rfl) rfl rfl rfl ?_
        refine V_to (fun _ _ => rfl) ?_
        refine C_seq ?_
        refine C_region ?_
        refine V_y (Y_makeFunc rfl rfl) rfl rfl rfl ?_
        refine V_y (Y_assign rfl) rfl rfl rfl ?_
        refine V_to (fun _ _ => rfl) ?_
        refine C_seq ?_
        refine C_region ?_
        refine V_makeMapS (Dw := Dw) (B := w.heap.size) Int Int hH hB hA rfl ?_
        intro b35 w36 A37 hH38 ht39
        replace h_l := Sl.tr (Dw := Dw) h_l ht39
        replace h8 := El.tr (Dw := Dw) h8 ht39
        replace h17 := El.tr (Dw := Dw) h17 ht39
        replace hK := Tr.trans (Dw := Dw) hK ht39
        replace hB := Nat.le_trans hB ht39.ex.size
        replace hA := ht39.new
        replace hH : Hp w.heap.size A37 w36 (obSM (κ := Int) (α := Int) b35 ([] : List (Int × Int)) :: []) := hH38
        refine V_y (Y_assign rfl) rfl rfl rfl ?_
        refine V_to (fun _ _ => rfl) ?_
        refine C_seq ?_
        refine C_seq ?_
        refine C_region ?_
        refine V_y (Y_move rfl) rfl rfl rfl ?_
        refine V_y (Y_lenSl h_l rfl Try.underlying25 rfl) rfl rfl rfl ?_
        refine V_y (Y_move rfl) rfl rfl rfl ?_
        refine V_to (fun _ _ => rfl) ?_
        replace hH : Hp w.heap.size A37 w36 (obS (α := staff_Breach) 32 (.slice none 0 0) ([] : (List staff_Breach)) :: obSM (κ := Int) (α := Int) b35 ([] : List (Int × Int)) :: []) := Hp.addNil (α := staff_Breach) (e := 32) hH
        have hn64 := Sl.le h_l
        obtain ⟨o40, ho40, hm⟩ := Option.bind_eq_some_iff.1 hm
        refine C_cutG (ι := (((List staff_Breach) × (List (Int × Int))) × Value × (Nat → Prop))) (fun ⟨s41, v47, A49⟩ => [(10, v47)]) (fun ⟨s41, v47, A49⟩ => fun w' => o40 = .fin s41 ∧ Hp w.heap.size A49 w' (obS (α := staff_Breach) 32 v47 s41.1 :: obSM (κ := Int) (α := Int) b35 s41.2 :: []) ∧ Tr Dw w.heap.size A37 w36 A49 w') ?_ ?_
        · refine C_block ?_
          refine C_range ho40 (fun k43 s51 a w' => ∃ i : (Value × (Nat → Prop)), Has ⟨148, [], none⟩ a ([(2, v_l), (3, .pointer (some ⟨b5, 0, none⟩)), (4, .pointer (some ⟨b14, 0, none⟩)), (10, i.1), (11, .func (.func 24) #[] #[.pointer (some ⟨b5, 0, none⟩)]), (12, .func (.func 25) #[] #[.pointer (some ⟨b14, 0, none⟩)]), (13, .map (some b35)), (35, v_l), (36, .int .i64 (l.length : Int)), (37, .int .i64 (k43 : Int))]) ∧ Hp w.heap.size i.2 w' (obS (α := staff_Breach) 32 i.1 s51.1 :: obSM (κ := Int) (α := Int) b35 s51.2 :: []) ∧ Tr Dw w.heap.size A37 w36 i.2 w') (fun a ha => ⟨(.slice none 0 0, A37), ha.sub ⟨rfl, rfl, rfl, rfl, rfl, rfl, rfl, rfl, rfl, rfl, trivial⟩, ⟨hH, Tr.refl (Dw := Dw) hA⟩⟩) ?_
          rintro K k43 s51 a w52 ⟨⟨v53, A55⟩, ha333, hH56, hr42⟩ hle60 K63 h62
          refine C_of ?_ ha333
          replace h_l := Sl.tr (Dw := Dw) h_l hr42
          replace h8 := El.tr (Dw := Dw) h8 hr42
          replace h17 := El.tr (Dw := Dw) h17 hr42
          replace hK := Tr.trans (Dw := Dw) hK hr42
          replace hB := Nat.le_trans hB hr42.ex.size
          replace hA := hr42.new
          replace hH : Hp w.heap.size A55 w52 (obS (α := staff_Breach) 32 v53 s51.1 :: obSM (κ := Int) (α := Int) b35 s51.2 :: []) := hH56
          refine C_seq (C_region (V_y (Y_lss rfl rfl) rfl rfl rfl (V_to (fun _ _ => rfl) ?_)))
          refine C_seq ?_
          refine C_cond rfl (fun hc65 => ?_) (fun hc65 => ?_)
          · have hlt61 := lt_of_dec hc65
            obtain ⟨x57, h58, h59⟩ := K63 hlt61
            refine C_skip_to (fun _ _ => rfl) ?_
            refine C_seq ?_
            obtain ⟨s67, ho66, h58⟩ := Option.bind_eq_some_iff.1 h58
            refine C_cutG (ι := (Value × (Nat → Prop))) (fun ⟨v69, A74⟩ => [(2, v_l), (3, .pointer (some ⟨b5, 0, none⟩)), (4, .pointer (some ⟨b14, 0, none⟩)), (10, v69), (11, .func (.func 24) #[] #[.pointer (some ⟨b5, 0, none⟩)]), (12, .func (.func 25) #[] #[.pointer (some ⟨b14, 0, none⟩)]), (13, .map (some b35)), (35, v_l), (36, .int .i64 (l.length : Int)), (37, .int .i64 (k43 : Int))]) (fun ⟨v69, A74⟩ => fun w' => Hp w.heap.size A74 w' (obS (α := staff_Breach) 32 v69 s67.1 :: obSM (κ := Int) (α := Int) b35 s67.2 :: []) ∧ Tr Dw w.heap.size A55 w52 A74 w') ?_ ?_
            · have hr68 : Tr Dw w.heap.size A55 w52 A55 w52 := Tr.refl (Dw := Dw) hA
              refine C_block ?_
              refine C_seq ?_
              refine C_region ?_
              refine V_y (Y_move rfl) rfl rfl rfl ?_
              obtain ⟨x76, hx76, ho66⟩ := Option.bind_eq_some_iff.1 ho66
              refine V_indexAddr h_l hx76 Try.underlying25 Try.sizeOf49 rfl rfl rfl ?_
              intro b77 o78 h79
              obtain ⟨h80, _⟩ := El_staff_Duty h79
              refine V_y (Y_loadA h80 Try.isAgg49 Try.sizeOf49 rfl) rfl rfl rfl ?_
              refine V_alloc Try.zeroValue49 rfl ?_
              intro b81 w82 h83
              refine V_y (Y_assign rfl) rfl rfl rfl ?_
              refine V_storeNew h83 Try.sizeOf49 rfl rfl rfl rfl (by exact (List.forall_mem_cons.2 ⟨rfl, (List.forall_mem_cons.2 ⟨rfl, (fun _ h => nomatch h)⟩)⟩)) ?_
              intro w84 h85
              have hk87 := h85.kp (Dw := Dw)
              have h86 : El (α := staff_Duty) A55 w84 b81 0 x76 := h85.el hA ⟨[.int .i64 x76.form], _, rfl, rfl, rfl⟩
              have ht88 := Kp.tr (Dw := Dw) hk87 hA hB
              replace hH := Hp.kp (Dw := Dw) hH hk87
              replace h_l := Sl.tr (Dw := Dw) h_l ht88
              replace h8 := El.tr (Dw := Dw) h8 ht88
              replace h17 := El.tr (Dw := Dw) h17 ht88
              replace h79 := El.tr (Dw := Dw) h79 ht88
              replace hK := Tr.trans (Dw := Dw) hK ht88
              replace hr42 := Tr.trans (Dw := Dw) hr42 ht88
              replace hr68 := Tr.trans (Dw := Dw) hr68 ht88
              replace hB := Nat.le_trans hB ht88.ex.size
              replace hA := ht88.new
              refine V_to (fun _ _ => rfl) ?_
              refine C_seq ?_
              refine C_seq ?_
              refine C_region ?_
              refine V_y (Y_move rfl) rfl rfl rfl ?_
              obtain ⟨h89, _⟩ := El_staff_Duty h86
              refine V_y (Y_loadA h89 Try.isAgg49 Try.sizeOf49 rfl) rfl rfl rfl ?_
              obtain ⟨x90, hx90, ho66⟩ := Option.bind_eq_some_iff.1 ho66
              refine V_call Try.call24 rfl rfl rfl rfl (portref2_JudgeOf_1_c (Dw := Dw) w84 hA x76 forms b5 h8 hx90) ?_
              rintro _ w91 ⟨rfl, hk92⟩
              have ht93 := Kp.tr (Dw := Dw) hk92 hA hB
              replace hH := Hp.kp (Dw := Dw) hH hk92
              replace h_l := Sl.tr (Dw := Dw) h_l ht93
              replace h8 := El.tr (Dw := Dw) h8 ht93
              replace h17 := El.tr (Dw := Dw) h17 ht93
              replace h86 := El.tr (Dw := Dw) h86 ht93
              replace hK := Tr.trans (Dw := Dw) hK ht93
              replace hr42 := Tr.trans (Dw := Dw) hr42 ht93
              replace hr68 := Tr.trans (Dw := Dw) hr68 ht93
              replace hB := Nat.le_trans hB ht93.ex.size
              replace hA := ht93.new
              refine V_to (fun _ _ => rfl) ?_
              obtain ⟨s95, ho94, ho66⟩ := Option.bind_eq_some_iff.1 ho66
              refine C_cutG (ι := (Value × (Nat → Prop))) (fun ⟨v97, A102⟩ => [(2, v_l), (3, .pointer (some ⟨b5, 0, none⟩)), (4, .pointer (some ⟨b14, 0, none⟩)), (10, v97), (11, .func (.func 24) #[] #[.pointer (some ⟨b5, 0, none⟩)]), (12, .func (.func 25) #[] #[.pointer (some ⟨b14, 0, none⟩)]), (13, .map (some b35)), (14, .int .i64 (k43 : Int)), (15, .pointer (some ⟨b81, 0, none⟩)), (35, v_l), (36, .int .i64 (l.length : Int)), (37, .int .i64 (k43 : Int))]) (fun ⟨v97, A102⟩ => fun w' => Hp w.heap.size A102 w' (obS (α := staff_Breach) 32 v97 s95 :: obSM (κ := Int) (α := Int) b35 s51.2 :: []) ∧ Tr Dw w.heap.size A55 w91 A102 w') ?_ ?_
              · have hr96 : Tr Dw w.heap.size A55 w91 A55 w91 := Tr.refl (Dw := Dw) hA
                refine C_cond rfl (fun hc104 => ?_) (fun hc104 => ?_)
                · rw [if_pos hc104] at ho94
                  refine C_region ?_
                  refine V_y (Y_move rfl) rfl rfl rfl ?_
                  refine V_y (Y_move rfl) rfl rfl rfl ?_
                  refine V_y (Y_build Try.underlying32 Try.zeroValue32 (Try_places32 _ Try.underlying32) rfl (by with_unfolding_all rfl)) rfl rfl rfl ?_
                  refine V_buildSlice (Dw := Dw) (cells := #[.int .i64 1, .int .i64 (k43 : Int), .int .i64 (-1)]) (l := ([(⟨1, (k43 : Int), (-1)⟩ : staff_Breach)] : List staff_Breach)) (len := 1) Try.underlying26 Try.sizeOf32 Try.zeroValue32 rfl (by generalize ((k43 : Int) : Int) = z109; generalize ((-1) : Int) = z110; kernel_rfl) (show (1 * 3 : Nat) ≠ 0 by decide) (show (1 * 3 : Nat) ≤ 2 ^ 24 by decide) hA ⟨[.int .i64 1, .int .i64 (k43 : Int), .int .i64 (-1)], _, rfl, ⟨[.int .i64 1], _, rfl, rfl, ⟨[.int .i64 (k43 : Int)], _, rfl, rfl, rfl⟩⟩, rfl⟩ rfl rfl ?_
                  intro v105 w106 hk108 h107
                  have ht111 := Kp.tr (Dw := Dw) hk108 hA hB
                  replace hH := Hp.kp (Dw := Dw) hH hk108
                  replace h_l := Sl.tr (Dw := Dw) h_l ht111
                  replace h8 := El.tr (Dw := Dw) h8 ht111
                  replace h17 := El.tr (Dw := Dw) h17 ht111
                  replace h86 := El.tr (Dw := Dw) h86 ht111
                  replace hK := Tr.trans (Dw := Dw) hK ht111
                  replace hr42 := Tr.trans (Dw := Dw) hr42 ht111
                  replace hr68 := Tr.trans (Dw := Dw) hr68 ht111
                  replace hr96 := Tr.trans (Dw := Dw) hr96 ht111
                  replace hB := Nat.le_trans hB ht111.ex.size
                  replace hA := ht111.new
                  obtain ⟨x112, hx112, ho94⟩ := Option.bind_eq_some_iff.1 ho94
                  refine V_appendH (Dw := Dw) (e := 32) (v := v53) (l := s51.1) (ti := Try.t32) (bytes := 24) (lim := 5864062014805) hH (i := 0) rfl h107 hx112 Try.underlying26 Try_info32 rfl rfl rfl rfl (by decide) (by decide) (by decide) hB hA rfl rfl rfl ?_
                  intro v113 w114 A115 hH116 ht117
                  replace h_l := Sl.tr (Dw := Dw) h_l ht117
                  replace h8 := El.tr (Dw := Dw) h8 ht117
                  replace h17 := El.tr (Dw := Dw) h17 ht117
                  replace h86 := El.tr (Dw := Dw) h86 ht117
                  replace h107 := Sl.tr (Dw := Dw) h107 ht117
                  replace hK := Tr.trans (Dw := Dw) hK ht117
                  replace hr42 := Tr.trans (Dw := Dw) hr42 ht117
                  replace hr68 := Tr.trans (Dw := Dw) hr68 ht117
                  replace hr96 := Tr.trans (Dw := Dw) hr96 ht117
                  replace hB := Nat.le_trans hB ht117.ex.size
                  replace hA := ht117.new
                  replace hH : Hp w.heap.size A115 w114 (obS (α := staff_Breach) 32 v113 x112 :: obSM (κ := Int) (α := Int) b35 s51.2 :: []) := hH116
                  refine V_y (Y_assign rfl) rfl rfl rfl ?_
                  obtain rfl := Option.some.inj ho94
                  refine V_end (fun a ha118 => ?_)
                  exact ⟨(v113, A115), ha118.sub ⟨rfl, rfl, rfl, rfl, rfl, rfl, rfl, rfl, rfl, rfl, rfl, rfl, trivial⟩, ⟨hH, hr96⟩⟩
                · rw [if_neg (nt hc104)] at ho94
                  obtain rfl := Option.some.inj ho94
                  refine C_skip (fun a ha119 => ?_)
                  exact ⟨(v53, A55), ha119.sub ⟨rfl, rfl, rfl, rfl, rfl, rfl, rfl, rfl, rfl, rfl, rfl, rfl, trivial⟩, ⟨hH, hr96⟩⟩
              rintro ⟨v97, A102⟩ w99 ⟨hH103, hk100⟩ a ha101
              replace h_l := Sl.tr (Dw := Dw) h_l hk100
              replace h8 := El.tr (Dw := Dw) h8 hk100
              replace h17 := El.tr (Dw := Dw) h17 hk100
              replace h86 := El.tr (Dw := Dw) h86 hk100
              replace hK := Tr.trans (Dw := Dw) hK hk100
              replace hr42 := Tr.trans (Dw := Dw) hr42 hk100
              replace hr68 := Tr.trans (Dw := Dw) hr68 hk100
              replace hB := Nat.le_trans hB hk100.ex.size
              replace hA := hk100.new
              replace hH : Hp w.heap.size A102 w99 (obS (α := staff_Breach) 32 v97 s95 :: obSM (κ := Int) (α := Int) b35 s51.2 :: []) := hH103
              refine C_at (n := ⟨148, [], none⟩) (fun _ _ => rfl) ?_ ha101
              refine C_seq ?_
              refine C_seq ?_
              refine C_region ?_
              refine V_y (Y_move rfl) rfl rfl rfl ?_
              obtain ⟨h120, _⟩ := El_staff_Duty h86
              refine V_y (Y_loadA h120 Try.isAgg49 Try.sizeOf49 rfl) rfl rfl rfl ?_
              obtain ⟨x121, hx121, ho66⟩ := Option.bind_eq_some_iff.1 ho66
              refine V_call Try.call25 rfl rfl rfl rfl (portref2_JudgeOf_2_c (Dw := Dw) w99 hA x76 r_ b14 h17 hx121) ?_
              rintro _ w122 ⟨rfl, hk123⟩
              have ht124 := Kp.tr (Dw := Dw) hk123 hA hB
              replace hH := Hp.kp (Dw := Dw) hH hk123
              replace h_l := Sl.tr (Dw := Dw) h_l ht124
              replace h8 := El.tr (Dw := Dw) h8 ht124
              replace h17 := El.tr (Dw := Dw) h17 ht124
              replace h86 := El.tr (Dw := Dw) h86 ht124
              replace hK := Tr.trans (Dw := Dw) hK ht124
              replace hr42 := Tr.trans (Dw := Dw) hr42 ht124
              replace hr68 := Tr.trans (Dw := Dw) hr68 ht124
              replace hB := Nat.le_trans hB ht124.ex.size
              replace hA := ht124.new
              refine V_to (fun _ _ => rfl) ?_
              obtain ⟨s126, ho125, ho66⟩ := Option.bind_eq_some_iff.1 ho66
              refine C_cutG (ι := (Value × (Nat → Prop))) (fun ⟨v128, A133⟩ => [(2, v_l), (3, .pointer (some ⟨b5, 0, none⟩)), (4, .pointer (some ⟨b14, 0, none⟩)), (10, v128), (11, .func (.func 24) #[] #[.pointer (some ⟨b5, 0, none⟩)]), (12, .func (.func 25) #[] #[.pointer (some ⟨b14, 0, none⟩)]), (13, .map (some b35)), (14, .int .i64 (k43 : Int)), (15, .pointer (some ⟨b81, 0, none⟩)), (35, v_l), (36, .int .i64 (l.length : Int)), (37, .int .i64 (k43 : Int))]) (fun ⟨v128, A133⟩ => fun w' => Hp w.heap.size A133 w' (obS (α := staff_Breach) 32 v128 s126 :: obSM (κ := Int) (α := Int) b35 s51.2 :: []) ∧ Tr Dw w.heap.size A102 w122 A133 w') ?_ ?_
              · have hr127 : Tr Dw w.heap.size A102 w122 A102 w122 := Tr.refl (Dw := Dw) hA
                refine C_cond rfl (fun hc135 => ?_) (fun hc135 => ?_)
                · rw [if_pos hc135] at ho125
                  refine C_region ?_
                  refine V_y (Y_move rfl) rfl rfl rfl ?_
                  refine V_y (Y_move rfl) rfl rfl rfl ?_
                  refine V_y (Y_build Try.underlying32 Try.zeroValue32 (Try_places32 _ Try.underlying32) rfl (by with_unfolding_all rfl)) rfl rfl rfl ?_
                  refine V_buildSlice (Dw := Dw) (cells := #[.int .i64 2, .int .i64 (k43 : Int), .int .i64 (-1)]) (l := ([(⟨2, (k43 : Int), (-1)⟩ : staff_Breach)] : List staff_Breach)) (len := 1) Try.underlying26 Try.sizeOf32 Try.zeroValue32 rfl (by generalize ((k43 : Int) : Int) = z140; generalize ((-1) : Int) = z141; kernel_rfl) (show (1 * 3 : Nat) ≠ 0 by decide) (show (1 * 3 : Nat) ≤ 2 ^ 24 by decide) hA ⟨[.int .i64 2, .int .i64 (k43 : Int), .int .i64 (-1)], _, rfl, ⟨[.int .i64 2], _, rfl, rfl, ⟨[.int .i64 (k43 : Int)], _, rfl, rfl, rfl⟩⟩, rfl⟩ rfl rfl ?_
                  intro v136 w137 hk139 h138
                  have ht142 := Kp.tr (Dw := Dw) hk139 hA hB
                  replace hH := Hp.kp (Dw := Dw) hH hk139
                  replace h_l := Sl.tr (Dw := Dw) h_l ht142
                  replace h8 := El.tr (Dw := Dw) h8 ht142
                  replace h17 := El.tr (Dw := Dw) h17 ht142
                  replace h86 := El.tr (Dw := Dw) h86 ht142
                  replace hK := Tr.trans (Dw := Dw) hK ht142
                  replace hr42 := Tr.trans (Dw := Dw) hr42 ht142
                  replace hr68 := Tr.trans (Dw := Dw) hr68 ht142
                  replace hr127 := Tr.trans (Dw := Dw) hr127 ht142
                  replace hB := Nat.le_trans hB ht142.ex.size
                  replace hA := ht142.new
                  obtain ⟨x143, hx143, ho125⟩ := Option.bind_eq_some_iff.1 ho125
                  refine V_appendH (Dw := Dw) (e := 32) (v := v97) (l := s95) (ti := Try.t32) (bytes := 24) (lim := 5864062014805) hH (i := 0) rfl h138 hx143 Try.underlying26 Try_info32 rfl rfl rfl rfl (by decide) (by decide) (by decide) hB hA rfl rfl rfl ?_
                  intro v144 w145 A146 hH147 ht148
                  replace h_l := Sl.tr (Dw := Dw) h_l ht148
                  replace h8 := El.tr (Dw := Dw) h8 ht148
                  replace h17 := El.tr (Dw := Dw) h17 ht148
                  replace h86 := El.tr (Dw := Dw) h86 ht148
                  replace h138 := Sl.tr (Dw := Dw) h138 ht148
                  replace hK := Tr.trans (Dw := Dw) hK ht148
                  replace hr42 := Tr.trans (Dw := Dw) hr42 ht148
                  replace hr68 := Tr.trans (Dw := Dw) hr68 ht148
                  replace hr127 := Tr.trans (Dw := Dw) hr127 ht148
                  replace hB := Nat.le_trans hB ht148.ex.size
                  replace hA := ht148.new
                  replace hH : Hp w.heap.size A146 w145 (obS (α := staff_Breach) 32 v144 x143 :: obSM (κ := Int) (α := Int) b35 s51.2 :: []) := hH147
                  refine V_y (Y_assign rfl) rfl rfl rfl ?_
                  obtain rfl := Option.some.inj ho125
                  refine V_end (fun a ha149 => ?_)
                  exact ⟨(v144, A146), ha149.sub ⟨rfl, rfl, rfl, rfl, rfl, rfl, rfl, rfl, rfl, rfl, rfl, rfl, trivial⟩, ⟨hH, hr127⟩⟩
                · rw [if_neg (nt hc135)] at ho125
                  obtain rfl := Option.some.inj ho125
                  refine C_skip (fun a ha150 => ?_)
                  exact ⟨(v97, A102), ha150.sub ⟨rfl, rfl, rfl, rfl, rfl, rfl, rfl, rfl, rfl, rfl, rfl, rfl, trivial⟩, ⟨hH, hr127⟩⟩
              rintro ⟨v128, A133⟩ w130 ⟨hH134, hk131⟩ a ha132
              replace h_l := Sl.tr (Dw := Dw) h_l hk131
              replace h8 := El.tr (Dw := Dw) h8 hk131
              replace h17 := El.tr (Dw := Dw) h17 hk131
              replace h86 := El.tr (Dw := Dw) h86 hk131
              replace hK := Tr.trans (Dw := Dw) hK hk131
              replace hr42 := Tr.trans (Dw := Dw) hr42 hk131
              replace hr68 := Tr.trans (Dw := Dw) hr68 hk131
              replace hB := Nat.le_trans hB hk131.ex.size
              replace hA := hk131.new
              replace hH : Hp w.heap.size A133 w130 (obS (α := staff_Breach) 32 v128 s126 :: obSM (κ := Int) (α := Int) b35 s51.2 :: []) := hH134
              refine C_at (n := ⟨148, [], none⟩) (fun _ _ => rfl) ?_ ha132
              refine C_seq ?_
              refine C_seq ?_
              obtain ⟨s152, ho151, ho66⟩ := Option.bind_eq_some_iff.1 ho66
              refine C_cutG (ι := (Nat → Prop)) (fun (A157 : (Nat → Prop)) => [(2, v_l), (3, .pointer (some ⟨b5, 0, none⟩)), (4, .pointer (some ⟨b14, 0, none⟩)), (10, v128), (11, .func (.func 24) #[] #[.pointer (some ⟨b5, 0, none⟩)]), (12, .func (.func 25) #[] #[.pointer (some ⟨b14, 0, none⟩)]), (13, .map (some b35)), (14, .int .i64 (k43 : Int)), (15, .pointer (some ⟨b81, 0, none⟩)), (35, v_l), (36, .int .i64 (l.length : Int)), (37, .int .i64 (k43 : Int)), (65, .bool s152)]) (fun (A157 : (Nat → Prop)) => fun w' => Hp w.heap.size A157 w' (obS (α := staff_Breach) 32 v128 s126 :: obSM (κ := Int) (α := Int) b35 s51.2 :: []) ∧ Tr Dw w.heap.size A133 w130 A157 w') ?_ ?_
              · have hr153 : Tr Dw w.heap.size A133 w130 A133 w130 := Tr.refl (Dw := Dw) hA
                refine C_region ?_
                refine V_y (Y_move rfl) rfl rfl rfl ?_
                obtain ⟨h159, _⟩ := El_staff_Duty h86
                refine V_y (Y_loadA h159 Try.isAgg49 Try.sizeOf49 rfl) rfl rfl rfl ?_
                obtain ⟨x160, hx160, ho151⟩ := Option.bind_eq_some_iff.1 ho151
                refine V_call Try.call24 rfl rfl rfl rfl (portref2_JudgeOf_1_c (Dw := Dw) w130 hA x76 forms b5 h8 hx160) ?_
                rintro _ w161 ⟨rfl, hk162⟩
                have ht163 := Kp.tr (Dw := Dw) hk162 hA hB
                replace hH := Hp.kp (Dw := Dw) hH hk162
                replace h_l := Sl.tr (Dw := Dw) h_l ht163
                replace h8 := El.tr (Dw := Dw) h8 ht163
                replace h17 := El.tr (Dw := Dw) h17 ht163
                replace h86 := El.tr (Dw := Dw) h86 ht163
                replace hK := Tr.trans (Dw := Dw) hK ht163
                replace hr42 := Tr.trans (Dw := Dw) hr42 ht163
                replace hr68 := Tr.trans (Dw := Dw) hr68 ht163
                replace hr153 := Tr.trans (Dw := Dw) hr153 ht163
                replace hB := Nat.le_trans hB ht163.ex.size
                replace hA := ht163.new
                refine V_y (Y_move rfl) rfl rfl rfl ?_
                rcases Bool.eq_false_or_eq_true (x160) with hc164 | hc164
                · rw [if_pos hc164] at ho151
                  refine V_gn rfl rfl rfl hc164 rfl rfl rfl ?_
                  refine V_gn rfl rfl rfl hc164 rfl rfl rfl ?_
                  refine V_gn rfl rfl rfl hc164 rfl rfl rfl ?_
                  refine V_y (Y_pick_te rfl hc164 rfl) rfl rfl rfl ?_
                  obtain rfl := Option.some.inj ho151
                  refine V_end (fun a ha165 => ?_)
                  exact ⟨A133, ha165.sub ⟨rfl, rfl, rfl, rfl, rfl, rfl, rfl, rfl, rfl, rfl, rfl, rfl, rfl, trivial⟩, ⟨hH, hr153⟩⟩
                · rw [if_neg (nt hc164)] at ho151
                  refine V_ge rfl rfl rfl hc164 ?_
                  refine V_y (Y_move rfl) rfl rfl rfl ?_
                  refine V_ge rfl rfl rfl hc164 ?_
                  obtain ⟨h166, _⟩ := El_staff_Duty h86
                  refine V_y (Y_loadA h166 Try.isAgg49 Try.sizeOf49 rfl) rfl rfl rfl ?_
                  refine V_ge rfl rfl rfl hc164 ?_
                  obtain ⟨x167, hx167, ho151⟩ := Option.bind_eq_some_iff.1 ho151
                  refine V_call Try.call25 rfl rfl rfl rfl (portref2_JudgeOf_2_c (Dw := Dw) w161 hA x76 r_ b14 h17 hx167) ?_
                  rintro _ w168 ⟨rfl, hk169⟩
                  have ht170 := Kp.tr (Dw := Dw) hk169 hA hB
                  replace hH := Hp.kp (Dw := Dw) hH hk169
                  replace h_l := Sl.tr (Dw := Dw) h_l ht170
                  replace h8 := El.tr (Dw := Dw) h8 ht170
                  replace h17 := El.tr (Dw := Dw) h17 ht170
                  replace h86 := El.tr (Dw := Dw) h86 ht170
                  replace hK := Tr.trans (Dw := Dw) hK ht170
                  replace hr42 := Tr.trans (Dw := Dw) hr42 ht170
                  replace hr68 := Tr.trans (Dw := Dw) hr68 ht170
                  replace hr153 := Tr.trans (Dw := Dw) hr153 ht170
                  replace hB := Nat.le_trans hB ht170.ex.size
                  replace hA := ht170.new
                  refine V_y (Y_pick_fe rfl hc164 rfl) rfl rfl rfl ?_
                  obtain rfl := Option.some.inj ho151
                  refine V_end (fun a ha171 => ?_)
                  exact ⟨A133, ha171.sub ⟨rfl, rfl, rfl, rfl, rfl, rfl, rfl, rfl, rfl, rfl, rfl, rfl, rfl, trivial⟩, ⟨hH, hr153⟩⟩
              rintro A157 w154 ⟨hH158, hk155⟩ a ha156
              replace h_l := Sl.tr (Dw := Dw) h_l hk155
              replace h8 := El.tr (Dw := Dw) h8 hk155
              replace h17 := El.tr (Dw := Dw) h17 hk155
              replace h86 := El.tr (Dw := Dw) h86 hk155
              replace hK := Tr.trans (Dw := Dw) hK hk155
              replace hr42 := Tr.trans (Dw := Dw) hr42 hk155
              replace hr68 := Tr.trans (Dw := Dw) hr68 hk155
              replace hB := Nat.le_trans hB hk155.ex.size
              replace hA := hk155.new
              replace hH : Hp w.heap.size A157 w154 (obS (α := staff_Breach) 32 v128 s126 :: obSM (κ := Int) (α := Int) b35 s51.2 :: []) := hH158
              refine C_at (n := ⟨148, [], none⟩) (fun _ _ => rfl) ?_ ha156
              refine C_cond rfl (fun hc172 => ?_) (fun hc172 => ?_)
              · rw [if_pos hc172] at ho66
                obtain rfl := Option.some.inj ho66
                refine C_exit (fun a ha173 => ?_)
                exact ⟨(v128, A157), ha173.sub ⟨rfl, rfl, rfl, rfl, rfl, rfl, rfl, rfl, rfl, rfl, trivial⟩, ⟨hH, hr68⟩⟩
              · rw [if_neg (nt hc172)] at ho66
                refine C_skip_to (fun _ _ => rfl) ?_
                refine C_seq ?_
                refine C_seq ?_
                refine C_region ?_
                refine V_y (Y_move rfl) rfl rfl rfl ?_
                refine V_y (Y_addI rfl rfl) rfl rfl rfl ?_
                refine V_y (Y_assign rfl) rfl rfl rfl ?_
                refine V_to (fun _ _ => rfl) ?_
                obtain ⟨o174, ho174, ho66⟩ := Option.bind_eq_some_iff.1 ho66
                refine C_cutG (ι := (((List staff_Breach) × Int) × Value × (Nat → Prop))) (fun ⟨s175, v181, A183⟩ => [(2, v_l), (3, .pointer (some ⟨b5, 0, none⟩)), (4, .pointer (some ⟨b14, 0, none⟩)), (10, v181), (11, .func (.func 24) #[] #[.pointer (some ⟨b5, 0, none⟩)]), (12, .func (.func 25) #[] #[.pointer (some ⟨b14, 0, none⟩)]), (13, .map (some b35)), (14, .int .i64 (k43 : Int)), (15, .pointer (some ⟨b81, 0, none⟩)), (35, v_l), (36, .int .i64 (l.length : Int)), (37, .int .i64 (k43 : Int))]) (fun ⟨s175, v181, A183⟩ => fun w' => o174 = .fin s175 ∧ Hp w.heap.size A183 w' (obS (α := staff_Breach) 32 v181 s175.1 :: obSM (κ := Int) (α := Int) b35 s51.2 :: []) ∧ Tr Dw w.heap.size A157 w154 A183 w') ?_ ?_
                · refine C_block ?_
                  refine C_while ho174 (fun s185 a w' => ∃ i : (Value × (Nat → Prop)), Has ⟨148, [], none⟩ a ([(2, v_l), (3, .pointer (some ⟨b5, 0, none⟩)), (4, .pointer (some ⟨b14, 0, none⟩)), (10, i.1), (11, .func (.func 24) #[] #[.pointer (some ⟨b5, 0, none⟩)]), (12, .func (.func 25) #[] #[.pointer (some ⟨b14, 0, none⟩)]), (13, .map (some b35)), (14, .int .i64 (k43 : Int)), (15, .pointer (some ⟨b81, 0, none⟩)), (16, .int .i64 s185.2), (35, v_l), (36, .int .i64 (l.length : Int)), (37, .int .i64 (k43 : Int))]) ∧ Hp w.heap.size i.2 w' (obS (α := staff_Breach) 32 i.1 s185.1 :: obSM (κ := Int) (α := Int) b35 s51.2 :: []) ∧ Tr Dw w.heap.size A157 w154 i.2 w') (fun a ha => ⟨(v128, A157), ha.sub ⟨rfl, rfl, rfl, rfl, rfl, rfl, rfl, rfl, rfl, rfl, rfl, rfl, rfl, trivial⟩, ⟨hH, Tr.refl (Dw := Dw) hA⟩⟩) ?_
                  rintro K s185 a w186 ⟨⟨v187, A189⟩, ha281, hH190, hr176⟩ K197
                  refine C_of ?_ ha281
                  replace h_l := Sl.tr (Dw := Dw) h_l hr176
                  replace h8 := El.tr (Dw := Dw) h8 hr176
                  replace h17 := El.tr (Dw := Dw) h17 hr176
                  replace h86 := El.tr (Dw := Dw) h86 hr176
                  replace hK := Tr.trans (Dw := Dw) hK hr176
                  replace hr42 := Tr.trans (Dw := Dw) hr42 hr176
                  replace hr68 := Tr.trans (Dw := Dw) hr68 hr176
                  replace hB := Nat.le_trans hB hr176.ex.size
                  replace hA := hr176.new
                  replace hH : Hp w.heap.size A189 w186 (obS (α := staff_Breach) 32 v187 s185.1 :: obSM (κ := Int) (α := Int) b35 s51.2 :: []) := hH190
                  obtain ⟨x191, h192, h193⟩ := K197
                  refine C_seq ?_
                  refine C_seq ?_
                  refine C_region ?_
                  refine V_y (Y_move rfl) rfl rfl rfl ?_
                  refine V_y (Y_move rfl) rfl rfl rfl ?_
                  refine V_y (Y_lenSl h_l rfl Try.underlying25 rfl) rfl rfl rfl ?_
                  refine V_y (Y_lss rfl rfl) rfl rfl rfl ?_
                  refine V_to (fun _ _ => rfl) ?_
                  refine C_cond rfl (fun hc198 => ?_) (fun hc198 => ?_)
                  · rw [if_pos hc198] at h192
                    refine C_skip_to (fun _ _ => rfl) ?_
                    refine C_seq ?_
                    obtain ⟨s200, ho199, h192⟩ := Option.bind_eq_some_iff.1 h192
                    refine C_cutG (ι := (Value × (Nat → Prop))) (fun ⟨v202, A207⟩ => [(2, v_l), (3, .pointer (some ⟨b5, 0, none⟩)), (4, .pointer (some ⟨b14, 0, none⟩)), (10, v202), (11, .func (.func 24) #[] #[.pointer (some ⟨b5, 0, none⟩)]), (12, .func (.func 25) #[] #[.pointer (some ⟨b14, 0, none⟩)]), (13, .map (some b35)), (14, .int .i64 (k43 : Int)), (15, .pointer (some ⟨b81, 0, none⟩)), (16, .int .i64 s185.2), (35, v_l), (36, .int .i64 (l.length : Int)), (37, .int .i64 (k43 : Int))]) (fun ⟨v202, A207⟩ => fun w' => Hp w.heap.size A207 w' (obS (α := staff_Breach) 32 v202 s200 :: obSM (κ := Int) (α := Int) b35 s51.2 :: []) ∧ Tr Dw w.heap.size A189 w186 A207 w') ?_ ?_
                    · have hr201 : Tr Dw w.heap.size A189 w186 A189 w186 := Tr.refl (Dw := Dw) hA
                      refine C_block ?_
                      refine C_seq ?_
                      refine C_region ?_
                      refine V_y (Y_move rfl) rfl rfl rfl ?_
                      refine V_y (Y_move rfl) rfl rfl rfl ?_
                      obtain ⟨x209, hx209, ho199⟩ := Option.bind_eq_some_iff.1 ho199
                      refine V_indexAddr h_l hx209 Try.underlying25 Try.sizeOf49 rfl rfl rfl ?_
                      intro b210 o211 h212
                      obtain ⟨h213, _⟩ := El_staff_Duty h212
                      refine V_y (Y_loadA h213 Try.isAgg49 Try.sizeOf49 rfl) rfl rfl rfl ?_
                      refine V_alloc Try.zeroValue49 rfl ?_
                      intro b214 w215 h216
                      refine V_storeNew h216 Try.sizeOf49 rfl rfl rfl rfl (by exact (List.forall_mem_cons.2 ⟨rfl, (List.forall_mem_cons.2 ⟨rfl, (fun _ h => nomatch h)⟩)⟩)) ?_
                      intro w217 h218
                      have hk220 := h218.kp (Dw := Dw)
                      have h219 : El (α := staff_Duty) A189 w217 b214 0 x209 := h218.el hA ⟨[.int .i64 x209.form], _, rfl, rfl, rfl⟩
                      have ht221 := Kp.tr (Dw := Dw) hk220 hA hB
                      replace hH := Hp.kp (Dw := Dw) hH hk220
                      replace h_l := Sl.tr (Dw := Dw) h_l ht221
                      replace h8 := El.tr (Dw := Dw) h8 ht221
                      replace h17 := El.tr (Dw := Dw) h17 ht221
                      replace h86 := El.tr (Dw := Dw) h86 ht221
                      replace h212 := El.tr (Dw := Dw) h212 ht221
                      replace hK := Tr.trans (Dw := Dw) hK ht221
                      replace hr42 := Tr.trans (Dw := Dw) hr42 ht221
                      replace hr68 := Tr.trans (Dw := Dw) hr68 ht221
                      replace hr176 := Tr.trans (Dw := Dw) hr176 ht221
                      replace hr201 := Tr.trans (Dw := Dw) hr201 ht221
                      replace hB := Nat.le_trans hB ht221.ex.size
                      replace hA := ht221.new
                      refine V_to (fun _ _ => rfl) ?_
                      refine C_seq ?_
                      refine C_region_q (Dw := Dw) Try_mixed (by kernel_rfl) ?_
                      refine VQ_y (fun w' hw' => Y_move rfl) rfl rfl rfl ?_
                      obtain ⟨h222, _⟩ := El_staff_Duty h219
                      refine VQ_y (fun w' hw' => Y_loadA (At.kp (Dw := Dw) h222 hw' h219.2.1) Try.isAgg49 Try.sizeOf49 rfl) rfl rfl rfl ?_
                      obtain ⟨x223, hx223, ho199⟩ := Option.bind_eq_some_iff.1 ho199
                      refine VQ_call (.bool x223) Try.call24 rfl rfl rfl rfl (fun w' hw' => (portref2_JudgeOf_1_c (Dw := Dw) w' (fun b hb => hA b (Nat.le_trans hw'.size hb)) x209 forms b5 (El.kp (Dw := Dw) h8 hw') hx223).mono (fun _ _ h => ⟨h.1, Kp.trans (Dw := Dw) hw' h.2⟩)) ?_
                      refine VQ_y (fun w' hw' => Y_not rfl) rfl rfl rfl ?_
                      refine VQ_y (fun w' hw' => Y_move rfl) rfl rfl rfl ?_
                      refine VQ_cut 6 (fun _ : Unit => [(2, v_l), (3, .pointer (some ⟨b5, 0, none⟩)), (4, .pointer (some ⟨b14, 0, none⟩)), (10, v187), (11, .func (.func 24) #[] #[.pointer (some ⟨b5, 0, none⟩)]), (12, .func (.func 25) #[] #[.pointer (some ⟨b14, 0, none⟩)]), (13, .map (some b35)), (14, .int .i64 (k43 : Int)), (15, .pointer (some ⟨b81, 0, none⟩)), (16, .int .i64 s185.2), (17, .pointer (some ⟨b214, 0, none⟩)), (35, v_l), (36, .int .i64 (l.length : Int)), (37, .int .i64 (k43 : Int)), (88, .bool ((!x223) && (x209.person == x76.person)))]) (fun _ => True) ?_ ?_
                      · simp only [List.take, List.drop]
                        rcases Bool.eq_false_or_eq_true (!x223) with hc224 | hc224
                        · refine VQ_ge rfl rfl rfl hc224 ?_
                          have h226 := El_staff_Duty_1 h219
                          refine VQ_y (fun w' hw' => Y_fieldAddr Try.underlying49 rfl Try.sizeOf3 (by decide) rfl) rfl rfl rfl ?_
                          refine VQ_ge rfl rfl rfl hc224 ?_
                          refine VQ_y (fun w' hw' => Y_load (El.int (El.kp (Dw := Dw) h226 hw')) Try.isAgg3 rfl) rfl rfl rfl ?_
                          refine VQ_ge rfl rfl rfl hc224 ?_
                          have h227 := El_staff_Duty_1 h86
                          refine VQ_y (fun w' hw' => Y_fieldAddr Try.underlying49 rfl Try.sizeOf3 (by decide) rfl) rfl rfl rfl ?_
                          refine VQ_ge rfl rfl rfl hc224 ?_
                          refine VQ_y (fun w' hw' => Y_load (El.int (El.kp (Dw := Dw) h227 hw')) Try.isAgg3 rfl) rfl rfl rfl ?_
                          refine VQ_ge rfl rfl rfl hc224 ?_
                          refine VQ_y (fun w' hw' => Y_eql rfl rfl) rfl rfl rfl ?_
                          refine VQ_y (fun _ _ => Y_pick_te rfl hc224 rfl) rfl rfl rfl ?_
                          exact VQ_end fun a ha => ⟨(), ha.sub ⟨rfl, rfl, rfl, rfl, rfl, rfl, rfl, rfl, rfl, rfl, rfl, rfl, rfl, rfl, (by rw [hc224]; rfl), trivial⟩, trivial⟩
                        · refine VQ_gn rfl rfl rfl hc224 rfl rfl rfl ?_
                          refine VQ_gn rfl rfl rfl hc224 rfl rfl rfl ?_
                          refine VQ_gn rfl rfl rfl hc224 rfl rfl rfl ?_
                          refine VQ_gn rfl rfl rfl hc224 rfl rfl rfl ?_
                          refine VQ_gn rfl rfl rfl hc224 rfl rfl rfl ?_
                          refine VQ_y (fun _ _ => Y_pick_fe rfl hc224 rfl) rfl rfl rfl ?_
                          exact VQ_end fun a ha => ⟨(), ha.sub ⟨rfl, rfl, rfl, rfl, rfl, rfl, rfl, rfl, rfl, rfl, rfl, rfl, rfl, rfl, (by rw [hc224]; rfl), trivial⟩, trivial⟩
                      simp only [List.take, List.drop]
                      rintro _ _
                      refine VQ_y (fun w' hw' => Y_move rfl) rfl rfl rfl ?_
                      obtain ⟨s229, hs229, ho199⟩ := Option.bind_eq_some_iff.1 ho199
                      refine VQ_cut 15 (fun _ : Unit => [(2, v_l), (3, .pointer (some ⟨b5, 0, none⟩)), (4, .pointer (some ⟨b14, 0, none⟩)), (10, v187), (11, .func (.func 24) #[] #[.pointer (some ⟨b5, 0, none⟩)]), (12, .func (.func 25) #[] #[.pointer (some ⟨b14, 0, none⟩)]), (13, .map (some b35)), (14, .int .i64 (k43 : Int)), (15, .pointer (some ⟨b81, 0, none⟩)), (16, .int .i64 s185.2), (35, v_l), (36, .int .i64 (l.length : Int)), (37, .int .i64 (k43 : Int)), (104, .bool s229)]) (fun _ => True) ?_ ?_
                      · simp only [List.take, List.drop]
                        rcases Bool.eq_false_or_eq_true (((!x223) && (x209.person == x76.person))) with hc228 | hc228
                        · rw [if_pos hc228] at hs229
                          refine VQ_ge rfl rfl rfl hc228 ?_
                          obtain ⟨v230, h231, h232⟩ := El.list h8
                          refine VQ_y (fun w' hw' => Y_load ((World.cell?_of_block (hw'.block _ (World.block_lt_of_cell? _ _ h231))).trans h231) Try.isAgg22 rfl) rfl rfl rfl ?_
                          refine VQ_ge rfl rfl rfl hc228 ?_
                          have h233 := El_staff_Duty_0 h86
                          refine VQ_y (fun w' hw' => Y_fieldAddr Try.underlying49 rfl Try.sizeOf3 (by decide) rfl) rfl rfl rfl ?_
                          refine VQ_ge rfl rfl rfl hc228 ?_
                          refine VQ_y (fun w' hw' => Y_load (El.int (El.kp (Dw := Dw) h233 hw')) Try.isAgg3 rfl) rfl rfl rfl ?_
                          refine VQ_ge rfl rfl rfl hc228 ?_
                          obtain ⟨x234, hx234, hs229⟩ := Option.bind_eq_some_iff.1 hs229
                          refine VQ_indexAddr h232 hx234 Try.underlying22 Try.sizeOf53 rfl rfl rfl ?_
                          intro b235 o236 h237
                          refine VQ_ge rfl rfl rfl hc228 ?_
                          obtain ⟨h238, _⟩ := El_staff_Form h237
                          refine VQ_y (fun w' hw' => Y_loadA (At.kp (Dw := Dw) h238 hw' h237.2.1) Try.isAgg53 Try.sizeOf53 rfl) rfl rfl rfl ?_
                          refine VQ_ge rfl rfl rfl hc228 ?_
                          obtain ⟨v239, h240, h241⟩ := El.list h8
                          refine VQ_y (fun w' hw' => Y_load ((World.cell?_of_block (hw'.block _ (World.block_lt_of_cell? _ _ h240))).trans h240) Try.isAgg22 rfl) rfl rfl rfl ?_
                          refine VQ_ge rfl rfl rfl hc228 ?_
                          have h242 := El_staff_Duty_0 h219
                          refine VQ_y (fun w' hw' => Y_fieldAddr Try.underlying49 rfl Try.sizeOf3 (by decide) rfl) rfl rfl rfl ?_
                          refine VQ_ge rfl rfl rfl hc228 ?_
                          refine VQ_y (fun w' hw' => Y_load (El.int (El.kp (Dw := Dw) h242 hw')) Try.isAgg3 rfl) rfl rfl rfl ?_
                          refine VQ_ge rfl rfl rfl hc228 ?_
                          obtain ⟨x243, hx243, hs229⟩ := Option.bind_eq_some_iff.1 hs229
                          refine VQ_indexAddr h241 hx243 Try.underlying22 Try.sizeOf53 rfl rfl rfl ?_
                          intro b244 o245 h246
                          refine VQ_ge rfl rfl rfl hc228 ?_
                          obtain ⟨h247, _⟩ := El_staff_Form h246
                          refine VQ_y (fun w' hw' => Y_loadA (At.kp (Dw := Dw) h247 hw' h246.2.1) Try.isAgg53 Try.sizeOf53 rfl) rfl rfl rfl ?_
                          refine VQ_ge rfl rfl rfl hc228 ?_
                          have h248 := El_staff_Rules_1 h17
                          refine VQ_y (fun w' hw' => Y_fieldAddr Try.underlying24 rfl Try.sizeOf3 (by decide) rfl) rfl rfl rfl ?_
                          refine VQ_ge rfl rfl rfl hc228 ?_
                          refine VQ_y (fun w' hw' => Y_load (El.int (El.kp (Dw := Dw) h248 hw')) Try.isAgg3 rfl) rfl rfl rfl ?_
                          refine VQ_ge rfl rfl rfl hc228 ?_
                          obtain ⟨x249, hx249, hs229⟩ := Option.bind_eq_some_iff.1 hs229
                          refine VQ_call (.bool x249) Try.call26 rfl rfl rfl rfl (fun w' hw' => (portref2_apart_c (Dw := Dw) w' (fun b hb => hA b (Nat.le_trans hw'.size hb)) x234 x243 r_.rest_ hx249).mono (fun _ _ h => ⟨h.1, Kp.trans (Dw := Dw) hw' h.2⟩)) ?_
                          refine VQ_ge rfl rfl rfl hc228 ?_
                          refine VQ_y (fun w' hw' => Y_not rfl) rfl rfl rfl ?_
                          refine VQ_y (fun _ _ => Y_pick_te rfl hc228 rfl) rfl rfl rfl ?_
                          obtain rfl := Option.some.inj hs229
                          exact VQ_end fun a ha => ⟨(), ha.sub ⟨rfl, rfl, rfl, rfl, rfl, rfl, rfl, rfl, rfl, rfl, rfl, rfl, rfl, rfl, trivial⟩, trivial⟩
                        · rw [if_neg (nt hc228)] at hs229
                          refine VQ_gn rfl rfl rfl hc228 rfl rfl rfl ?_
                          refine VQ_gn rfl rfl rfl hc228 rfl rfl rfl ?_
                          refine VQ_gn rfl rfl rfl hc228 rfl rfl rfl ?_
                          refine VQ_gn rfl rfl rfl hc228 rfl rfl rfl ?_
                          refine VQ_gn rfl rfl rfl hc228 rfl rfl rfl ?_
                          refine VQ_gn rfl rfl rfl hc228 rfl rfl rfl ?_
                          refine VQ_gn rfl rfl rfl hc228 rfl rfl rfl ?_
                          refine VQ_gn rfl rfl rfl hc228 rfl rfl rfl ?_
                          refine VQ_gn rfl rfl rfl hc228 rfl rfl rfl ?_
                          refine VQ_gn rfl rfl rfl hc228 rfl rfl rfl ?_
                          refine VQ_gn rfl rfl rfl hc228 rfl rfl rfl ?_
                          refine VQ_gn rfl rfl rfl hc228 rfl rfl rfl ?_
                          refine VQ_gn rfl rfl rfl hc228 rfl rfl rfl ?_
                          refine VQ_gn rfl rfl rfl hc228 rfl rfl rfl ?_
                          refine VQ_y (fun _ _ => Y_pick_fe rfl hc228 rfl) rfl rfl rfl ?_
                          obtain rfl := Option.some.inj hs229
                          exact VQ_end fun a ha => ⟨(), ha.sub ⟨rfl, rfl, rfl, rfl, rfl, rfl, rfl, rfl, rfl, rfl, rfl, rfl, rfl, rfl, trivial⟩, trivial⟩
                      simp only [List.take, List.drop]
                      rintro _ _
                      refine VQ_to (fun _ _ => rfl) (fun w250 hk251 => ?_)
                      have ht252 := Kp.tr (Dw := Dw) hk251 hA hB
                      replace hH := Hp.kp (Dw := Dw) hH hk251
                      replace h_l := Sl.tr (Dw := Dw) h_l ht252
                      replace h8 := El.tr (Dw := Dw) h8 ht252
                      replace h17 := El.tr (Dw := Dw) h17 ht252
                      replace h86 := El.tr (Dw := Dw) h86 ht252
                      replace hK := Tr.trans (Dw := Dw) hK ht252
                      replace hr42 := Tr.trans (Dw := Dw) hr42 ht252
                      replace hr68 := Tr.trans (Dw := Dw) hr68 ht252
                      replace hr176 := Tr.trans (Dw := Dw) hr176 ht252
                      replace hr201 := Tr.trans (Dw := Dw) hr201 ht252
                      replace hB := Nat.le_trans hB ht252.ex.size
                      replace hA := ht252.new
                      obtain ⟨s254, ho253, ho199⟩ := Option.bind_eq_some_iff.1 ho199
                      refine C_cutG (ι := (Value × (Nat → Prop))) (fun ⟨v256, A261⟩ => [(2, v_l), (3, .pointer (some ⟨b5, 0, none⟩)), (4, .pointer (some ⟨b14, 0, none⟩)), (10, v256), (11, .func (.func 24) #[] #[.pointer (some ⟨b5, 0, none⟩)]), (12, .func (.func 25) #[] #[.pointer (some ⟨b14, 0, none⟩)]), (13, .map (some b35)), (14, .int .i64 (k43 : Int)), (15, .pointer (some ⟨b81, 0, none⟩)), (16, .int .i64 s185.2), (35, v_l), (36, .int .i64 (l.length : Int)), (37, .int .i64 (k43 : Int))]) (fun ⟨v256, A261⟩ => fun w' => Hp w.heap.size A261 w' (obS (α := staff_Breach) 32 v256 s254 :: obSM (κ := Int) (α := Int) b35 s51.2 :: []) ∧ Tr Dw w.heap.size A189 w250 A261 w') ?_ ?_
                      · have hr255 : Tr Dw w.heap.size A189 w250 A189 w250 := Tr.refl (Dw := Dw) hA
                        refine C_cond rfl (fun hc263 => ?_) (fun hc263 => ?_)
                        · rw [if_pos hc263] at ho253
                          refine C_region ?_
                          refine V_y (Y_move rfl) rfl rfl rfl ?_
                          refine V_y (Y_move rfl) rfl rfl rfl ?_
                          refine V_y (Y_move rfl) rfl rfl rfl ?_
                          refine V_y (Y_build Try.underlying32 Try.zeroValue32 (Try_places32 _ Try.underlying32) rfl (by with_unfolding_all rfl)) rfl rfl rfl ?_
                          refine V_buildSlice (Dw := Dw) (cells := #[.int .i64 3, .int .i64 (k43 : Int), .int .i64 s185.2]) (l := ([(⟨3, (k43 : Int), s185.2⟩ : staff_Breach)] : List staff_Breach)) (len := 1) Try.underlying26 Try.sizeOf32 Try.zeroValue32 rfl (by generalize ((k43 : Int) : Int) = z268; kernel_rfl) (show (1 * 3 : Nat) ≠ 0 by decide) (show (1 * 3 : Nat) ≤ 2 ^ 24 by decide) hA ⟨[.int .i64 3, .int .i64 (k43 : Int), .int .i64 s185.2], _, rfl, ⟨[.int .i64 3], _, rfl, rfl, ⟨[.int .i64 (k43 : Int)], _, rfl, rfl, rfl⟩⟩, rfl⟩ rfl rfl ?_
                          intro v264 w265 hk267 h266
                          have ht269 := Kp.tr (Dw := Dw) hk267 hA hB
                          replace hH := Hp.kp (Dw := Dw) hH hk267
                          replace h_l := Sl.tr (Dw := Dw) h_l ht269
                          replace h8 := El.tr (Dw := Dw) h8 ht269
                          replace h17 := El.tr (Dw := Dw) h17 ht269
                          replace h86 := El.tr (Dw := Dw) h86 ht269
                          replace hK := Tr.trans (Dw := Dw) hK ht269
                          replace hr42 := Tr.trans (Dw := Dw) hr42 ht269
                          replace hr68 := Tr.trans (Dw := Dw) hr68 ht269
                          replace hr176 := Tr.trans (Dw := Dw) hr176 ht269
                          replace hr201 := Tr.trans (Dw := Dw) hr201 ht269
                          replace hr255 := Tr.trans (Dw := Dw) hr255 ht269
                          replace hB := Nat.le_trans hB ht269.ex.size
                          replace hA := ht269.new
                          obtain ⟨x270, hx270, ho253⟩ := Option.bind_eq_some_iff.1 ho253
                          refine V_appendH (Dw := Dw) (e := 32) (v := v187) (l := s185.1) (ti := Try.t32) (bytes := 24) (lim := 5864062014805) hH (i := 0) rfl h266 hx270 Try.underlying26 Try_info32 rfl rfl rfl rfl (by decide) (by decide) (by decide) hB hA rfl rfl rfl ?_
                          intro v271 w272 A273 hH274 ht275
                          replace h_l := Sl.tr (Dw := Dw) h_l ht275
                          replace h8 := El.tr (Dw := Dw) h8 ht275
                          replace h17 := El.tr (Dw := Dw) h17 ht275
                          replace h86 := El.tr (Dw := Dw) h86 ht275
                          replace h266 := Sl.tr (Dw := Dw) h266 ht275
                          replace hK := Tr.trans (Dw := Dw) hK ht275
                          replace hr42 := Tr.trans (Dw := Dw) hr42 ht275
                          replace hr68 := Tr.trans (Dw := Dw) hr68 ht275
                          replace hr176 := Tr.trans (Dw := Dw) hr176 ht275
                          replace hr201 := Tr.trans (Dw := Dw) hr201 ht275
                          replace hr255 := Tr.trans (Dw := Dw) hr255 ht275
                          replace hB := Nat.le_trans hB ht275.ex.size
                          replace hA := ht275.new
                          replace hH : Hp w.heap.size A273 w272 (obS (α := staff_Breach) 32 v271 x270 :: obSM (κ := Int) (α := Int) b35 s51.2 :: []) := hH274
                          refine V_y (Y_assign rfl) rfl rfl rfl ?_
                          obtain rfl := Option.some.inj ho253
                          refine V_end (fun a ha276 => ?_)
                          exact ⟨(v271, A273), ha276.sub ⟨rfl, rfl, rfl, rfl, rfl, rfl, rfl, rfl, rfl, rfl, rfl, rfl, rfl, trivial⟩, ⟨hH, hr255⟩⟩
                        · rw [if_neg (nt hc263)] at ho253
                          obtain rfl := Option.some.inj ho253
                          refine C_skip (fun a ha277 => ?_)
                          exact ⟨(v187, A189), ha277.sub ⟨rfl, rfl, rfl, rfl, rfl, rfl, rfl, rfl, rfl, rfl, rfl, rfl, rfl, trivial⟩, ⟨hH, hr255⟩⟩
                      rintro ⟨v256, A261⟩ w258 ⟨hH262, hk259⟩ a ha260
                      replace h_l := Sl.tr (Dw := Dw) h_l hk259
                      replace h8 := El.tr (Dw := Dw) h8 hk259
                      replace h17 := El.tr (Dw := Dw) h17 hk259
                      replace h86 := El.tr (Dw := Dw) h86 hk259
                      replace hK := Tr.trans (Dw := Dw) hK hk259
                      replace hr42 := Tr.trans (Dw := Dw) hr42 hk259
                      replace hr68 := Tr.trans (Dw := Dw) hr68 hk259
                      replace hr176 := Tr.trans (Dw := Dw) hr176 hk259
                      replace hr201 := Tr.trans (Dw := Dw) hr201 hk259
                      replace hB := Nat.le_trans hB hk259.ex.size
                      replace hA := hk259.new
                      replace hH : Hp w.heap.size A261 w258 (obS (α := staff_Breach) 32 v256 s254 :: obSM (κ := Int) (α := Int) b35 s51.2 :: []) := hH262
                      obtain rfl := Option.some.inj ho199
                      exact ⟨(v256, A261), ha260.sub ⟨rfl, rfl, rfl, rfl, rfl, rfl, rfl, rfl, rfl, rfl, rfl, rfl, rfl, trivial⟩, ⟨hH, hr201⟩⟩
                    rintro ⟨v202, A207⟩ w204 ⟨hH208, hk205⟩ a ha206
                    replace h_l := Sl.tr (Dw := Dw) h_l hk205
                    replace h8 := El.tr (Dw := Dw) h8 hk205
                    replace h17 := El.tr (Dw := Dw) h17 hk205
                    replace h86 := El.tr (Dw := Dw) h86 hk205
                    replace hK := Tr.trans (Dw := Dw) hK hk205
                    replace hr42 := Tr.trans (Dw := Dw) hr42 hk205
                    replace hr68 := Tr.trans (Dw := Dw) hr68 hk205
                    replace hr176 := Tr.trans (Dw := Dw) hr176 hk205
                    replace hB := Nat.le_trans hB hk205.ex.size
                    replace hA := hk205.new
                    replace hH : Hp w.heap.size A207 w204 (obS (α := staff_Breach) 32 v202 s200 :: obSM (κ := Int) (α := Int) b35 s51.2 :: []) := hH208
                    refine C_at (n := ⟨148, [], none⟩) (fun _ _ => rfl) ?_ ha206
                    refine C_region ?_
                    refine V_y (Y_move rfl) rfl rfl rfl ?_
                    refine V_y (Y_addI rfl rfl) rfl rfl rfl ?_
                    refine V_y (Y_assign rfl) rfl rfl rfl ?_
                    obtain rfl := Option.some.inj h192
                    refine V_end (fun a ha279 => ?_)
                    exact ⟨(s200, w64 (s185.2 + 1)), h193, ⟨(v202, A207), ha279.sub ⟨rfl, rfl, rfl, rfl, rfl, rfl, rfl, rfl, rfl, rfl, rfl, rfl, rfl, trivial⟩, ⟨hH, hr176⟩⟩⟩
                  · rw [if_neg (nt hc198)] at h192
                    obtain rfl := Option.some.inj h192
                    refine C_exit (fun a ha280 => ?_)
                    exact ⟨((s185.1, s185.2), v187, A189), ha280.sub ⟨rfl, rfl, rfl, rfl, rfl, rfl, rfl, rfl, rfl, rfl, rfl, rfl, trivial⟩, ⟨h193.symm, hH, hr176⟩⟩
                rintro ⟨s175, v181, A183⟩ w178 ⟨rfl, hH184, hk179⟩ a ha180
                rw [Lp.andThen_fin] at ho66
                replace h_l := Sl.tr (Dw := Dw) h_l hk179
                replace h8 := El.tr (Dw := Dw) h8 hk179
                replace h17 := El.tr (Dw := Dw) h17 hk179
                replace h86 := El.tr (Dw := Dw) h86 hk179
                replace hK := Tr.trans (Dw := Dw) hK hk179
                replace hr42 := Tr.trans (Dw := Dw) hr42 hk179
                replace hr68 := Tr.trans (Dw := Dw) hr68 hk179
                replace hB := Nat.le_trans hB hk179.ex.size
                replace hA := hk179.new
                replace hH : Hp w.heap.size A183 w178 (obS (α := staff_Breach) 32 v181 s175.1 :: obSM (κ := Int) (α := Int) b35 s51.2 :: []) := hH184
                refine C_at (n := ⟨148, [], none⟩) (fun _ _ => rfl) ?_ ha180
                refine C_seq ?_
                refine C_region ?_
                refine V_y (Y_move rfl) rfl rfl rfl ?_
                have h282 := El_staff_Duty_1 h86
                refine V_y (Y_fieldAddr Try.underlying49 rfl Try.sizeOf3 (by decide) rfl) rfl rfl rfl ?_
                refine V_y (Y_load (El.int h282) Try.isAgg3 rfl) rfl rfl rfl ?_
                refine V_y (Y_lookupS (κ := Int) (α := Int) (z := 0) (l := s51.2) hH (i := 1) rfl Try.underlying59 Try.underlying3 Try.zeroValue3 rfl rfl rfl) rfl rfl rfl ?_
                refine V_y (Y_assign rfl) rfl rfl rfl ?_
                refine V_to (fun _ _ => rfl) ?_
                refine C_seq ?_
                refine C_region_qt (Dw := Dw) 11 Try_mixed (by kernel_rfl) ?_
                simp only [List.take, List.drop]
                refine VQ_y (fun w' hw' => Y_move rfl) rfl rfl rfl ?_
                have h283 := El_staff_Duty_1 h86
                refine VQ_y (fun w' hw' => Y_fieldAddr Try.underlying49 rfl Try.sizeOf3 (by decide) rfl) rfl rfl rfl ?_
                refine VQ_y (fun w' hw' => Y_load (El.int (El.kp (Dw := Dw) h283 hw')) Try.isAgg3 rfl) rfl rfl rfl ?_
                refine VQ_y (fun w' hw' => Y_lookupS (κ := Int) (α := Int) (z := 0) (l := s51.2) (Hp.kp (Dw := Dw) hH hw') (i := 1) rfl Try.underlying59 Try.underlying3 Try.zeroValue3 rfl rfl rfl) rfl rfl rfl ?_
                obtain ⟨v284, h285, h286⟩ := El.list h8
                refine VQ_y (fun w' hw' => Y_load ((World.cell?_of_block (hw'.block _ (World.block_lt_of_cell? _ _ h285))).trans h285) Try.isAgg22 rfl) rfl rfl rfl ?_
                have h287 := El_staff_Duty_0 h86
                refine VQ_y (fun w' hw' => Y_fieldAddr Try.underlying49 rfl Try.sizeOf3 (by decide) rfl) rfl rfl rfl ?_
                refine VQ_y (fun w' hw' => Y_load (El.int (El.kp (Dw := Dw) h287 hw')) Try.isAgg3 rfl) rfl rfl rfl ?_
                obtain ⟨x288, hx288, ho66⟩ := Option.bind_eq_some_iff.1 ho66
                refine VQ_indexAddr h286 hx288 Try.underlying22 Try.sizeOf53 rfl rfl rfl ?_
                intro b289 o290 h291
                have h292 := El_staff_Form_1 h291
                refine VQ_y (fun w' hw' => Y_fieldAddr Try.underlying53 rfl Try.sizeOf3 (by decide) rfl) rfl rfl rfl ?_
                refine VQ_y (fun w' hw' => Y_load (El.int (El.kp (Dw := Dw) h292 hw')) Try.isAgg3 rfl) rfl rfl rfl ?_
                refine VQ_y (fun w' hw' => Y_addI rfl rfl) rfl rfl rfl ?_
                refine VQ_tail (fun w293 hk294 => ?_)
                try simp only [List.take, List.drop]
                have ht295 := Kp.tr (Dw := Dw) hk294 hA hB
                replace hH := Hp.kp (Dw := Dw) hH hk294
                replace h_l := Sl.tr (Dw := Dw) h_l ht295
                replace h8 := El.tr (Dw := Dw) h8 ht295
                replace h17 := El.tr (Dw := Dw) h17 ht295
                replace h86 := El.tr (Dw := Dw) h86 ht295
                replace h283 := El.tr (Dw := Dw) h283 ht295
                replace h286 := Sl.tr (Dw := Dw) h286 ht295
                replace h287 := El.tr (Dw := Dw) h287 ht295
                replace h291 := El.tr (Dw := Dw) h291 ht295
                replace h292 := El.tr (Dw := Dw) h292 ht295
                replace hK := Tr.trans (Dw := Dw) hK ht295
                replace hr42 := Tr.trans (Dw := Dw) hr42 ht295
                replace hr68 := Tr.trans (Dw := Dw) hr68 ht295
                replace hB := Nat.le_trans hB ht295.ex.size
                replace hA := ht295.new
                refine V_mapUpdateS (Dw := Dw) (κ := Int) (α := Int) (l := s51.2) (c := w64 (((mapGet s51.2 x76.person).getD 0) + x288.slots)) hH (i := 1) rfl Try.underlying59 Try.underlying3 rfl rfl rfl hB hA ?_
                intro w296 hH297 ht298
                replace h_l := Sl.tr (Dw := Dw) h_l ht298
                replace h8 := El.tr (Dw := Dw) h8 ht298
                replace h17 := El.tr (Dw := Dw) h17 ht298
                replace h86 := El.tr (Dw := Dw) h86 ht298
                replace h283 := El.tr (Dw := Dw) h283 ht298
                replace h286 := Sl.tr (Dw := Dw) h286 ht298
                replace h287 := El.tr (Dw := Dw) h287 ht298
                replace h291 := El.tr (Dw := Dw) h291 ht298
                replace h292 := El.tr (Dw := Dw) h292 ht298
                replace hK := Tr.trans (Dw := Dw) hK ht298
                replace hr42 := Tr.trans (Dw := Dw) hr42 ht298
                replace hr68 := Tr.trans (Dw := Dw) hr68 ht298
                replace hB := Nat.le_trans hB ht298.ex.size
                replace hA := ht298.new
                replace hH : Hp w.heap.size A183 w296 (obS (α := staff_Breach) 32 v181 s175.1 :: obSM (κ := Int) (α := Int) b35 (mapPut s51.2 x76.person (w64 (((mapGet s51.2 x76.person).getD 0) + x288.slots))) :: []) := hH297
                refine V_to (fun _ _ => rfl) ?_
                refine C_seq ?_
                refine C_region ?_
                refine V_y (Y_move rfl) rfl rfl rfl ?_
                have h299 := El_staff_Rules_2 h17
                refine V_y (Y_fieldAddr Try.underlying24 rfl Try.sizeOf3 (by decide) rfl) rfl rfl rfl ?_
                refine V_y (Y_load (El.int h299) Try.isAgg3 rfl) rfl rfl rfl ?_
                refine V_y (Y_leq rfl rfl) rfl rfl rfl ?_
                refine V_y (Y_move rfl) rfl rfl rfl ?_
                refine V_cut 8 (fun _ : Unit => [(2, v_l), (3, .pointer (some ⟨b5, 0, none⟩)), (4, .pointer (some ⟨b14, 0, none⟩)), (10, v181), (11, .func (.func 24) #[] #[.pointer (some ⟨b5, 0, none⟩)]), (12, .func (.func 25) #[] #[.pointer (some ⟨b14, 0, none⟩)]), (13, .map (some b35)), (14, .int .i64 (k43 : Int)), (35, v_l), (36, .int .i64 (l.length : Int)), (37, .int .i64 (k43 : Int)), (138, .bool ((decide (((mapGet s51.2 x76.person).getD 0) ≤ r_.most)) && (decide (r_.most < ((mapGet (mapPut s51.2 x76.person (w64 (((mapGet s51.2 x76.person).getD 0) + x288.slots))) x76.person).getD 0)))))]) (fun _ w' => w296 = w') ?_ ?_
                · simp only [List.take, List.drop]
                  rcases Bool.eq_false_or_eq_true (decide (((mapGet s51.2 x76.person).getD 0) ≤ r_.most)) with hc300 | hc300
                  · refine V_ge rfl rfl rfl hc300 ?_
                    refine V_y (Y_move rfl) rfl rfl rfl ?_
                    refine V_ge rfl rfl rfl hc300 ?_
                    have h302 := El_staff_Duty_1 h86
                    refine V_y (Y_fieldAddr Try.underlying49 rfl Try.sizeOf3 (by decide) rfl) rfl rfl rfl ?_
                    refine V_ge rfl rfl rfl hc300 ?_
                    refine V_y (Y_load (El.int h302) Try.isAgg3 rfl) rfl rfl rfl ?_
                    refine V_ge rfl rfl rfl hc300 ?_
                    refine V_y (Y_lookupS (κ := Int) (α := Int) (z := 0) (l := (mapPut s51.2 x76.person (w64 (((mapGet s51.2 x76.person).getD 0) + x288.slots)))) hH (i := 1) rfl Try.underlying59 Try.underlying3 Try.zeroValue3 rfl rfl rfl) rfl rfl rfl ?_
                    refine V_ge rfl rfl rfl hc300 ?_
                    have h303 := El_staff_Rules_2 h17
                    refine V_y (Y_fieldAddr Try.underlying24 rfl Try.sizeOf3 (by decide) rfl) rfl rfl rfl ?_
                    refine V_ge rfl rfl rfl hc300 ?_
                    refine V_y (Y_load (El.int h303) Try.isAgg3 rfl) rfl rfl rfl ?_
                    refine V_ge rfl rfl rfl hc300 ?_
                    refine V_y (Y_gtr rfl rfl) rfl rfl rfl ?_
                    refine V_y (Y_pick_te rfl hc300 rfl) rfl rfl rfl ?_
                    exact V_end fun a ha => ⟨(), ha.sub ⟨rfl, rfl, rfl, rfl, rfl, rfl, rfl, rfl, rfl, rfl, rfl, (by rw [hc300]; rfl), trivial⟩, rfl⟩
                  · refine V_gn rfl rfl rfl hc300 rfl rfl rfl ?_
                    refine V_gn rfl rfl rfl hc300 rfl rfl rfl ?_
                    refine V_gn rfl rfl rfl hc300 rfl rfl rfl ?_
                    refine V_gn rfl rfl rfl hc300 rfl rfl rfl ?_
                    refine V_gn rfl rfl rfl hc300 rfl rfl rfl ?_
                    refine V_gn rfl rfl rfl hc300 rfl rfl rfl ?_
                    refine V_gn rfl rfl rfl hc300 rfl rfl rfl ?_
                    refine V_y (Y_pick_fe rfl hc300 rfl) rfl rfl rfl ?_
                    exact V_end fun a ha => ⟨(), ha.sub ⟨rfl, rfl, rfl, rfl, rfl, rfl, rfl, rfl, rfl, rfl, rfl, (by rw [hc300]; rfl), trivial⟩, rfl⟩
                simp only [List.take, List.drop]
                rintro _ _ rfl
                refine V_to (fun _ _ => rfl) ?_
                obtain ⟨s305, ho304, ho66⟩ := Option.bind_eq_some_iff.1 ho66
                refine C_cutG (ι := (Value × (Nat → Prop))) (fun ⟨v307, A312⟩ => [(2, v_l), (3, .pointer (some ⟨b5, 0, none⟩)), (4, .pointer (some ⟨b14, 0, none⟩)), (10, v307), (11, .func (.func 24) #[] #[.pointer (some ⟨b5, 0, none⟩)]), (12, .func (.func 25) #[] #[.pointer (some ⟨b14, 0, none⟩)]), (13, .map (some b35)), (35, v_l), (36, .int .i64 (l.length : Int)), (37, .int .i64 (k43 : Int))]) (fun ⟨v307, A312⟩ => fun w' => Hp w.heap.size A312 w' (obS (α := staff_Breach) 32 v307 s305 :: obSM (κ := Int) (α := Int) b35 (mapPut s51.2 x76.person (w64 (((mapGet s51.2 x76.person).getD 0) + x288.slots))) :: []) ∧ Tr Dw w.heap.size A183 w296 A312 w') ?_ ?_
                · have hr306 : Tr Dw w.heap.size A183 w296 A183 w296 := Tr.refl (Dw := Dw) hA
                  refine C_cond rfl (fun hc314 => ?_) (fun hc314 => ?_)
                  · rw [if_pos hc314] at ho304
                    refine C_region ?_
                    refine V_y (Y_move rfl) rfl rfl rfl ?_
                    refine V_y (Y_move rfl) rfl rfl rfl ?_
                    refine V_y (Y_build Try.underlying32 Try.zeroValue32 (Try_places32 _ Try.underlying32) rfl (by with_unfolding_all rfl)) rfl rfl rfl ?_
                    refine V_buildSlice (Dw := Dw) (cells := #[.int .i64 4, .int .i64 (k43 : Int), .int .i64 (-1)]) (l := ([(⟨4, (k43 : Int), (-1)⟩ : staff_Breach)] : List staff_Breach)) (len := 1) Try.underlying26 Try.sizeOf32 Try.zeroValue32 rfl (by generalize ((k43 : Int) : Int) = z319; generalize ((-1) : Int) = z320; kernel_rfl) (show (1 * 3 : Nat) ≠ 0 by decide) (show (1 * 3 : Nat) ≤ 2 ^ 24 by decide) hA ⟨[.int .i64 4, .int .i64 (k43 : Int), .int .i64 (-1)], _, rfl, ⟨[.int .i64 4], _, rfl, rfl, ⟨[.int .i64 (k43 : Int)], _, rfl, rfl, rfl⟩⟩, rfl⟩ rfl rfl ?_
                    intro v315 w316 hk318 h317
                    have ht321 := Kp.tr (Dw := Dw) hk318 hA hB
                    replace hH := Hp.kp (Dw := Dw) hH hk318
                    replace h_l := Sl.tr (Dw := Dw) h_l ht321
                    replace h8 := El.tr (Dw := Dw) h8 ht321
                    replace h17 := El.tr (Dw := Dw) h17 ht321
                    replace hK := Tr.trans (Dw := Dw) hK ht321
                    replace hr42 := Tr.trans (Dw := Dw) hr42 ht321
                    replace hr68 := Tr.trans (Dw := Dw) hr68 ht321
                    replace hr306 := Tr.trans (Dw := Dw) hr306 ht321
                    replace hB := Nat.le_trans hB ht321.ex.size
                    replace hA := ht321.new
                    obtain ⟨x322, hx322, ho304⟩ := Option.bind_eq_some_iff.1 ho304
                    refine V_appendH (Dw := Dw) (e := 32) (v := v181) (l := s175.1) (ti := Try.t32) (bytes := 24) (lim := 5864062014805) hH (i := 0) rfl h317 hx322 Try.underlying26 Try_info32 rfl rfl rfl rfl (by decide) (by decide) (by decide) hB hA rfl rfl rfl ?_
                    intro v323 w324 A325 hH326 ht327
                    replace h_l := Sl.tr (Dw := Dw) h_l ht327
                    replace h8 := El.tr (Dw := Dw) h8 ht327
                    replace h17 := El.tr (Dw := Dw) h17 ht327
                    replace h317 := Sl.tr (Dw := Dw) h317 ht327
                    replace hK := Tr.trans (Dw := Dw) hK ht327
                    replace hr42 := Tr.trans (Dw := Dw) hr42 ht327
                    replace hr68 := Tr.trans (Dw := Dw) hr68 ht327
                    replace hr306 := Tr.trans (Dw := Dw) hr306 ht327
                    replace hB := Nat.le_trans hB ht327.ex.size
                    replace hA := ht327.new
                    replace hH : Hp w.heap.size A325 w324 (obS (α := staff_Breach) 32 v323 x322 :: obSM (κ := Int) (α := Int) b35 (mapPut s51.2 x76.person (w64 (((mapGet s51.2 x76.person).getD 0) + x288.slots))) :: []) := hH326
                    refine V_y (Y_assign rfl) rfl rfl rfl ?_
                    obtain rfl := Option.some.inj ho304
                    refine V_end (fun a ha328 => ?_)
                    exact ⟨(v323, A325), ha328.sub ⟨rfl, rfl, rfl, rfl, rfl, rfl, rfl, rfl, rfl, rfl, trivial⟩, ⟨hH, hr306⟩⟩
                  · rw [if_neg (nt hc314)] at ho304
                    obtain rfl := Option.some.inj ho304
                    refine C_skip (fun a ha329 => ?_)
                    exact ⟨(v181, A183), ha329.sub ⟨rfl, rfl, rfl, rfl, rfl, rfl, rfl, rfl, rfl, rfl, trivial⟩, ⟨hH, hr306⟩⟩
                rintro ⟨v307, A312⟩ w309 ⟨hH313, hk310⟩ a ha311
                replace h_l := Sl.tr (Dw := Dw) h_l hk310
                replace h8 := El.tr (Dw := Dw) h8 hk310
                replace h17 := El.tr (Dw := Dw) h17 hk310
                replace hK := Tr.trans (Dw := Dw) hK hk310
                replace hr42 := Tr.trans (Dw := Dw) hr42 hk310
                replace hr68 := Tr.trans (Dw := Dw) hr68 hk310
                replace hB := Nat.le_trans hB hk310.ex.size
                replace hA := hk310.new
                replace hH : Hp w.heap.size A312 w309 (obS (α := staff_Breach) 32 v307 s305 :: obSM (κ := Int) (α := Int) b35 (mapPut s51.2 x76.person (w64 (((mapGet s51.2 x76.person).getD 0) + x288.slots))) :: []) := hH313
                obtain rfl := Option.some.inj ho66
                exact ⟨(v307, A312), ha311.sub ⟨rfl, rfl, rfl, rfl, rfl, rfl, rfl, rfl, rfl, rfl, trivial⟩, ⟨hH, hr68⟩⟩
            rintro ⟨v69, A74⟩ w71 ⟨hH75, hk72⟩ a ha73
            replace h_l := Sl.tr (Dw := Dw) h_l hk72
            replace h8 := El.tr (Dw := Dw) h8 hk72
            replace h17 := El.tr (Dw := Dw) h17 hk72
            replace hK := Tr.trans (Dw := Dw) hK hk72
            replace hr42 := Tr.trans (Dw := Dw) hr42 hk72
            replace hB := Nat.le_trans hB hk72.ex.size
            replace hA := hk72.new
            replace hH : Hp w.heap.size A74 w71 (obS (α := staff_Breach) 32 v69 s67.1 :: obSM (κ := Int) (α := Int) b35 s67.2 :: []) := hH75
            refine C_at (n := ⟨148, [], none⟩) (fun _ _ => rfl) ?_ ha73
            refine C_region ?_
            refine V_y (Y_addI rfl rfl) rfl rfl rfl ?_
            refine V_y (Y_move rfl) rfl rfl rfl ?_
            obtain rfl := Option.some.inj h58
            refine V_end (fun a ha331 => ?_)
            exact ⟨(s67.1, s67.2), hlt61, h59, ⟨(v69, A74), ha331.sub ⟨rfl, rfl, rfl, rfl, rfl, rfl, rfl, rfl, rfl, (congrArg (fun z => some (Value.int .i64 z)) (w64_succ hlt61 hn64)), trivial⟩, ⟨hH, hr42⟩⟩⟩
          · refine C_exit (fun a ha332 => ?_)
            exact ⟨((s51.1, s51.2), v53, A55), ha332.sub ⟨rfl, trivial⟩, ⟨(h62 (eq_of_dec hle60 hc65)).symm, hH, hr42⟩⟩
        rintro ⟨s41, v47, A49⟩ w44 ⟨rfl, hH50, hk45⟩ a ha46
        rw [Lp.andThen_fin] at hm
        replace hK := Tr.trans (Dw := Dw) hK hk45
        replace hB := Nat.le_trans hB hk45.ex.size
        replace hA := hk45.new
        replace hH : Hp w.heap.size A49 w44 (obS (α := staff_Breach) 32 v47 s41.1 :: obSM (κ := Int) (α := Int) b35 s41.2 :: []) := hH50
        refine C_at (n := ⟨148, [], none⟩) (fun _ _ => rfl) ?_ ha46
        refine C_seq ?_
        refine C_region ?_
        refine V_y (Y_move rfl) rfl rfl rfl ?_
        obtain ⟨x334, hx334, hm⟩ := Option.bind_eq_some_iff.1 hm
        refine V_call Try.call18 rfl rfl rfl rfl (Try_sf18 (Dw := Dw) Try.call27 (fun w340 ht341 h342 p344 q347 c345 c348 c350 h346 h349 h343 => by obtain ⟨rfl, _⟩ := Rep_staff_Breach h346; obtain ⟨rfl, _⟩ := Rep_staff_Breach h349; exact (portref2_JudgeOf_3_c (Dw := True) w340 h342 p344 q347 h343).mono fun _ _ h => ⟨h.1, h.2⟩) hH (i := 0) rfl hB hA hx334) ?_
        rintro _ w335 ⟨rfl, hH336, ht337⟩
        replace hK := Tr.trans (Dw := Dw) hK ht337
        replace hB := Nat.le_trans hB ht337.ex.size
        replace hA := ht337.new
        replace hH : Hp w.heap.size A49 w335 (obS (α := staff_Breach) 32 v47 x334 :: obSM (κ := Int) (α := Int) b35 s41.2 :: []) := hH336
        refine V_to (fun _ _ => rfl) ?_
        refine C_seq ?_
        refine C_region ?_
        refine V_y (Y_move rfl) rfl rfl rfl ?_
        refine V_y (Y_assign rfl) rfl rfl rfl ?_
        refine V_y (Y_assign rfl) rfl rfl rfl ?_
        refine V_to (fun _ _ => rfl) ?_
        obtain rfl := Option.some.inj hm
        refine C_ret ?_
        try simp only [↓inBlock_ret, ↓then_ret]
        exact retQ rfl (Res.two Try.results6 rfl rfl) ⟨v47, rfl, (Hp.ownd hH (i := 0) rfl), hK.kp⟩

set_option maxRecDepth 4000 in
set_option maxHeartbeats 4000000 in
theorem slices_Equal_Lstaff_Breach_staff_Breach_c (w : World) {A : Nat → Prop} (hA : ∀ b, w.heap.size ≤ b → A b) (s1 : (List staff_Breach)) (v_s1 : Value) (h_s1 : Sl A w v_s1 s1) (s2 : (List staff_Breach)) (v_s2 : Value) (h_s2 : Sl A w v_s2 s2) {r : Bool} (hm : slices_Equal_Lstaff_Breach_staff_Breach s1 s2 = some r) : Ret Try.prog 7 #[v_s1, v_s2] w fun v w' => v = .bool r ∧ Kp Dw w w' := by
  unfold slices_Equal_Lstaff_Breach_staff_Breach at hm
  refine enter Try.func7 rfl Try.ntmps7 rfl ?_
  have hA0 := hA
  have hB := Nat.le_refl w.heap.size
  have hK : Tr Dw w.heap.size A w A w := Tr.refl (Dw := Dw) hA
  have hH : Hp w.heap.size A w [] := Hp.nil
  refine C_seq ?_
  refine C_region ?_
  refine V_y (Y_assign rfl) rfl rfl rfl ?_
  refine V_to (fun _ _ => rfl) ?_
  refine C_seq ?_
  refine C_seq ?_
  refine C_region ?_
  refine V_y (Y_move rfl) rfl rfl rfl ?_
  refine V_y (Y_lenSl h_s1 rfl Try.underlying26 rfl) rfl rfl rfl ?_
  refine V_y (Y_move rfl) rfl rfl rfl ?_
  refine V_y (Y_lenSl h_s2 rfl Try.underlying26 rfl) rfl rfl rfl ?_
  refine V_y (Y_neq rfl rfl) rfl rfl rfl ?_
  refine V_to (fun _ _ => rfl) ?_
  refine C_cond rfl (fun hc5 => ?_) (fun hc5 => ?_)
  · rw [if_pos hc5] at hm
    refine C_seq ?_
    refine C_region ?_
    refine V_y (Y_assign rfl) rfl rfl rfl ?_
    refine V_to (fun _ _ => rfl) ?_
    obtain rfl := Option.some.inj hm
    refine C_ret ?_
    try simp only [↓inBlock_ret, ↓then_ret]
    exact retQ rfl (Res.one Try.results7 rfl) ⟨rfl, hK.kp⟩
  · rw [if_neg (nt hc5)] at hm
    refine C_skip_to (fun _ _ => rfl) ?_
    refine C_seq ?_
    refine C_seq ?_
    refine C_region ?_
    refine V_y (Y_move rfl) rfl rfl rfl ?_
    refine V_y (Y_lenSl h_s1 rfl Try.underlying26 rfl) rfl rfl rfl ?_
    refine V_y (Y_move rfl) rfl rfl rfl ?_
    refine V_to (fun _ _ => rfl) ?_
    have hn27 := Sl.le h_s1
    obtain ⟨o6, ho6, hm⟩ := Option.bind_eq_some_iff.1 hm
    refine C_cutG (ι := (Unit × (Nat → Prop))) (fun ⟨s7, A13⟩ => []) (fun ⟨s7, A13⟩ => fun w' => o6 = .fin s7 ∧ Hp w.heap.size A13 w' ([]) ∧ Tr Dw w.heap.size A w A13 w') ?_ ?_
    · refine C_block ?_
      refine C_range ho6 (fun k9 _ a w' => ∃ i : (Nat → Prop), Has ⟨26, [], none⟩ a ([(0, v_s1), (1, v_s2), (12, .int .i64 (s1.length : Int)), (13, .int .i64 (k9 : Int))]) ∧ Hp w.heap.size i w' ([]) ∧ Tr Dw w.heap.size A w i w') (fun a ha => ⟨A, ha.sub ⟨rfl, rfl, rfl, rfl, trivial⟩, ⟨hH, Tr.refl (Dw := Dw) hA⟩⟩) ?_
      rintro K k9 _ a w17 ⟨A18, ha45, hH19, hr8⟩ hle23 K26 h25
      refine C_of ?_ ha45
      replace h_s1 := Sl.tr (Dw := Dw) h_s1 hr8
      replace h_s2 := Sl.tr (Dw := Dw) h_s2 hr8
      replace hK := Tr.trans (Dw := Dw) hK hr8
      replace hB := Nat.le_trans hB hr8.ex.size
      replace hA := hr8.new
      replace hH : Hp w.heap.size A18 w17 ([]) := hH19
      refine C_seq (C_region (V_y (Y_lss rfl rfl) rfl rfl rfl (V_to (fun _ _ => rfl) ?_)))
      refine C_seq ?_
      refine C_cond rfl (fun hc28 => ?_) (fun hc28 => ?_)
      · have hlt24 := lt_of_dec hc28
        obtain ⟨x20, h21, h22⟩ := K26 hlt24
        refine C_skip_to (fun _ _ => rfl) ?_
        refine C_seq ?_
        refine C_block ?_
        refine C_seq ?_
        refine C_region ?_
        refine V_y (Y_move rfl) rfl rfl rfl ?_
        refine V_y (Y_assign rfl) rfl rfl rfl ?_
        refine V_to (fun _ _ => rfl) ?_
        refine C_seq ?_
        refine C_region_q (Dw := Dw) Try_mixed (by kernel_rfl) ?_
        refine VQ_y (fun w' hw' => Y_move rfl) rfl rfl rfl ?_
        refine VQ_y (fun w' hw' => Y_move rfl) rfl rfl rfl ?_
        obtain ⟨x29, hx29, h21⟩ := Option.bind_eq_some_iff.1 h21
        refine VQ_indexAddr h_s1 hx29 Try.underlying26 Try.sizeOf32 rfl rfl rfl ?_
        intro b30 o31 h32
        obtain ⟨h33, _⟩ := El_staff_Breach h32
        refine VQ_y (fun w' hw' => Y_loadA (At.kp (Dw := Dw) h33 hw' h32.2.1) Try.isAgg32 Try.sizeOf32 rfl) rfl rfl rfl ?_
        refine VQ_y (fun w' hw' => Y_move rfl) rfl rfl rfl ?_
        refine VQ_y (fun w' hw' => Y_move rfl) rfl rfl rfl ?_
        obtain ⟨x34, hx34, h21⟩ := Option.bind_eq_some_iff.1 h21
        refine VQ_indexAddr h_s2 hx34 Try.underlying26 Try.sizeOf32 rfl rfl rfl ?_
        intro b35 o36 h37
        obtain ⟨h38, _⟩ := El_staff_Breach h37
        refine VQ_y (fun w' hw' => Y_loadA (At.kp (Dw := Dw) h38 hw' h37.2.1) Try.isAgg32 Try.sizeOf32 rfl) rfl rfl rfl ?_
        refine VQ_y (fun w' hw' => Y_neqA (fun w => Try_eqt32_10000 x29.kind x29.first x29.second x34.kind x34.first x34.second w) Try_eqg32 rfl rfl) rfl rfl rfl ?_
        refine VQ_to (fun _ _ => rfl) (fun w39 hk40 => ?_)
        have ht41 := Kp.tr (Dw := Dw) hk40 hA hB
        replace hH := Hp.kp (Dw := Dw) hH hk40
        replace h_s1 := Sl.tr (Dw := Dw) h_s1 ht41
        replace h_s2 := Sl.tr (Dw := Dw) h_s2 ht41
        replace hK := Tr.trans (Dw := Dw) hK ht41
        replace hr8 := Tr.trans (Dw := Dw) hr8 ht41
        replace hB := Nat.le_trans hB ht41.ex.size
        replace hA := ht41.new
        refine C_cond rfl (fun hc42 => ?_) (fun hc42 => ?_)
        · rw [if_pos hc42] at h21
          refine C_seq ?_
          refine C_region ?_
          refine V_y (Y_assign rfl) rfl rfl rfl ?_
          refine V_to (fun _ _ => rfl) ?_
          obtain rfl := Option.some.inj h21
          obtain rfl := (h22 : Lp.rt _ = _)
          rw [Lp.andThen_rt] at hm
          obtain rfl := Option.some.inj hm
          refine C_ret ?_
          try simp only [↓inBlock_ret, ↓then_ret]
          exact retQ rfl (Res.one Try.results7 rfl) ⟨rfl, hK.kp⟩
        · rw [if_neg (nt hc42)] at h21
          refine C_skip_to (fun _ _ => rfl) ?_
          refine C_region ?_
          refine V_y (Y_addI rfl rfl) rfl rfl rfl ?_
          refine V_y (Y_move rfl) rfl rfl rfl ?_
          obtain rfl := Option.some.inj h21
          refine V_end (fun a ha43 => ?_)
          exact ⟨(), hlt24, h22, ⟨A18, ha43.sub ⟨rfl, rfl, rfl, (congrArg (fun z => some (Value.int .i64 z)) (w64_succ hlt24 hn27)), trivial⟩, ⟨hH, hr8⟩⟩⟩
      · refine C_exit (fun a ha44 => ?_)
        exact ⟨((), A18), ha44.sub trivial, ⟨(h25 (eq_of_dec hle23 hc28)).symm, hH, hr8⟩⟩
    rintro ⟨s7, A13⟩ w10 ⟨rfl, hH14, hk11⟩ a ha12
    rw [Lp.andThen_fin] at hm
    replace hK := Tr.trans (Dw := Dw) hK hk11
    replace hB := Nat.le_trans hB hk11.ex.size
    replace hA := hk11.new
    replace hH : Hp w.heap.size A13 w10 ([]) := hH14
    refine C_at (n := ⟨26, [], none⟩) (fun _ _ => rfl) ?_ ha12
    refine C_seq ?_
    refine C_region ?_
    refine V_y (Y_assign rfl) rfl rfl rfl ?_
    refine V_to (fun _ _ => rfl) ?_
    obtain rfl := Option.some.inj hm
    refine C_ret ?_
    try simp only [↓inBlock_ret, ↓then_ret]
    exact retQ rfl (Res.one Try.results7 rfl) ⟨rfl, hK.kp⟩

set_option maxRecDepth 4000 in
set_option maxHeartbeats 4000000 in
theorem portlaw2_RosterJudges_c (w : World) {A : Nat → Prop} (hA : ∀ b, w.heap.size ≤ b → A b) (forms : (List staff_Form)) (v_forms : Value) (h_forms : Sl A w v_forms forms) (r_ : staff_Rules) (l : (List staff_Duty)) (v_l : Value) (h_l : Sl A w v_l l) {r : Bool} (hm : portlaw2_RosterJudges forms r_ l = some r) : Ret Try.prog 3 #[v_forms, .agg #[.int .i64 r_.people, .int .i64 r_.rest_, .int .i64 r_.most], v_l] w fun v w' => v = .bool r ∧ Kp Dw w w' := by
  unfold portlaw2_RosterJudges at hm
  refine enter Try.func3 rfl Try.ntmps3 rfl ?_
  have hA0 := hA
  have hB := Nat.le_refl w.heap.size
  have hK : Tr Dw w.heap.size A w A w := Tr.refl (Dw := Dw) hA
  have hH : Hp w.heap.size A w [] := Hp.nil
  refine C_seq ?_
  refine C_region ?_
  refine V_box rfl rfl ?_
  intro b5 w6 h7
  have hk9 := h7.kp (Dw := Dw)
  have h8 : El (α := staff_Rules) A w6 b5 0 r_ := h7.el hA ⟨[.int .i64 r_.people], _, rfl, rfl, ⟨[.int .i64 r_.rest_], _, rfl, rfl, rfl⟩⟩
  have ht10 := Kp.tr (Dw := Dw) hk9 hA hB
  replace hH := Hp.kp (Dw := Dw) hH hk9
  replace h_forms := Sl.tr (Dw := Dw) h_forms ht10
  replace h_l := Sl.tr (Dw := Dw) h_l ht10
  replace hK := Tr.trans (Dw := Dw) hK ht10
  replace hB := Nat.le_trans hB ht10.ex.size
  replace hA := ht10.new
  refine V_y (Y_assign rfl) rfl rfl rfl ?_
  refine V_to (fun _ _ => rfl) ?_
  refine C_seq ?_
  refine C_region ?_
  refine V_y (Y_move rfl) rfl rfl rfl ?_
  obtain ⟨h11, _⟩ := El_staff_Rules h8
  refine V_y (Y_loadA h11 Try.isAgg24 Try.sizeOf24 rfl) rfl rfl rfl ?_
  refine V_y (Y_move rfl) rfl rfl rfl ?_
  obtain ⟨x12, hx12, hm⟩ := Option.bind_eq_some_iff.1 hm
  refine V_call Try.call5 rfl rfl rfl rfl (staff_Judge_c (Dw := Dw) w6 hA forms v_forms h_forms r_ l v_l h_l hx12) ?_
  rintro _ w15 ⟨v13, rfl, h14, hk16⟩
  obtain ⟨A17, ht18, hH19⟩ := Hp.addOwnd (Dw := Dw) hH hB hA hk16 h14
  replace h_forms := Sl.tr (Dw := Dw) h_forms ht18
  replace h_l := Sl.tr (Dw := Dw) h_l ht18
  replace h8 := El.tr (Dw := Dw) h8 ht18
  replace hK := Tr.trans (Dw := Dw) hK ht18
  replace hB := Nat.le_trans hB ht18.ex.size
  replace hA := ht18.new
  replace hH : Hp w.heap.size A17 w15 (obS (α := staff_Breach) 32 v13 x12.1 :: []) := hH19
  refine V_y (Y_move rfl) rfl rfl rfl ?_
  refine V_y (Y_extract rfl rfl) rfl rfl rfl ?_
  refine V_y (Y_extract rfl rfl) rfl rfl rfl ?_
  refine V_y (Y_assign rfl) rfl rfl rfl ?_
  refine V_y (Y_assign rfl) rfl rfl rfl ?_
  refine V_to (fun _ _ => rfl) ?_
  refine C_seq ?_
  refine C_region ?_
  refine V_y (Y_move rfl) rfl rfl rfl ?_
  obtain ⟨h20, _⟩ := El_staff_Rules h8
  refine V_y (Y_loadA h20 Try.isAgg24 Try.sizeOf24 rfl) rfl rfl rfl ?_
  refine V_y (Y_move rfl) rfl rfl rfl ?_
  obtain ⟨x21, hx21, hm⟩ := Option.bind_eq_some_iff.1 hm
  refine V_call Try.call6 rfl rfl rfl rfl (portref2_JudgeOf_c (Dw := Dw) w15 hA forms v_forms h_forms r_ l v_l h_l hx21) ?_
  rintro _ w24 ⟨v22, rfl, h23, hk25⟩
  obtain ⟨A26, ht27, hH28⟩ := Hp.addOwnd (Dw := Dw) hH hB hA hk25 h23
  replace h_forms := Sl.tr (Dw := Dw) h_forms ht27
  replace h_l := Sl.tr (Dw := Dw) h_l ht27
  replace h8 := El.tr (Dw := Dw) h8 ht27
  replace hK := Tr.trans (Dw := Dw) hK ht27
  replace hB := Nat.le_trans hB ht27.ex.size
  replace hA := ht27.new
  replace hH : Hp w.heap.size A26 w24 (obS (α := staff_Breach) 32 v22 x21.1 :: obS (α := staff_Breach) 32 v13 x12.1 :: []) := hH28
  refine V_y (Y_move rfl) rfl rfl rfl ?_
  refine V_y (Y_extract rfl rfl) rfl rfl rfl ?_
  refine V_y (Y_extract rfl rfl) rfl rfl rfl ?_
  refine V_y (Y_assign rfl) rfl rfl rfl ?_
  refine V_y (Y_assign rfl) rfl rfl rfl ?_
  refine V_to (fun _ _ => rfl) ?_
  refine C_seq ?_
  obtain ⟨s30, ho29, hm⟩ := Option.bind_eq_some_iff.1 hm
  refine C_cutG (ι := (Nat → Prop)) (fun (A36 : (Nat → Prop)) => [(6, .bool s30)]) (fun (A36 : (Nat → Prop)) => fun w' => Hp w.heap.size A36 w' (obS (α := staff_Breach) 32 v22 x21.1 :: obS (α := staff_Breach) 32 v13 x12.1 :: []) ∧ Tr Dw w.heap.size A26 w24 A36 w') ?_ ?_
  · have hr31 : Tr Dw w.heap.size A26 w24 A26 w24 := Tr.refl (Dw := Dw) hA
    refine C_region ?_
    refine V_y (Y_move rfl) rfl rfl rfl ?_
    refine V_y (Y_move rfl) rfl rfl rfl ?_
    refine V_y (Y_eql rfl rfl) rfl rfl rfl ?_
    refine V_y (Y_move rfl) rfl rfl rfl ?_
    rcases Bool.eq_false_or_eq_true (x12.2 == x21.2) with hc38 | hc38
    · rw [if_pos hc38] at ho29
      refine V_ge rfl rfl rfl hc38 ?_
      refine V_y (Y_move rfl) rfl rfl rfl ?_
      refine V_ge rfl rfl rfl hc38 ?_
      refine V_y (Y_move rfl) rfl rfl rfl ?_
      refine V_ge rfl rfl rfl hc38 ?_
      obtain ⟨x39, hx39, ho29⟩ := Option.bind_eq_some_iff.1 ho29
      refine V_call Try.call7 rfl rfl rfl rfl (slices_Equal_Lstaff_Breach_staff_Breach_c (Dw := Dw) w24 (A := fun _ => True) (fun _ _ => trivial) x12.1 v13 (Hp.any (α := staff_Breach) (e := 32) (v := v13) (l := x12.1) hH (i := 1) rfl) x21.1 v22 (Hp.any (α := staff_Breach) (e := 32) (v := v22) (l := x21.1) hH (i := 0) rfl) hx39) ?_
      rintro _ w40 ⟨rfl, hk41⟩
      have ht42 := Kp.tr (Dw := Dw) hk41 hA hB
      replace hH := Hp.kp (Dw := Dw) hH hk41
      replace hK := Tr.trans (Dw := Dw) hK ht42
      replace hr31 := Tr.trans (Dw := Dw) hr31 ht42
      replace hB := Nat.le_trans hB ht42.ex.size
      replace hA := ht42.new
      refine V_y (Y_pick_te rfl hc38 rfl) rfl rfl rfl ?_
      refine V_y (Y_assign rfl) rfl rfl rfl ?_
      obtain rfl := Option.some.inj ho29
      refine V_end (fun a ha43 => ?_)
      exact ⟨A26, ha43.sub ⟨rfl, trivial⟩, ⟨hH, hr31⟩⟩
    · rw [if_neg (nt hc38)] at ho29
      refine V_gn rfl rfl rfl hc38 rfl rfl rfl ?_
      refine V_gn rfl rfl rfl hc38 rfl rfl rfl ?_
      refine V_gn rfl rfl rfl hc38 rfl rfl rfl ?_
      refine V_y (Y_pick_fe rfl hc38 rfl) rfl rfl rfl ?_
      refine V_y (Y_assign rfl) rfl rfl rfl ?_
      obtain rfl := Option.some.inj ho29
      refine V_end (fun a ha44 => ?_)
      exact ⟨A26, ha44.sub ⟨rfl, trivial⟩, ⟨hH, hr31⟩⟩
  rintro A36 w33 ⟨hH37, hk34⟩ a ha35
  replace hK := Tr.trans (Dw := Dw) hK hk34
  replace hB := Nat.le_trans hB hk34.ex.size
  replace hA := hk34.new
  replace hH : Hp w.heap.size A36 w33 (obS (α := staff_Breach) 32 v22 x21.1 :: obS (α := staff_Breach) 32 v13 x12.1 :: []) := hH37
  refine C_at (n := ⟨33, [], none⟩) (fun _ _ => rfl) ?_ ha35
  obtain rfl := Option.some.inj hm
  refine C_ret ?_
  try simp only [↓inBlock_ret, ↓then_ret]
  exact retQ rfl (Res.one Try.results3 rfl) ⟨rfl, hK.kp⟩

end Go.Proofs.Ytcfhifbmjjhhdaa.W
