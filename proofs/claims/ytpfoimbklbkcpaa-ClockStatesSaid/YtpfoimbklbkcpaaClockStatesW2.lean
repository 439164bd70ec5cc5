/-
  Written by program (gen.py) from the IR of the dump: each function computes its model.
-/
import Derived.Test.YtpfoimbklbkcpaaClockStatesW1
namespace Go.Proofs.Ytpfoimbklbkcpaa.W
open Go Go.RowKit Go.Pu Go.Gw Go.Proofs Go.Proofs.Ytpfoimbklbkcpaa.M
set_option linter.unusedVariables false
set_option linter.unusedSimpArgs false

set_option maxRecDepth 4000 in
set_option maxHeartbeats 4000000 in
theorem level_elapsed_c (w : World) {A : Nat → Prop} (hA : ∀ b, w.heap.size ≤ b → A b) (c : level_Clock) (v_c : Value) (h_c : Sl A w v_c c.pieces) (cals : (List cal_Calendar)) (v_cals : Value) (h_cals : Sl A w v_cals cals) (m : Int) {r : Int} (hm : level_elapsed c cals m = some r) : Ret Try.prog 39 #[.agg #[.int .i64 c.kind, .int .i64 c.level, .int .i64 c.minutes, .int .i64 c.start, .int .i64 c.stop, .int .i64 c.end_, v_c], v_cals, .int .i64 m] w fun v w' => v = .int .i64 r ∧ Kp w w' := by
  unfold level_elapsed at hm
  refine enter Try.func39 rfl Try.ntmps39 rfl ?_
  have hA0 := hA
  have hB := Nat.le_refl w.heap.size
  have hK : Tr w.heap.size A w A w := Tr.refl hA
  have hH : Hp w.heap.size A w [] := Hp.nil
  refine C_seq ?_
  refine C_region ?_
  refine V_box rfl rfl ?_
  intro b5 w6 h7
  have hk9 := h7.kp
  have h8 : El (α := level_Clock) A w6 b5 0 c := h7.el hA ⟨[.int .i64 c.kind], _, rfl, rfl, ⟨[.int .i64 c.level], _, rfl, rfl, ⟨[.int .i64 c.minutes], _, rfl, rfl, ⟨[.int .i64 c.start], _, rfl, rfl, ⟨[.int .i64 c.stop], _, rfl, rfl, ⟨[.int .i64 c.end_], _, rfl, rfl, ⟨_, rfl, h_c⟩⟩⟩⟩⟩⟩⟩
  have ht10 := Kp.tr hk9 hA hB
  replace hH := Hp.kp hH hk9
  replace h_c := Sl.tr h_c ht10
  replace h_cals := Sl.tr h_cals ht10
  replace hK := Tr.trans hK ht10
  replace hB := Nat.le_trans hB ht10.ex.size
  replace hA := ht10.new
  refine V_y (Y_assign rfl) rfl rfl rfl ?_
  refine V_to (fun _ _ => rfl) ?_
  refine C_seq ?_
  refine C_region ?_
  refine V_y (Y_assign rfl) rfl rfl rfl ?_
  refine V_to (fun _ _ => rfl) ?_
  refine C_seq ?_
  refine C_seq ?_
  refine C_region ?_
  have h11 := El_level_Clock_6 h8
  refine V_y (Y_fieldAddr Try.underlying35 rfl Try.sizeOf33 (by decide) rfl) rfl rfl rfl ?_
  obtain ⟨v12, h13, h14⟩ := El.list h11
  refine V_y (Y_load h13 Try.isAgg33 rfl) rfl rfl rfl ?_
  refine V_y (Y_lenSl h14 rfl Try.underlying33 rfl) rfl rfl rfl ?_
  refine V_y (Y_move rfl) rfl rfl rfl ?_
  refine V_to (fun _ _ => rfl) ?_
  have hn35 := Sl.le h14
  obtain ⟨o15, ho15, hm⟩ := Option.bind_eq_some_iff.1 hm
  refine C_cutG (ι := (Int × (Nat → Prop))) (fun ⟨s16, A22⟩ => [(7, .int .i64 s16)]) (fun ⟨s16, A22⟩ => fun w' => o15 = .fin s16 ∧ Hp w.heap.size A22 w' ([]) ∧ Tr w.heap.size A w6 A22 w') ?_ ?_
  · refine C_block ?_
    refine C_range ho15 (fun k18 s24 a w' => ∃ i : (Nat → Prop), Has ⟨49, [], none⟩ a ([(1, v_cals), (2, .int .i64 m), (7, .int .i64 s24), (14, v12), (15, .int .i64 (c.pieces.length : Int)), (16, .int .i64 (k18 : Int))]) ∧ Hp w.heap.size i w' ([]) ∧ Tr w.heap.size A w6 i w') (fun a ha => ⟨A, ha.sub ⟨rfl, rfl, rfl, rfl, rfl, rfl, trivial⟩, ⟨hH, Tr.refl hA⟩⟩) ?_
    rintro K k18 s24 a w25 ⟨A26, ha101, hH27, hr17⟩ hle31 K34 h33
    refine C_of ?_ ha101
    replace h_cals := Sl.tr h_cals hr17
    replace h14 := Sl.tr h14 hr17
    replace hK := Tr.trans hK hr17
    replace hB := Nat.le_trans hB hr17.ex.size
    replace hA := hr17.new
    replace hH : Hp w.heap.size A26 w25 ([]) := hH27
    refine C_seq (C_region (V_y (Y_lss rfl rfl) rfl rfl rfl (V_to (fun _ _ => rfl) ?_)))
    refine C_seq ?_
    refine C_cond rfl (fun hc36 => ?_) (fun hc36 => ?_)
    · have hlt32 := lt_of_dec hc36
      obtain ⟨x28, h29, h30⟩ := K34 hlt32
      refine C_skip_to (fun _ _ => rfl) ?_
      refine C_seq ?_
      obtain ⟨s38, ho37, h29⟩ := Option.bind_eq_some_iff.1 h29
      refine C_cutG (ι := (Nat → Prop)) (fun (A43 : (Nat → Prop)) => [(1, v_cals), (2, .int .i64 m), (7, .int .i64 s38), (14, v12), (15, .int .i64 (c.pieces.length : Int)), (16, .int .i64 (k18 : Int))]) (fun (A43 : (Nat → Prop)) => fun w' => Hp w.heap.size A43 w' ([]) ∧ Tr w.heap.size A26 w25 A43 w') ?_ ?_
      · have hr39 : Tr w.heap.size A26 w25 A26 w25 := Tr.refl hA
        refine C_block ?_
        refine C_seq ?_
        refine C_region ?_
        obtain ⟨x45, hx45, ho37⟩ := Option.bind_eq_some_iff.1 ho37
        refine V_indexAddr h14 hx45 Try.underlying33 Try.sizeOf64 rfl rfl rfl ?_
        intro b46 o47 h48
        obtain ⟨h49, _⟩ := El_level_Piece h48
        refine V_y (Y_loadA h49 Try.isAgg64 Try.sizeOf64 rfl) rfl rfl rfl ?_
        refine V_alloc Try.zeroValue64 rfl ?_
        intro b50 w51 h52
        refine V_storeNew h52 Try.sizeOf64 rfl rfl rfl rfl (by exact (List.forall_mem_cons.2 ⟨rfl, (List.forall_mem_cons.2 ⟨rfl, (List.forall_mem_cons.2 ⟨rfl, (fun _ h => nomatch h)⟩)⟩)⟩)) ?_
        intro w53 h54
        have hk56 := h54.kp
        have h55 : El (α := level_Piece) A26 w53 b50 0 x45 := h54.el hA ⟨[.int .i64 x45.from_], _, rfl, rfl, ⟨[.int .i64 x45.to_], _, rfl, rfl, rfl⟩⟩
        have ht57 := Kp.tr hk56 hA hB
        replace hH := Hp.kp hH hk56
        replace h_cals := Sl.tr h_cals ht57
        replace h14 := Sl.tr h14 ht57
        replace h48 := El.tr h48 ht57
        replace hK := Tr.trans hK ht57
        replace hr17 := Tr.trans hr17 ht57
        replace hr39 := Tr.trans hr39 ht57
        replace hB := Nat.le_trans hB ht57.ex.size
        replace hA := ht57.new
        refine V_to (fun _ _ => rfl) ?_
        refine C_seq ?_
        refine C_region ?_
        refine V_y (Y_move rfl) rfl rfl rfl ?_
        refine V_y (Y_assign rfl) rfl rfl rfl ?_
        refine V_to (fun _ _ => rfl) ?_
        refine C_seq ?_
        refine C_seq ?_
        refine C_region ?_
        have h58 := El_level_Piece_1 h55
        refine V_y (Y_fieldAddr Try.underlying64 rfl Try.sizeOf3 (by decide) rfl) rfl rfl rfl ?_
        refine V_y (Y_load (El.int h58) Try.isAgg3 rfl) rfl rfl rfl ?_
        refine V_y (Y_neq rfl rfl) rfl rfl rfl ?_
        refine V_to (fun _ _ => rfl) ?_
        obtain ⟨s60, ho59, ho37⟩ := Option.bind_eq_some_iff.1 ho37
        refine C_cutG (ι := Unit) (fun (_ : Unit) => [(1, v_cals), (2, .int .i64 m), (7, .int .i64 s24), (9, .pointer (some ⟨b50, 0, none⟩)), (10, .int .i64 s60), (14, v12), (15, .int .i64 (c.pieces.length : Int)), (16, .int .i64 (k18 : Int))]) (fun (_ : Unit) => fun w' => w53 = w') ?_ ?_
        · refine C_cond rfl (fun hc65 => ?_) (fun hc65 => ?_)
          · rw [if_pos hc65] at ho59
            refine C_region ?_
            refine V_y (Y_move rfl) rfl rfl rfl ?_
            have h66 := El_level_Piece_1 h55
            refine V_y (Y_fieldAddr Try.underlying64 rfl Try.sizeOf3 (by decide) rfl) rfl rfl rfl ?_
            refine V_y (Y_load (El.int h66) Try.isAgg3 rfl) rfl rfl rfl ?_
            refine V_y (Y_min2 rfl rfl) rfl rfl rfl ?_
            refine V_y (Y_assign rfl) rfl rfl rfl ?_
            obtain rfl := Option.some.inj ho59
            refine V_end (fun a ha67 => ?_)
            exact ⟨(), ha67.sub ⟨rfl, rfl, rfl, rfl, rfl, rfl, rfl, rfl, trivial⟩, rfl⟩
          · rw [if_neg (nt hc65)] at ho59
            obtain rfl := Option.some.inj ho59
            refine C_skip (fun a ha68 => ?_)
            exact ⟨(), ha68.sub ⟨rfl, rfl, rfl, rfl, rfl, rfl, rfl, rfl, trivial⟩, rfl⟩
        rintro _ _ rfl a ha64
        refine C_at (n := ⟨49, [], none⟩) (fun _ _ => rfl) ?_ ha64
        refine C_seq ?_
        refine C_region ?_
        have h69 := El_level_Piece_0 h55
        refine V_y (Y_fieldAddr Try.underlying64 rfl Try.sizeOf3 (by decide) rfl) rfl rfl rfl ?_
        refine V_y (Y_load (El.int h69) Try.isAgg3 rfl) rfl rfl rfl ?_
        refine V_y (Y_move rfl) rfl rfl rfl ?_
        refine V_y (Y_lss rfl rfl) rfl rfl rfl ?_
        refine V_to (fun _ _ => rfl) ?_
        obtain ⟨s71, ho70, ho37⟩ := Option.bind_eq_some_iff.1 ho37
        refine C_cutG (ι := (Nat → Prop)) (fun (A76 : (Nat → Prop)) => [(1, v_cals), (2, .int .i64 m), (7, .int .i64 s71), (14, v12), (15, .int .i64 (c.pieces.length : Int)), (16, .int .i64 (k18 : Int))]) (fun (A76 : (Nat → Prop)) => fun w' => Hp w.heap.size A76 w' ([]) ∧ Tr w.heap.size A26 w53 A76 w') ?_ ?_
        · have hr72 : Tr w.heap.size A26 w53 A26 w53 := Tr.refl hA
          refine C_cond rfl (fun hc78 => ?_) (fun hc78 => ?_)
          · rw [if_pos hc78] at ho70
            refine C_seq ?_
            refine C_region_q Try_mixed (by kernel_rfl) ?_
            refine VQ_y (fun w' hw' => Y_move rfl) rfl rfl rfl ?_
            have h79 := El_level_Piece_2 h55
            refine VQ_y (fun w' hw' => Y_fieldAddr Try.underlying64 rfl Try.sizeOf3 (by decide) rfl) rfl rfl rfl ?_
            refine VQ_y (fun w' hw' => Y_load (El.int (El.kp h79 hw')) Try.isAgg3 rfl) rfl rfl rfl ?_
            obtain ⟨x80, hx80, ho70⟩ := Option.bind_eq_some_iff.1 ho70
            refine VQ_indexAddr h_cals hx80 Try.underlying36 Try.sizeOf28 rfl rfl rfl ?_
            intro b81 o82 h83
            obtain ⟨v84, v86, v88, h90, h85, h87, h89⟩ := El_cal_Calendar h83
            refine VQ_y (fun w' hw' => Y_loadA (At.kp h90 hw' h83.2.1) Try.isAgg28 Try.sizeOf28 rfl) rfl rfl rfl ?_
            have h91 := El_level_Piece_0 h55
            refine VQ_y (fun w' hw' => Y_fieldAddr Try.underlying64 rfl Try.sizeOf3 (by decide) rfl) rfl rfl rfl ?_
            refine VQ_y (fun w' hw' => Y_load (El.int (El.kp h91 hw')) Try.isAgg3 rfl) rfl rfl rfl ?_
            refine VQ_y (fun w' hw' => Y_move rfl) rfl rfl rfl ?_
            obtain ⟨x92, hx92, ho70⟩ := Option.bind_eq_some_iff.1 ho70
            refine VQ_call (.tuple #[.int .i64 x92.1, .int .i64 x92.2]) Try.call67 rfl rfl rfl rfl (fun w' hw' => (cal_Worked_c w' (fun b hb => hA b (Nat.le_trans hw'.size hb)) x80 v84 (Sl.kp h85 hw') v86 (Sl.kp h87 hw') v88 (Sl.kp h89 hw') x45.from_ s60 hx92).mono (fun _ _ h => ⟨h.1, Kp.trans hw' h.2⟩)) ?_
            refine VQ_y (fun w' hw' => Y_move rfl) rfl rfl rfl ?_
            refine VQ_y (fun w' hw' => Y_extract rfl rfl) rfl rfl rfl ?_
            refine VQ_y (fun w' hw' => Y_extract rfl rfl) rfl rfl rfl ?_
            refine VQ_y (fun w' hw' => Y_assign rfl) rfl rfl rfl ?_
            refine VQ_y (fun w' hw' => Y_assign rfl) rfl rfl rfl ?_
            refine VQ_to (fun _ _ => rfl) (fun w93 hk94 => ?_)
            have ht95 := Kp.tr hk94 hA hB
            replace hH := Hp.kp hH hk94
            replace h_cals := Sl.tr h_cals ht95
            replace h14 := Sl.tr h14 ht95
            replace hK := Tr.trans hK ht95
            replace hr17 := Tr.trans hr17 ht95
            replace hr39 := Tr.trans hr39 ht95
            replace hr72 := Tr.trans hr72 ht95
            replace hB := Nat.le_trans hB ht95.ex.size
            replace hA := ht95.new
            refine C_region ?_
            refine V_y (Y_move rfl) rfl rfl rfl ?_
            refine V_y (Y_move rfl) rfl rfl rfl ?_
            refine V_y (Y_addI rfl rfl) rfl rfl rfl ?_
            refine V_y (Y_assign rfl) rfl rfl rfl ?_
            obtain rfl := Option.some.inj ho70
            refine V_end (fun a ha96 => ?_)
            exact ⟨A26, ha96.sub ⟨rfl, rfl, rfl, rfl, rfl, rfl, trivial⟩, ⟨hH, hr72⟩⟩
          · rw [if_neg (nt hc78)] at ho70
            obtain rfl := Option.some.inj ho70
            refine C_skip (fun a ha97 => ?_)
            exact ⟨A26, ha97.sub ⟨rfl, rfl, rfl, rfl, rfl, rfl, trivial⟩, ⟨hH, hr72⟩⟩
        rintro A76 w73 ⟨hH77, hk74⟩ a ha75
        replace h_cals := Sl.tr h_cals hk74
        replace h14 := Sl.tr h14 hk74
        replace hK := Tr.trans hK hk74
        replace hr17 := Tr.trans hr17 hk74
        replace hr39 := Tr.trans hr39 hk74
        replace hB := Nat.le_trans hB hk74.ex.size
        replace hA := hk74.new
        replace hH : Hp w.heap.size A76 w73 ([]) := hH77
        obtain rfl := Option.some.inj ho37
        exact ⟨A76, ha75.sub ⟨rfl, rfl, rfl, rfl, rfl, rfl, trivial⟩, ⟨hH, hr39⟩⟩
      rintro A43 w40 ⟨hH44, hk41⟩ a ha42
      replace h_cals := Sl.tr h_cals hk41
      replace h14 := Sl.tr h14 hk41
      replace hK := Tr.trans hK hk41
      replace hr17 := Tr.trans hr17 hk41
      replace hB := Nat.le_trans hB hk41.ex.size
      replace hA := hk41.new
      replace hH : Hp w.heap.size A43 w40 ([]) := hH44
      refine C_at (n := ⟨49, [], none⟩) (fun _ _ => rfl) ?_ ha42
      refine C_region ?_
      refine V_y (Y_addI rfl rfl) rfl rfl rfl ?_
      refine V_y (Y_move rfl) rfl rfl rfl ?_
      obtain rfl := Option.some.inj h29
      refine V_end (fun a ha99 => ?_)
      exact ⟨s38, hlt32, h30, ⟨A43, ha99.sub ⟨rfl, rfl, rfl, rfl, rfl, (congrArg (fun z => some (Value.int .i64 z)) (w64_succ hlt32 hn35)), trivial⟩, ⟨hH, hr17⟩⟩⟩
    · refine C_exit (fun a ha100 => ?_)
      exact ⟨(s24, A26), ha100.sub ⟨rfl, trivial⟩, ⟨(h33 (eq_of_dec hle31 hc36)).symm, hH, hr17⟩⟩
  rintro ⟨s16, A22⟩ w19 ⟨rfl, hH23, hk20⟩ a ha21
  rw [Lp.andThen_fin] at hm
  replace hK := Tr.trans hK hk20
  replace hB := Nat.le_trans hB hk20.ex.size
  replace hA := hk20.new
  replace hH : Hp w.heap.size A22 w19 ([]) := hH23
  refine C_at (n := ⟨49, [], none⟩) (fun _ _ => rfl) ?_ ha21
  refine C_seq ?_
  refine C_region ?_
  refine V_y (Y_move rfl) rfl rfl rfl ?_
  refine V_y (Y_assign rfl) rfl rfl rfl ?_
  refine V_to (fun _ _ => rfl) ?_
  obtain rfl := Option.some.inj hm
  refine C_ret ?_
  try simp only [↓inBlock_ret, ↓then_ret]
  exact retQ rfl (Res.one Try.results39 rfl) ⟨rfl, hK.kp⟩

set_option maxRecDepth 4000 in
set_option maxHeartbeats 4000000 in
theorem level_inPiece_1_c (w : World) {A : Nat → Prop} (hA : ∀ b, w.heap.size ≤ b → A b) (p : level_Piece) (p1 : Int) (b_p1 : Nat) (h_p1 : El A w b_p1 0 p1) {r : Bool} (hm : level_inPiece_1 p p1 = some r) : Ret Try.prog 86 #[.agg #[.int .i64 p.from_, .int .i64 p.to_, .int .i64 p.calendar], .pointer (some ⟨b_p1, 0, none⟩)] w fun v w' => v = .bool r ∧ Kp w w' := by
  unfold level_inPiece_1 at hm
  refine enter Try.func86 rfl Try.ntmps86 rfl ?_
  have hA0 := hA
  have hB := Nat.le_refl w.heap.size
  have hK : Tr w.heap.size A w A w := Tr.refl hA
  have hH : Hp w.heap.size A w [] := Hp.nil
  refine C_seq ?_
  refine C_region ?_
  refine V_box rfl rfl ?_
  intro b1 w2 h3
  have hk5 := h3.kp
  have h4 : El (α := level_Piece) A w2 b1 0 p := h3.el hA ⟨[.int .i64 p.from_], _, rfl, rfl, ⟨[.int .i64 p.to_], _, rfl, rfl, rfl⟩⟩
  have ht6 := Kp.tr hk5 hA hB
  replace hH := Hp.kp hH hk5
  replace h_p1 := El.tr h_p1 ht6
  replace hK := Tr.trans hK ht6
  replace hB := Nat.le_trans hB ht6.ex.size
  replace hA := ht6.new
  refine V_y (Y_assign rfl) rfl rfl rfl ?_
  refine V_to (fun _ _ => rfl) ?_
  refine C_seq ?_
  refine C_region ?_
  have h7 := El_level_Piece_0 h4
  refine V_y (Y_fieldAddr Try.underlying64 rfl Try.sizeOf3 (by decide) rfl) rfl rfl rfl ?_
  refine V_y (Y_load (El.int h7) Try.isAgg3 rfl) rfl rfl rfl ?_
  refine V_y (Y_load (El.int h_p1) Try.isAgg3 rfl) rfl rfl rfl ?_
  refine V_y (Y_leq rfl rfl) rfl rfl rfl ?_
  refine V_y (Y_move rfl) rfl rfl rfl ?_
  refine V_cut 10 (fun _ : Unit => [(18, .bool ((decide (p.from_ ≤ p1)) && ((p.to_ == (-1)) || (decide (p1 < p.to_)))))]) (fun _ w' => w2 = w') ?_ ?_
  · simp only [List.take, List.drop]
    rcases Bool.eq_false_or_eq_true (decide (p.from_ ≤ p1)) with hc8 | hc8
    · refine V_ge rfl rfl rfl hc8 ?_
      have h10 := El_level_Piece_1 h4
      refine V_y (Y_fieldAddr Try.underlying64 rfl Try.sizeOf3 (by decide) rfl) rfl rfl rfl ?_
      refine V_ge rfl rfl rfl hc8 ?_
      refine V_y (Y_load (El.int h10) Try.isAgg3 rfl) rfl rfl rfl ?_
      refine V_ge rfl rfl rfl hc8 ?_
      refine V_y (Y_eql rfl rfl) rfl rfl rfl ?_
      refine V_ge rfl rfl rfl hc8 ?_
      refine V_y (Y_move rfl) rfl rfl rfl ?_
      refine V_cut 5 (fun _ : Unit => [(8, .bool (decide (p.from_ ≤ p1))), (17, .bool ((p.to_ == (-1)) || (decide (p1 < p.to_))))]) (fun _ w' => w2 = w') ?_ ?_
      · simp only [List.take, List.drop]
        rcases Bool.eq_false_or_eq_true (p.to_ == (-1)) with hc11 | hc11
        · refine V_gn rfl rfl rfl hc11 rfl rfl rfl ?_
          refine V_gn rfl rfl rfl hc11 rfl rfl rfl ?_
          refine V_gn rfl rfl rfl hc11 rfl rfl rfl ?_
          refine V_gn rfl rfl rfl hc11 rfl rfl rfl ?_
          refine V_ge rfl rfl rfl hc8 ?_
          refine V_y (Y_pick_te rfl hc11 rfl) rfl rfl rfl ?_
          exact V_end fun a ha => ⟨(), ha.sub ⟨rfl, (by rw [hc11]; rfl), trivial⟩, rfl⟩
        · refine V_ge rfl rfl rfl hc11 ?_
          refine V_y (Y_load (El.int h_p1) Try.isAgg3 rfl) rfl rfl rfl ?_
          refine V_ge rfl rfl rfl hc11 ?_
          have h13 := El_level_Piece_1 h4
          refine V_y (Y_fieldAddr Try.underlying64 rfl Try.sizeOf3 (by decide) rfl) rfl rfl rfl ?_
          refine V_ge rfl rfl rfl hc11 ?_
          refine V_y (Y_load (El.int h13) Try.isAgg3 rfl) rfl rfl rfl ?_
          refine V_ge rfl rfl rfl hc11 ?_
          refine V_y (Y_lss rfl rfl) rfl rfl rfl ?_
          refine V_ge rfl rfl rfl hc8 ?_
          refine V_y (Y_pick_fe rfl hc11 rfl) rfl rfl rfl ?_
          exact V_end fun a ha => ⟨(), ha.sub ⟨rfl, (by rw [hc11]; rfl), trivial⟩, rfl⟩
      simp only [List.take, List.drop]
      rintro _ _ rfl
      refine V_y (Y_pick_te rfl hc8 rfl) rfl rfl rfl ?_
      exact V_end fun a ha => ⟨(), ha.sub ⟨(by rw [hc8]; rfl), trivial⟩, rfl⟩
    · refine V_gn rfl rfl rfl hc8 rfl rfl rfl ?_
      refine V_gn rfl rfl rfl hc8 rfl rfl rfl ?_
      refine V_gn rfl rfl rfl hc8 rfl rfl rfl ?_
      refine V_gn rfl rfl rfl hc8 rfl rfl rfl ?_
      refine V_gu rfl rfl rfl rfl rfl ?_
      refine V_gu rfl rfl rfl rfl rfl ?_
      refine V_gu rfl rfl rfl rfl rfl ?_
      refine V_gu rfl rfl rfl rfl rfl ?_
      refine V_gn rfl rfl rfl hc8 rfl rfl rfl ?_
      refine V_y (Y_pick_fe rfl hc8 rfl) rfl rfl rfl ?_
      exact V_end fun a ha => ⟨(), ha.sub ⟨(by rw [hc8]; rfl), trivial⟩, rfl⟩
  simp only [List.take, List.drop]
  rintro _ _ rfl
  refine V_y (Y_assign rfl) rfl rfl rfl ?_
  refine V_to (fun _ _ => rfl) ?_
  obtain rfl := Option.some.inj hm
  refine C_ret ?_
  try simp only [↓inBlock_ret, ↓then_ret]
  exact retQ rfl (Res.one Try.results86 rfl) ⟨rfl, hK.kp⟩

set_option maxRecDepth 4000 in
set_option maxHeartbeats 4000000 in
theorem level_inPiece_c (w : World) {A : Nat → Prop} (hA : ∀ b, w.heap.size ≤ b → A b) (c : level_Clock) (v_c : Value) (h_c : Sl A w v_c c.pieces) (m : Int) {r : Bool} (hm : level_inPiece c m = some r) : Ret Try.prog 72 #[.agg #[.int .i64 c.kind, .int .i64 c.level, .int .i64 c.minutes, .int .i64 c.start, .int .i64 c.stop, .int .i64 c.end_, v_c], .int .i64 m] w fun v w' => v = .bool r ∧ Kp w w' := by
  unfold level_inPiece at hm
  refine enter Try.func72 rfl Try.ntmps72 rfl ?_
  have hA0 := hA
  have hB := Nat.le_refl w.heap.size
  have hK : Tr w.heap.size A w A w := Tr.refl hA
  have hH : Hp w.heap.size A w [] := Hp.nil
  refine C_seq ?_
  refine C_region ?_
  refine V_box rfl rfl ?_
  intro b3 w4 h5
  have hk7 := h5.kp
  have h6 : El (α := level_Clock) A w4 b3 0 c := h5.el hA ⟨[.int .i64 c.kind], _, rfl, rfl, ⟨[.int .i64 c.level], _, rfl, rfl, ⟨[.int .i64 c.minutes], _, rfl, rfl, ⟨[.int .i64 c.start], _, rfl, rfl, ⟨[.int .i64 c.stop], _, rfl, rfl, ⟨[.int .i64 c.end_], _, rfl, rfl, ⟨_, rfl, h_c⟩⟩⟩⟩⟩⟩⟩
  have ht8 := Kp.tr hk7 hA hB
  replace hH := Hp.kp hH hk7
  replace h_c := Sl.tr h_c ht8
  replace hK := Tr.trans hK ht8
  replace hB := Nat.le_trans hB ht8.ex.size
  replace hA := ht8.new
  refine V_box rfl rfl ?_
  intro b9 w10 h11
  have hk13 := h11.kp
  have h12 : El (α := Int) A w10 b9 0 m := h11.el hA rfl
  have ht14 := Kp.tr hk13 hA hB
  replace hH := Hp.kp hH hk13
  replace h_c := Sl.tr h_c ht14
  replace h6 := El.tr h6 ht14
  replace hK := Tr.trans hK ht14
  replace hB := Nat.le_trans hB ht14.ex.size
  replace hA := ht14.new
  refine V_y (Y_assign rfl) rfl rfl rfl ?_
  refine V_to (fun _ _ => rfl) ?_
  refine C_seq ?_
  refine C_region ?_
  have h15 := El_level_Clock_6 h6
  refine V_y (Y_fieldAddr Try.underlying35 rfl Try.sizeOf33 (by decide) rfl) rfl rfl rfl ?_
  obtain ⟨v16, h17, h18⟩ := El.list h15
  refine V_y (Y_load h17 Try.isAgg33 rfl) rfl rfl rfl ?_
  refine V_y (Y_makeFunc rfl rfl) rfl rfl rfl ?_
  obtain ⟨x20, hx20, hm⟩ := Option.bind_eq_some_iff.1 hm
  refine V_call Try.call65 rfl rfl rfl rfl (slices_ContainsFunc_Llevel_Piece_level_Piece_c w10 hA c.pieces v16 h18 (fun y28 => level_inPiece_1 y28 m) 86 #[] #[.pointer (some ⟨b9, 0, none⟩)] Try.call86 (fun w24 A25 ht26 h27 y21 r22 h23 => (level_inPiece_1_c w24 h27 y21 m b9 (El.tr h12 ht26) h23).mono (fun _ _ h => ⟨h.1, h.2⟩)) hx20) ?_
  rintro _ w29 ⟨rfl, hk30⟩
  have ht31 := Kp.tr hk30 hA hB
  replace hH := Hp.kp hH hk30
  replace h6 := El.tr h6 ht31
  replace h12 := El.tr h12 ht31
  replace h15 := El.tr h15 ht31
  replace h18 := Sl.tr h18 ht31
  replace hK := Tr.trans hK ht31
  replace hB := Nat.le_trans hB ht31.ex.size
  replace hA := ht31.new
  refine V_y (Y_assign rfl) rfl rfl rfl ?_
  refine V_to (fun _ _ => rfl) ?_
  obtain rfl := Option.some.inj hm
  refine C_ret ?_
  try simp only [↓inBlock_ret, ↓then_ret]
  exact retQ rfl (Res.one Try.results72 rfl) ⟨rfl, hK.kp⟩

set_option maxRecDepth 4000 in
set_option maxHeartbeats 4000000 in
theorem level_stateAt_c (w : World) {A : Nat → Prop} (hA : ∀ b, w.heap.size ≤ b → A b) (c : level_Clock) (v_c : Value) (h_c : Sl A w v_c c.pieces) (cals : (List cal_Calendar)) (v_cals : Value) (h_cals : Sl A w v_cals cals) (m : Int) {r : Int} (hm : level_stateAt c cals m = some r) : Ret Try.prog 42 #[.agg #[.int .i64 c.kind, .int .i64 c.level, .int .i64 c.minutes, .int .i64 c.start, .int .i64 c.stop, .int .i64 c.end_, v_c], v_cals, .int .i64 m] w fun v w' => v = .int .i64 r ∧ Kp w w' := by
  unfold level_stateAt at hm
  refine enter Try.func42 rfl Try.ntmps42 rfl ?_
  have hA0 := hA
  have hB := Nat.le_refl w.heap.size
  have hK : Tr w.heap.size A w A w := Tr.refl hA
  have hH : Hp w.heap.size A w [] := Hp.nil
  refine C_seq ?_
  refine C_region ?_
  refine V_box rfl rfl ?_
  intro b5 w6 h7
  have hk9 := h7.kp
  have h8 : El (α := level_Clock) A w6 b5 0 c := h7.el hA ⟨[.int .i64 c.kind], _, rfl, rfl, ⟨[.int .i64 c.level], _, rfl, rfl, ⟨[.int .i64 c.minutes], _, rfl, rfl, ⟨[.int .i64 c.start], _, rfl, rfl, ⟨[.int .i64 c.stop], _, rfl, rfl, ⟨[.int .i64 c.end_], _, rfl, rfl, ⟨_, rfl, h_c⟩⟩⟩⟩⟩⟩⟩
  have ht10 := Kp.tr hk9 hA hB
  replace hH := Hp.kp hH hk9
  replace h_c := Sl.tr h_c ht10
  replace h_cals := Sl.tr h_cals ht10
  replace hK := Tr.trans hK ht10
  replace hB := Nat.le_trans hB ht10.ex.size
  replace hA := ht10.new
  refine V_y (Y_assign rfl) rfl rfl rfl ?_
  refine V_to (fun _ _ => rfl) ?_
  refine C_seq ?_
  refine C_region ?_
  have h11 := El_level_Clock_5 h8
  refine V_y (Y_fieldAddr Try.underlying35 rfl Try.sizeOf3 (by decide) rfl) rfl rfl rfl ?_
  refine V_y (Y_load (El.int h11) Try.isAgg3 rfl) rfl rfl rfl ?_
  refine V_y (Y_neq rfl rfl) rfl rfl rfl ?_
  refine V_y (Y_move rfl) rfl rfl rfl ?_
  refine V_cut 5 (fun _ : Unit => [(1, v_cals), (2, .int .i64 m), (3, .pointer (some ⟨b5, 0, none⟩)), (16, .bool ((c.end_ != 0) && (decide (c.stop ≤ m))))]) (fun _ w' => w6 = w') ?_ ?_
  · simp only [List.take, List.drop]
    rcases Bool.eq_false_or_eq_true (c.end_ != 0) with hc12 | hc12
    · refine V_ge rfl rfl rfl hc12 ?_
      refine V_y (Y_move rfl) rfl rfl rfl ?_
      refine V_ge rfl rfl rfl hc12 ?_
      have h14 := El_level_Clock_4 h8
      refine V_y (Y_fieldAddr Try.underlying35 rfl Try.sizeOf3 (by decide) rfl) rfl rfl rfl ?_
      refine V_ge rfl rfl rfl hc12 ?_
      refine V_y (Y_load (El.int h14) Try.isAgg3 rfl) rfl rfl rfl ?_
      refine V_ge rfl rfl rfl hc12 ?_
      refine V_y (Y_geq rfl rfl) rfl rfl rfl ?_
      refine V_y (Y_pick_te rfl hc12 rfl) rfl rfl rfl ?_
      exact V_end fun a ha => ⟨(), ha.sub ⟨rfl, rfl, rfl, (by rw [hc12]; rfl), trivial⟩, rfl⟩
    · refine V_gn rfl rfl rfl hc12 rfl rfl rfl ?_
      refine V_gn rfl rfl rfl hc12 rfl rfl rfl ?_
      refine V_gn rfl rfl rfl hc12 rfl rfl rfl ?_
      refine V_gn rfl rfl rfl hc12 rfl rfl rfl ?_
      refine V_y (Y_pick_fe rfl hc12 rfl) rfl rfl rfl ?_
      exact V_end fun a ha => ⟨(), ha.sub ⟨rfl, rfl, rfl, (by rw [hc12]; rfl), trivial⟩, rfl⟩
  simp only [List.take, List.drop]
  rintro _ _ rfl
  refine V_y (Y_assign rfl) rfl rfl rfl ?_
  refine V_to (fun _ _ => rfl) ?_
  refine C_seq ?_
  refine C_block ?_
  refine C_seq ?_
  refine C_region ?_
  refine V_y (Y_move rfl) rfl rfl rfl ?_
  refine V_y (Y_move rfl) rfl rfl rfl ?_
  refine V_cut 4 (fun _ : Unit => [(1, v_cals), (2, .int .i64 m), (3, .pointer (some ⟨b5, 0, none⟩)), (7, .bool ((c.end_ != 0) && (decide (c.stop ≤ m)))), (23, .bool (((c.end_ != 0) && (decide (c.stop ≤ m))) && (c.end_ == 2)))]) (fun _ w' => w6 = w') ?_ ?_
  · simp only [List.take, List.drop]
    rcases Bool.eq_false_or_eq_true (((c.end_ != 0) && (decide (c.stop ≤ m)))) with hc15 | hc15
    · refine V_ge rfl rfl rfl hc15 ?_
      have h17 := El_level_Clock_5 h8
      refine V_y (Y_fieldAddr Try.underlying35 rfl Try.sizeOf3 (by decide) rfl) rfl rfl rfl ?_
      refine V_ge rfl rfl rfl hc15 ?_
      refine V_y (Y_load (El.int h17) Try.isAgg3 rfl) rfl rfl rfl ?_
      refine V_ge rfl rfl rfl hc15 ?_
      refine V_y (Y_eql rfl rfl) rfl rfl rfl ?_
      refine V_y (Y_pick_te rfl hc15 rfl) rfl rfl rfl ?_
      exact V_end fun a ha => ⟨(), ha.sub ⟨rfl, rfl, rfl, rfl, (by rw [hc15]; rfl), trivial⟩, rfl⟩
    · refine V_gn rfl rfl rfl hc15 rfl rfl rfl ?_
      refine V_gn rfl rfl rfl hc15 rfl rfl rfl ?_
      refine V_gn rfl rfl rfl hc15 rfl rfl rfl ?_
      refine V_y (Y_pick_fe rfl hc15 rfl) rfl rfl rfl ?_
      exact V_end fun a ha => ⟨(), ha.sub ⟨rfl, rfl, rfl, rfl, (by rw [hc15]; rfl), trivial⟩, rfl⟩
  simp only [List.take, List.drop]
  rintro _ _ rfl
  refine V_y (Y_assign rfl) rfl rfl rfl ?_
  refine V_to (fun _ _ => rfl) ?_
  refine C_cond rfl (fun hc18 => ?_) (fun hc18 => ?_)
  · rw [if_pos hc18] at hm
    refine C_seq ?_
    refine C_region ?_
    refine V_y (Y_assign rfl) rfl rfl rfl ?_
    refine V_to (fun _ _ => rfl) ?_
    obtain rfl := Option.some.inj hm
    refine C_ret ?_
    try simp only [↓inBlock_ret, ↓then_ret]
    exact retQ rfl (Res.one Try.results42 rfl) ⟨rfl, hK.kp⟩
  · rw [if_neg (nt hc18)] at hm
    refine C_seq ?_
    refine C_region_q Try_mixed (by kernel_rfl) ?_
    refine VQ_y (fun w' hw' => Y_move rfl) rfl rfl rfl ?_
    refine VQ_y (fun w' hw' => Y_move rfl) rfl rfl rfl ?_
    obtain ⟨s20, hs20, hm⟩ := Option.bind_eq_some_iff.1 hm
    refine VQ_cut 9 (fun _ : Unit => [(1, v_cals), (2, .int .i64 m), (3, .pointer (some ⟨b5, 0, none⟩)), (7, .bool ((c.end_ != 0) && (decide (c.stop ≤ m)))), (35, .bool s20)]) (fun _ => True) ?_ ?_
    · simp only [List.take, List.drop]
      rcases Bool.eq_false_or_eq_true (((c.end_ != 0) && (decide (c.stop ≤ m)))) with hc19 | hc19
      · rw [if_pos hc19] at hs20
        refine VQ_ge rfl rfl rfl hc19 ?_
        obtain ⟨v21, h23, h22⟩ := El_level_Clock h8
        refine VQ_y (fun w' hw' => Y_loadA (At.kp h23 hw' h8.2.1) Try.isAgg35 Try.sizeOf35 rfl) rfl rfl rfl ?_
        refine VQ_ge rfl rfl rfl hc19 ?_
        refine VQ_y (fun w' hw' => Y_move rfl) rfl rfl rfl ?_
        refine VQ_ge rfl rfl rfl hc19 ?_
        have h24 := El_level_Clock_4 h8
        refine VQ_y (fun w' hw' => Y_fieldAddr Try.underlying35 rfl Try.sizeOf3 (by decide) rfl) rfl rfl rfl ?_
        refine VQ_ge rfl rfl rfl hc19 ?_
        refine VQ_y (fun w' hw' => Y_load (El.int (El.kp h24 hw')) Try.isAgg3 rfl) rfl rfl rfl ?_
        refine VQ_ge rfl rfl rfl hc19 ?_
        obtain ⟨x25, hx25, hs20⟩ := Option.bind_eq_some_iff.1 hs20
        refine VQ_call (.int .i64 x25) Try.call39 rfl rfl rfl rfl (fun w' hw' => (level_elapsed_c w' (fun b hb => hA b (Nat.le_trans hw'.size hb)) c v21 (Sl.kp h22 hw') cals v_cals (Sl.kp h_cals hw') c.stop hx25).mono (fun _ _ h => ⟨h.1, Kp.trans hw' h.2⟩)) ?_
        refine VQ_ge rfl rfl rfl hc19 ?_
        have h26 := El_level_Clock_2 h8
        refine VQ_y (fun w' hw' => Y_fieldAddr Try.underlying35 rfl Try.sizeOf3 (by decide) rfl) rfl rfl rfl ?_
        refine VQ_ge rfl rfl rfl hc19 ?_
        refine VQ_y (fun w' hw' => Y_load (El.int (El.kp h26 hw')) Try.isAgg3 rfl) rfl rfl rfl ?_
        refine VQ_ge rfl rfl rfl hc19 ?_
        refine VQ_y (fun w' hw' => Y_leq rfl rfl) rfl rfl rfl ?_
        refine VQ_y (fun _ _ => Y_pick_te rfl hc19 rfl) rfl rfl rfl ?_
        obtain rfl := Option.some.inj hs20
        exact VQ_end fun a ha => ⟨(), ha.sub ⟨rfl, rfl, rfl, rfl, rfl, trivial⟩, trivial⟩
      · rw [if_neg (nt hc19)] at hs20
        refine VQ_gn rfl rfl rfl hc19 rfl rfl rfl ?_
        refine VQ_gn rfl rfl rfl hc19 rfl rfl rfl ?_
        refine VQ_gn rfl rfl rfl hc19 rfl rfl rfl ?_
        refine VQ_gn rfl rfl rfl hc19 rfl rfl rfl ?_
        refine VQ_gn rfl rfl rfl hc19 rfl rfl rfl ?_
        refine VQ_gn rfl rfl rfl hc19 rfl rfl rfl ?_
        refine VQ_gn rfl rfl rfl hc19 rfl rfl rfl ?_
        refine VQ_gn rfl rfl rfl hc19 rfl rfl rfl ?_
        refine VQ_y (fun _ _ => Y_pick_fe rfl hc19 rfl) rfl rfl rfl ?_
        obtain rfl := Option.some.inj hs20
        exact VQ_end fun a ha => ⟨(), ha.sub ⟨rfl, rfl, rfl, rfl, rfl, trivial⟩, trivial⟩
    simp only [List.take, List.drop]
    rintro _ _
    refine VQ_y (fun w' hw' => Y_assign rfl) rfl rfl rfl ?_
    refine VQ_to (fun _ _ => rfl) (fun w27 hk28 => ?_)
    have ht29 := Kp.tr hk28 hA hB
    replace hH := Hp.kp hH hk28
    replace h_cals := Sl.tr h_cals ht29
    replace h8 := El.tr h8 ht29
    replace hK := Tr.trans hK ht29
    replace hB := Nat.le_trans hB ht29.ex.size
    replace hA := ht29.new
    refine C_cond rfl (fun hc30 => ?_) (fun hc30 => ?_)
    · rw [if_pos hc30] at hm
      refine C_seq ?_
      refine C_region ?_
      refine V_y (Y_assign rfl) rfl rfl rfl ?_
      refine V_to (fun _ _ => rfl) ?_
      obtain rfl := Option.some.inj hm
      refine C_ret ?_
      try simp only [↓inBlock_ret, ↓then_ret]
      exact retQ rfl (Res.one Try.results42 rfl) ⟨rfl, hK.kp⟩
    · rw [if_neg (nt hc30)] at hm
      refine C_seq ?_
      refine C_region ?_
      refine V_y (Y_move rfl) rfl rfl rfl ?_
      refine V_y (Y_assign rfl) rfl rfl rfl ?_
      refine V_to (fun _ _ => rfl) ?_
      refine C_cond rfl (fun hc31 => ?_) (fun hc31 => ?_)
      · rw [if_pos hc31] at hm
        refine C_seq ?_
        refine C_region ?_
        refine V_y (Y_assign rfl) rfl rfl rfl ?_
        refine V_to (fun _ _ => rfl) ?_
        obtain rfl := Option.some.inj hm
        refine C_ret ?_
        try simp only [↓inBlock_ret, ↓then_ret]
        exact retQ rfl (Res.one Try.results42 rfl) ⟨rfl, hK.kp⟩
      · rw [if_neg (nt hc31)] at hm
        refine C_seq ?_
        refine C_region_q Try_mixed (by kernel_rfl) ?_
        obtain ⟨v32, h34, h33⟩ := El_level_Clock h8
        refine VQ_y (fun w' hw' => Y_loadA (At.kp h34 hw' h8.2.1) Try.isAgg35 Try.sizeOf35 rfl) rfl rfl rfl ?_
        refine VQ_y (fun w' hw' => Y_move rfl) rfl rfl rfl ?_
        refine VQ_y (fun w' hw' => Y_move rfl) rfl rfl rfl ?_
        obtain ⟨x35, hx35, hm⟩ := Option.bind_eq_some_iff.1 hm
        refine VQ_call (.int .i64 x35) Try.call39 rfl rfl rfl rfl (fun w' hw' => (level_elapsed_c w' (fun b hb => hA b (Nat.le_trans hw'.size hb)) c v32 (Sl.kp h33 hw') cals v_cals (Sl.kp h_cals hw') m hx35).mono (fun _ _ h => ⟨h.1, Kp.trans hw' h.2⟩)) ?_
        have h36 := El_level_Clock_2 h8
        refine VQ_y (fun w' hw' => Y_fieldAddr Try.underlying35 rfl Try.sizeOf3 (by decide) rfl) rfl rfl rfl ?_
        refine VQ_y (fun w' hw' => Y_load (El.int (El.kp h36 hw')) Try.isAgg3 rfl) rfl rfl rfl ?_
        refine VQ_y (fun w' hw' => Y_gtr rfl rfl) rfl rfl rfl ?_
        refine VQ_y (fun w' hw' => Y_assign rfl) rfl rfl rfl ?_
        refine VQ_to (fun _ _ => rfl) (fun w37 hk38 => ?_)
        have ht39 := Kp.tr hk38 hA hB
        replace hH := Hp.kp hH hk38
        replace h8 := El.tr h8 ht39
        replace hK := Tr.trans hK ht39
        replace hB := Nat.le_trans hB ht39.ex.size
        replace hA := ht39.new
        refine C_cond rfl (fun hc40 => ?_) (fun hc40 => ?_)
        · rw [if_pos hc40] at hm
          refine C_seq ?_
          refine C_region ?_
          refine V_y (Y_assign rfl) rfl rfl rfl ?_
          refine V_to (fun _ _ => rfl) ?_
          obtain rfl := Option.some.inj hm
          refine C_ret ?_
          try simp only [↓inBlock_ret, ↓then_ret]
          exact retQ rfl (Res.one Try.results42 rfl) ⟨rfl, hK.kp⟩
        · rw [if_neg (nt hc40)] at hm
          refine C_seq ?_
          refine C_region ?_
          obtain ⟨v41, h43, h42⟩ := El_level_Clock h8
          refine V_y (Y_loadA h43 Try.isAgg35 Try.sizeOf35 rfl) rfl rfl rfl ?_
          refine V_y (Y_move rfl) rfl rfl rfl ?_
          obtain ⟨x44, hx44, hm⟩ := Option.bind_eq_some_iff.1 hm
          refine V_call Try.call72 rfl rfl rfl rfl (level_inPiece_c w37 hA c v41 h42 m hx44) ?_
          rintro _ w45 ⟨rfl, hk46⟩
          have ht47 := Kp.tr hk46 hA hB
          replace hH := Hp.kp hH hk46
          replace h8 := El.tr h8 ht47
          replace h42 := Sl.tr h42 ht47
          replace hK := Tr.trans hK ht47
          replace hB := Nat.le_trans hB ht47.ex.size
          replace hA := ht47.new
          refine V_y (Y_not rfl) rfl rfl rfl ?_
          refine V_y (Y_assign rfl) rfl rfl rfl ?_
          refine V_to (fun _ _ => rfl) ?_
          refine C_cond rfl (fun hc48 => ?_) (fun hc48 => ?_)
          · rw [if_pos hc48] at hm
            refine C_seq ?_
            refine C_region ?_
            refine V_y (Y_assign rfl) rfl rfl rfl ?_
            refine V_to (fun _ _ => rfl) ?_
            obtain rfl := Option.some.inj hm
            refine C_ret ?_
            try simp only [↓inBlock_ret, ↓then_ret]
            exact retQ rfl (Res.one Try.results42 rfl) ⟨rfl, hK.kp⟩
          · rw [if_neg (nt hc48)] at hm
            refine C_skip_to (fun _ _ => rfl) ?_
            refine C_seq ?_
            refine C_region ?_
            refine V_y (Y_assign rfl) rfl rfl rfl ?_
            refine V_to (fun _ _ => rfl) ?_
            obtain rfl := Option.some.inj hm
            refine C_ret ?_
            try simp only [↓inBlock_ret, ↓then_ret]
            exact retQ rfl (Res.one Try.results42 rfl) ⟨rfl, hK.kp⟩

set_option maxRecDepth 4000 in
set_option maxHeartbeats 4000000 in
theorem level_StateAt_c (w : World) {A : Nat → Prop} (hA : ∀ b, w.heap.size ≤ b → A b) (c : level_Clock) (v_c : Value) (h_c : Sl A w v_c c.pieces) (cals : (List cal_Calendar)) (v_cals : Value) (h_cals : Sl A w v_cals cals) (m : Int) {r : (Int × Int)} (hm : level_StateAt c cals m = some r) : Ret Try.prog 15 #[.agg #[.int .i64 c.kind, .int .i64 c.level, .int .i64 c.minutes, .int .i64 c.start, .int .i64 c.stop, .int .i64 c.end_, v_c], v_cals, .int .i64 m] w fun v w' => v = .tuple #[.int .i64 r.1, .int .i64 r.2] ∧ Kp w w' := by
  unfold level_StateAt at hm
  refine enter Try.func15 rfl Try.ntmps15 rfl ?_
  have hA0 := hA
  have hB := Nat.le_refl w.heap.size
  have hK : Tr w.heap.size A w A w := Tr.refl hA
  have hH : Hp w.heap.size A w [] := Hp.nil
  refine C_seq ?_
  refine C_region ?_
  refine V_box rfl rfl ?_
  intro b5 w6 h7
  have hk9 := h7.kp
  have h8 : El (α := level_Clock) A w6 b5 0 c := h7.el hA ⟨[.int .i64 c.kind], _, rfl, rfl, ⟨[.int .i64 c.level], _, rfl, rfl, ⟨[.int .i64 c.minutes], _, rfl, rfl, ⟨[.int .i64 c.start], _, rfl, rfl, ⟨[.int .i64 c.stop], _, rfl, rfl, ⟨[.int .i64 c.end_], _, rfl, rfl, ⟨_, rfl, h_c⟩⟩⟩⟩⟩⟩⟩
  have ht10 := Kp.tr hk9 hA hB
  replace hH := Hp.kp hH hk9
  replace h_c := Sl.tr h_c ht10
  replace h_cals := Sl.tr h_cals ht10
  replace hK := Tr.trans hK ht10
  replace hB := Nat.le_trans hB ht10.ex.size
  replace hA := ht10.new
  refine V_y (Y_assign rfl) rfl rfl rfl ?_
  refine V_y (Y_assign rfl) rfl rfl rfl ?_
  refine V_to (fun _ _ => rfl) ?_
  refine C_seq ?_
  refine C_seq ?_
  refine C_region_ch A 11 [(1, 0), (1, 2), (1, 4), (1, 5), (1, 6), (2, 1), (2, 3), (2, 7), (2, 8), (2, 9), (1, 10)] Try_mixed (by kernel_rfl) (fun w11 hk12 => ?_)
  have ht13 := Kp.tr hk12 hA hB
  replace hH := Hp.kp hH hk12
  replace h_cals := Sl.tr h_cals ht13
  replace h8 := El.tr h8 ht13
  replace hK := Tr.trans hK ht13
  replace hB := Nat.le_trans hB ht13.ex.size
  replace hA := ht13.new
  refine CH_q2 rfl ?_
  obtain ⟨v14, h16, h15⟩ := El_level_Clock h8
  refine VQ_y (fun w' hw' => Y_loadA (At.same h16 (hw'.2 _ h8.2.1 h8.1)) Try.isAgg35 Try.sizeOf35 rfl) rfl rfl rfl ?_
  refine VQ_CH ?_
  refine CH_q2 rfl ?_
  refine VQ_y (fun w' hw' => Y_move rfl) rfl rfl rfl ?_
  refine VQ_CH ?_
  refine CH_q2 rfl ?_
  refine VQ_y (fun w' hw' => Y_move rfl) rfl rfl rfl ?_
  refine VQ_CH ?_
  refine CH_q2 rfl ?_
  have h17 := El_level_Clock_3 h8
  refine VQ_y (fun w' hw' => Y_fieldAddr Try.underlying35 rfl Try.sizeOf3 (by decide) rfl) rfl rfl rfl ?_
  refine VQ_CH ?_
  refine CH_q2 rfl ?_
  refine VQ_y (fun w' hw' => Y_load (El.int (El.keep h17 (XA.ex hw'))) Try.isAgg3 rfl) rfl rfl rfl ?_
  refine VQ_CH ?_
  refine CH_l1 (k := 0) rfl ?_
  refine V_buildSlice (l := ([c] : List level_Clock)) (len := 1) Try.underlying56 Try.sizeOf35 Try.zeroValue35 rfl (by with_unfolding_all rfl) (by decide) (by decide) hA ⟨[.int .i64 c.kind, .int .i64 c.level, .int .i64 c.minutes, .int .i64 c.start, .int .i64 c.stop, .int .i64 c.end_, v14], _, rfl, ⟨[.int .i64 c.kind], _, rfl, rfl, ⟨[.int .i64 c.level], _, rfl, rfl, ⟨[.int .i64 c.minutes], _, rfl, rfl, ⟨[.int .i64 c.start], _, rfl, rfl, ⟨[.int .i64 c.stop], _, rfl, rfl, ⟨[.int .i64 c.end_], _, rfl, rfl, ⟨_, rfl, h15⟩⟩⟩⟩⟩⟩⟩, rfl⟩ rfl rfl ?_
  intro v18 w19 hk21 h20
  have ht22 := Kp.tr hk21 hA hB
  replace hH := Hp.kp hH hk21
  replace h_cals := Sl.tr h_cals ht22
  replace h8 := El.tr h8 ht22
  replace h15 := Sl.tr h15 ht22
  replace h17 := El.tr h17 ht22
  replace hK := Tr.trans hK ht22
  replace hB := Nat.le_trans hB ht22.ex.size
  replace hA := ht22.new
  refine V_CH (hk21) ?_
  refine CH_l1 (k := 0) rfl ?_
  obtain ⟨x23, hx23, hm⟩ := Option.bind_eq_some_iff.1 hm
  refine V_call Try.call37 rfl rfl rfl rfl (level_check_c w19 hA ([c] : List level_Clock) v18 h20 cals v_cals h_cals hx23) ?_
  rintro _ w24 ⟨rfl, hk25⟩
  have ht26 := Kp.tr hk25 hA hB
  replace hH := Hp.kp hH hk25
  replace h_cals := Sl.tr h_cals ht26
  replace h8 := El.tr h8 ht26
  replace h15 := Sl.tr h15 ht26
  replace h17 := El.tr h17 ht26
  replace h20 := Sl.tr h20 ht26
  replace hK := Tr.trans hK ht26
  replace hB := Nat.le_trans hB ht26.ex.size
  replace hA := ht26.new
  refine V_CH (hk25) ?_
  refine CH_l1 (k := 0) rfl ?_
  refine V_call Try.call38 rfl rfl rfl rfl (level_moment_c w24 m c.start) ?_
  rintro _ _ ⟨rfl, rfl⟩
  refine V_CH (Kp.refl _) ?_
  refine CH_l1 (k := 0) rfl ?_
  refine V_buildSlice (l := ([x23, (level_moment m c.start)] : List Int)) (len := 2) Try.underlying94 Try.sizeOf29 Try.zeroValue29 rfl (by with_unfolding_all rfl) (by decide) (by decide) hA ⟨[.int .i64 x23], _, rfl, rfl, ⟨[.int .i64 (level_moment m c.start)], _, rfl, rfl, rfl⟩⟩ rfl rfl ?_
  intro v27 w28 hk30 h29
  have ht31 := Kp.tr hk30 hA hB
  replace hH := Hp.kp hH hk30
  replace h_cals := Sl.tr h_cals ht31
  replace h8 := El.tr h8 ht31
  replace h15 := Sl.tr h15 ht31
  replace h17 := El.tr h17 ht31
  replace h20 := Sl.tr h20 ht31
  replace hK := Tr.trans hK ht31
  replace hB := Nat.le_trans hB ht31.ex.size
  replace hA := ht31.new
  refine V_CH (hk30) ?_
  refine CH_l1 (k := 0) rfl ?_
  obtain ⟨x32, hx32, hm⟩ := Option.bind_eq_some_iff.1 hm
  refine V_call Try.call36 rfl rfl rfl rfl (cmp_Or_api_Errno_c w28 ([x23, (level_moment m c.start)] : List Int) v27 h29 hx32) ?_
  rintro _ _ ⟨rfl, rfl⟩
  refine V_CH (Kp.refl _) ?_
  refine CH_q2 rfl ?_
  refine VQ_y (fun w' hw' => Y_assign rfl) rfl rfl rfl ?_
  refine VQ_CH ?_
  refine CH_tail ?_
  show V _ _ _ _ [] _ _
  refine V_to (fun _ _ => rfl) ?_
  refine C_seq ?_
  refine C_region ?_
  refine V_y (Y_move rfl) rfl rfl rfl ?_
  refine V_y (Y_neq rfl rfl) rfl rfl rfl ?_
  refine V_to (fun _ _ => rfl) ?_
  refine C_cond rfl (fun hc33 => ?_) (fun hc33 => ?_)
  · rw [if_pos hc33] at hm
    refine C_seq ?_
    refine C_region ?_
    refine V_y (Y_move rfl) rfl rfl rfl ?_
    refine V_y (Y_assign rfl) rfl rfl rfl ?_
    refine V_y (Y_assign rfl) rfl rfl rfl ?_
    refine V_to (fun _ _ => rfl) ?_
    obtain rfl := Option.some.inj hm
    refine C_ret ?_
    try simp only [↓inBlock_ret, ↓then_ret]
    exact retQ rfl (Res.two Try.results15 rfl rfl) ⟨rfl, hK.kp⟩
  · rw [if_neg (nt hc33)] at hm
    refine C_skip_to (fun _ _ => rfl) ?_
    refine C_seq ?_
    refine C_region ?_
    obtain ⟨v34, h36, h35⟩ := El_level_Clock h8
    refine V_y (Y_loadA h36 Try.isAgg35 Try.sizeOf35 rfl) rfl rfl rfl ?_
    refine V_y (Y_move rfl) rfl rfl rfl ?_
    refine V_y (Y_move rfl) rfl rfl rfl ?_
    obtain ⟨x37, hx37, hm⟩ := Option.bind_eq_some_iff.1 hm
    refine V_call Try.call42 rfl rfl rfl rfl (level_stateAt_c w28 hA c v34 h35 cals v_cals h_cals m hx37) ?_
    rintro _ w38 ⟨rfl, hk39⟩
    have ht40 := Kp.tr hk39 hA hB
    replace hH := Hp.kp hH hk39
    replace h_cals := Sl.tr h_cals ht40
    replace h8 := El.tr h8 ht40
    replace h35 := Sl.tr h35 ht40
    replace hK := Tr.trans hK ht40
    replace hB := Nat.le_trans hB ht40.ex.size
    replace hA := ht40.new
    refine V_y (Y_assign rfl) rfl rfl rfl ?_
    refine V_y (Y_assign rfl) rfl rfl rfl ?_
    refine V_to (fun _ _ => rfl) ?_
    obtain rfl := Option.some.inj hm
    refine C_ret ?_
    try simp only [↓inBlock_ret, ↓then_ret]
    exact retQ rfl (Res.two Try.results15 rfl rfl) ⟨rfl, hK.kp⟩

set_option maxRecDepth 4000 in
set_option maxHeartbeats 4000000 in
theorem portref2_IsMoment_c (w : World) (m : Int) : Ret Try.prog 33 #[.int .i64 m] w fun v w' => v = .bool (portref2_IsMoment m) ∧ w = w' := by
  generalize hm : portref2_IsMoment m = r
  unfold portref2_IsMoment at hm
  refine enter Try.func33 rfl Try.ntmps33 rfl ?_
  refine C_seq ?_
  refine C_region ?_
  refine V_y (Y_assign rfl) rfl rfl rfl ?_
  refine V_to (fun _ _ => rfl) ?_
  refine C_seq ?_
  refine C_region ?_
  refine V_y (Y_move rfl) rfl rfl rfl ?_
  refine V_y (Y_geq rfl rfl) rfl rfl rfl ?_
  refine V_y (Y_move rfl) rfl rfl rfl ?_
  refine V_cut 3 (fun _ : Unit => [(8, .bool ((decide ((0 : Int) ≤ m)) && (decide (m ≤ 3000000))))]) (fun _ w' => w = w') ?_ ?_
  · simp only [List.take, List.drop]
    rcases Bool.eq_false_or_eq_true (decide ((0 : Int) ≤ m)) with hc1 | hc1
    · refine V_ge rfl rfl rfl hc1 ?_
      refine V_y (Y_move rfl) rfl rfl rfl ?_
      refine V_ge rfl rfl rfl hc1 ?_
      refine V_y (Y_leq rfl rfl) rfl rfl rfl ?_
      refine V_y (Y_pick_te rfl hc1 rfl) rfl rfl rfl ?_
      exact V_end fun a ha => ⟨(), ha.sub ⟨(by rw [hc1]; rfl), trivial⟩, rfl⟩
    · refine V_gn rfl rfl rfl hc1 rfl rfl rfl ?_
      refine V_gn rfl rfl rfl hc1 rfl rfl rfl ?_
      refine V_y (Y_pick_fe rfl hc1 rfl) rfl rfl rfl ?_
      exact V_end fun a ha => ⟨(), ha.sub ⟨(by rw [hc1]; rfl), trivial⟩, rfl⟩
  simp only [List.take, List.drop]
  rintro _ _ rfl
  refine V_y (Y_assign rfl) rfl rfl rfl ?_
  refine V_to (fun _ _ => rfl) ?_
  obtain rfl := hm
  refine C_ret ?_
  try simp only [↓inBlock_ret, ↓then_ret]
  exact retQ rfl (Res.one Try.results33 rfl) ⟨rfl, rfl⟩

set_option maxRecDepth 4000 in
set_option maxHeartbeats 4000000 in
theorem portref2_ClockFault_c (w : World) {A : Nat → Prop} (hA : ∀ b, w.heap.size ≤ b → A b) (c : level_Clock) (v_c : Value) (h_c : Sl A w v_c c.pieces) {r : Int} (hm : portref2_ClockFault c = some r) : Ret Try.prog 68 #[.agg #[.int .i64 c.kind, .int .i64 c.level, .int .i64 c.minutes, .int .i64 c.start, .int .i64 c.stop, .int .i64 c.end_, v_c]] w fun v w' => v = .int .i64 r ∧ Kp w w' := by
  unfold portref2_ClockFault at hm
  refine enter Try.func68 rfl Try.ntmps68 rfl ?_
  have hA0 := hA
  have hB := Nat.le_refl w.heap.size
  have hK : Tr w.heap.size A w A w := Tr.refl hA
  have hH : Hp w.heap.size A w [] := Hp.nil
  refine C_seq ?_
  refine C_region ?_
  refine V_box rfl rfl ?_
  intro b3 w4 h5
  have hk7 := h5.kp
  have h6 : El (α := level_Clock) A w4 b3 0 c := h5.el hA ⟨[.int .i64 c.kind], _, rfl, rfl, ⟨[.int .i64 c.level], _, rfl, rfl, ⟨[.int .i64 c.minutes], _, rfl, rfl, ⟨[.int .i64 c.start], _, rfl, rfl, ⟨[.int .i64 c.stop], _, rfl, rfl, ⟨[.int .i64 c.end_], _, rfl, rfl, ⟨_, rfl, h_c⟩⟩⟩⟩⟩⟩⟩
  have ht8 := Kp.tr hk7 hA hB
  replace hH := Hp.kp hH hk7
  replace h_c := Sl.tr h_c ht8
  replace hK := Tr.trans hK ht8
  replace hB := Nat.le_trans hB ht8.ex.size
  replace hA := ht8.new
  refine V_y (Y_assign rfl) rfl rfl rfl ?_
  refine V_to (fun _ _ => rfl) ?_
  refine C_seq ?_
  refine C_seq ?_
  refine C_region ?_
  have h9 := El_level_Clock_0 h6
  refine V_y (Y_fieldAddr Try.underlying35 rfl Try.sizeOf3 (by decide) rfl) rfl rfl rfl ?_
  refine V_y (Y_load (El.int h9) Try.isAgg3 rfl) rfl rfl rfl ?_
  refine V_y (Y_lss rfl rfl) rfl rfl rfl ?_
  refine V_y (Y_move rfl) rfl rfl rfl ?_
  refine V_cut 4 (fun _ : Unit => [(1, .pointer (some ⟨b3, 0, none⟩)), (12, .bool ((decide (c.kind < 1)) || (decide ((3 : Int) < c.kind))))]) (fun _ w' => w4 = w') ?_ ?_
  · simp only [List.take, List.drop]
    rcases Bool.eq_false_or_eq_true (decide (c.kind < 1)) with hc10 | hc10
    · refine V_gn rfl rfl rfl hc10 rfl rfl rfl ?_
      refine V_gn rfl rfl rfl hc10 rfl rfl rfl ?_
      refine V_gn rfl rfl rfl hc10 rfl rfl rfl ?_
      refine V_y (Y_pick_te rfl hc10 rfl) rfl rfl rfl ?_
      exact V_end fun a ha => ⟨(), ha.sub ⟨rfl, (by rw [hc10]; rfl), trivial⟩, rfl⟩
    · refine V_ge rfl rfl rfl hc10 ?_
      have h12 := El_level_Clock_0 h6
      refine V_y (Y_fieldAddr Try.underlying35 rfl Try.sizeOf3 (by decide) rfl) rfl rfl rfl ?_
      refine V_ge rfl rfl rfl hc10 ?_
      refine V_y (Y_load (El.int h12) Try.isAgg3 rfl) rfl rfl rfl ?_
      refine V_ge rfl rfl rfl hc10 ?_
      refine V_y (Y_gtr rfl rfl) rfl rfl rfl ?_
      refine V_y (Y_pick_fe rfl hc10 rfl) rfl rfl rfl ?_
      exact V_end fun a ha => ⟨(), ha.sub ⟨rfl, (by rw [hc10]; rfl), trivial⟩, rfl⟩
  simp only [List.take, List.drop]
  rintro _ _ rfl
  refine V_y (Y_move rfl) rfl rfl rfl ?_
  refine V_cut 4 (fun _ : Unit => [(1, .pointer (some ⟨b3, 0, none⟩)), (17, .bool (((decide (c.kind < 1)) || (decide ((3 : Int) < c.kind))) || (decide (c.level < 0))))]) (fun _ w' => w4 = w') ?_ ?_
  · simp only [List.take, List.drop]
    rcases Bool.eq_false_or_eq_true (((decide (c.kind < 1)) || (decide ((3 : Int) < c.kind)))) with hc13 | hc13
    · refine V_gn rfl rfl rfl hc13 rfl rfl rfl ?_
      refine V_gn rfl rfl rfl hc13 rfl rfl rfl ?_
      refine V_gn rfl rfl rfl hc13 rfl rfl rfl ?_
      refine V_y (Y_pick_te rfl hc13 rfl) rfl rfl rfl ?_
      exact V_end fun a ha => ⟨(), ha.sub ⟨rfl, (by rw [hc13]; rfl), trivial⟩, rfl⟩
    · refine V_ge rfl rfl rfl hc13 ?_
      have h15 := El_level_Clock_1 h6
      refine V_y (Y_fieldAddr Try.underlying35 rfl Try.sizeOf3 (by decide) rfl) rfl rfl rfl ?_
      refine V_ge rfl rfl rfl hc13 ?_
      refine V_y (Y_load (El.int h15) Try.isAgg3 rfl) rfl rfl rfl ?_
      refine V_ge rfl rfl rfl hc13 ?_
      refine V_y (Y_lss rfl rfl) rfl rfl rfl ?_
      refine V_y (Y_pick_fe rfl hc13 rfl) rfl rfl rfl ?_
      exact V_end fun a ha => ⟨(), ha.sub ⟨rfl, (by rw [hc13]; rfl), trivial⟩, rfl⟩
  simp only [List.take, List.drop]
  rintro _ _ rfl
  refine V_y (Y_move rfl) rfl rfl rfl ?_
  refine V_cut 4 (fun _ : Unit => [(1, .pointer (some ⟨b3, 0, none⟩)), (22, .bool ((((decide (c.kind < 1)) || (decide ((3 : Int) < c.kind))) || (decide (c.level < 0))) || (decide ((20 : Int) ≤ c.level))))]) (fun _ w' => w4 = w') ?_ ?_
  · simp only [List.take, List.drop]
    rcases Bool.eq_false_or_eq_true ((((decide (c.kind < 1)) || (decide ((3 : Int) < c.kind))) || (decide (c.level < 0)))) with hc16 | hc16
    · refine V_gn rfl rfl rfl hc16 rfl rfl rfl ?_
      refine V_gn rfl rfl rfl hc16 rfl rfl rfl ?_
      refine V_gn rfl rfl rfl hc16 rfl rfl rfl ?_
      refine V_y (Y_pick_te rfl hc16 rfl) rfl rfl rfl ?_
      exact V_end fun a ha => ⟨(), ha.sub ⟨rfl, (by rw [hc16]; rfl), trivial⟩, rfl⟩
    · refine V_ge rfl rfl rfl hc16 ?_
      have h18 := El_level_Clock_1 h6
      refine V_y (Y_fieldAddr Try.underlying35 rfl Try.sizeOf3 (by decide) rfl) rfl rfl rfl ?_
      refine V_ge rfl rfl rfl hc16 ?_
      refine V_y (Y_load (El.int h18) Try.isAgg3 rfl) rfl rfl rfl ?_
      refine V_ge rfl rfl rfl hc16 ?_
      refine V_y (Y_geq rfl rfl) rfl rfl rfl ?_
      refine V_y (Y_pick_fe rfl hc16 rfl) rfl rfl rfl ?_
      exact V_end fun a ha => ⟨(), ha.sub ⟨rfl, (by rw [hc16]; rfl), trivial⟩, rfl⟩
  simp only [List.take, List.drop]
  rintro _ _ rfl
  refine V_y (Y_move rfl) rfl rfl rfl ?_
  refine V_cut 4 (fun _ : Unit => [(1, .pointer (some ⟨b3, 0, none⟩)), (27, .bool (((((decide (c.kind < 1)) || (decide ((3 : Int) < c.kind))) || (decide (c.level < 0))) || (decide ((20 : Int) ≤ c.level))) || (decide (c.minutes < 0))))]) (fun _ w' => w4 = w') ?_ ?_
  · simp only [List.take, List.drop]
    rcases Bool.eq_false_or_eq_true (((((decide (c.kind < 1)) || (decide ((3 : Int) < c.kind))) || (decide (c.level < 0))) || (decide ((20 : Int) ≤ c.level)))) with hc19 | hc19
    · refine V_gn rfl rfl rfl hc19 rfl rfl rfl ?_
      refine V_gn rfl rfl rfl hc19 rfl rfl rfl ?_
      refine V_gn rfl rfl rfl hc19 rfl rfl rfl ?_
      refine V_y (Y_pick_te rfl hc19 rfl) rfl rfl rfl ?_
      exact V_end fun a ha => ⟨(), ha.sub ⟨rfl, (by rw [hc19]; rfl), trivial⟩, rfl⟩
    · refine V_ge rfl rfl rfl hc19 ?_
      have h21 := El_level_Clock_2 h6
      refine V_y (Y_fieldAddr Try.underlying35 rfl Try.sizeOf3 (by decide) rfl) rfl rfl rfl ?_
      refine V_ge rfl rfl rfl hc19 ?_
      refine V_y (Y_load (El.int h21) Try.isAgg3 rfl) rfl rfl rfl ?_
      refine V_ge rfl rfl rfl hc19 ?_
      refine V_y (Y_lss rfl rfl) rfl rfl rfl ?_
      refine V_y (Y_pick_fe rfl hc19 rfl) rfl rfl rfl ?_
      exact V_end fun a ha => ⟨(), ha.sub ⟨rfl, (by rw [hc19]; rfl), trivial⟩, rfl⟩
  simp only [List.take, List.drop]
  rintro _ _ rfl
  refine V_y (Y_move rfl) rfl rfl rfl ?_
  refine V_cut 4 (fun _ : Unit => [(1, .pointer (some ⟨b3, 0, none⟩)), (32, .bool ((((((decide (c.kind < 1)) || (decide ((3 : Int) < c.kind))) || (decide (c.level < 0))) || (decide ((20 : Int) ≤ c.level))) || (decide (c.minutes < 0))) || (decide ((100000 : Int) < c.minutes))))]) (fun _ w' => w4 = w') ?_ ?_
  · simp only [List.take, List.drop]
    rcases Bool.eq_false_or_eq_true ((((((decide (c.kind < 1)) || (decide ((3 : Int) < c.kind))) || (decide (c.level < 0))) || (decide ((20 : Int) ≤ c.level))) || (decide (c.minutes < 0)))) with hc22 | hc22
    · refine V_gn rfl rfl rfl hc22 rfl rfl rfl ?_
      refine V_gn rfl rfl rfl hc22 rfl rfl rfl ?_
      refine V_gn rfl rfl rfl hc22 rfl rfl rfl ?_
      refine V_y (Y_pick_te rfl hc22 rfl) rfl rfl rfl ?_
      exact V_end fun a ha => ⟨(), ha.sub ⟨rfl, (by rw [hc22]; rfl), trivial⟩, rfl⟩
    · refine V_ge rfl rfl rfl hc22 ?_
      have h24 := El_level_Clock_2 h6
      refine V_y (Y_fieldAddr Try.underlying35 rfl Try.sizeOf3 (by decide) rfl) rfl rfl rfl ?_
      refine V_ge rfl rfl rfl hc22 ?_
      refine V_y (Y_load (El.int h24) Try.isAgg3 rfl) rfl rfl rfl ?_
      refine V_ge rfl rfl rfl hc22 ?_
      refine V_y (Y_gtr rfl rfl) rfl rfl rfl ?_
      refine V_y (Y_pick_fe rfl hc22 rfl) rfl rfl rfl ?_
      exact V_end fun a ha => ⟨(), ha.sub ⟨rfl, (by rw [hc22]; rfl), trivial⟩, rfl⟩
  simp only [List.take, List.drop]
  rintro _ _ rfl
  refine V_y (Y_move rfl) rfl rfl rfl ?_
  refine V_cut 5 (fun _ : Unit => [(1, .pointer (some ⟨b3, 0, none⟩)), (38, .bool (((((((decide (c.kind < 1)) || (decide ((3 : Int) < c.kind))) || (decide (c.level < 0))) || (decide ((20 : Int) ≤ c.level))) || (decide (c.minutes < 0))) || (decide ((100000 : Int) < c.minutes))) || (!(portref2_IsMoment c.start))))]) (fun _ w' => w4 = w') ?_ ?_
  · simp only [List.take, List.drop]
    rcases Bool.eq_false_or_eq_true (((((((decide (c.kind < 1)) || (decide ((3 : Int) < c.kind))) || (decide (c.level < 0))) || (decide ((20 : Int) ≤ c.level))) || (decide (c.minutes < 0))) || (decide ((100000 : Int) < c.minutes)))) with hc25 | hc25
    · refine V_gn rfl rfl rfl hc25 rfl rfl rfl ?_
      refine V_gn rfl rfl rfl hc25 rfl rfl rfl ?_
      refine V_gn rfl rfl rfl hc25 rfl rfl rfl ?_
      refine V_gn rfl rfl rfl hc25 rfl rfl rfl ?_
      refine V_y (Y_pick_te rfl hc25 rfl) rfl rfl rfl ?_
      exact V_end fun a ha => ⟨(), ha.sub ⟨rfl, (by rw [hc25]; rfl), trivial⟩, rfl⟩
    · refine V_ge rfl rfl rfl hc25 ?_
      have h27 := El_level_Clock_3 h6
      refine V_y (Y_fieldAddr Try.underlying35 rfl Try.sizeOf3 (by decide) rfl) rfl rfl rfl ?_
      refine V_ge rfl rfl rfl hc25 ?_
      refine V_y (Y_load (El.int h27) Try.isAgg3 rfl) rfl rfl rfl ?_
      refine V_ge rfl rfl rfl hc25 ?_
      refine V_call Try.call33 rfl rfl rfl rfl (portref2_IsMoment_c w4 c.start) ?_
      rintro _ _ ⟨rfl, rfl⟩
      refine V_ge rfl rfl rfl hc25 ?_
      refine V_y (Y_not rfl) rfl rfl rfl ?_
      refine V_y (Y_pick_fe rfl hc25 rfl) rfl rfl rfl ?_
      exact V_end fun a ha => ⟨(), ha.sub ⟨rfl, (by rw [hc25]; rfl), trivial⟩, rfl⟩
  simp only [List.take, List.drop]
  rintro _ _ rfl
  refine V_y (Y_move rfl) rfl rfl rfl ?_
  refine V_cut 17 (fun _ : Unit => [(1, .pointer (some ⟨b3, 0, none⟩)), (56, .bool ((((((((decide (c.kind < 1)) || (decide ((3 : Int) < c.kind))) || (decide (c.level < 0))) || (decide ((20 : Int) ≤ c.level))) || (decide (c.minutes < 0))) || (decide ((100000 : Int) < c.minutes))) || (!(portref2_IsMoment c.start))) || ((c.stop != (-1)) && ((!(portref2_IsMoment c.stop)) || (decide (c.stop < c.start))))))]) (fun _ w' => w4 = w') ?_ ?_
  · simp only [List.take, List.drop]
    rcases Bool.eq_false_or_eq_true ((((((((decide (c.kind < 1)) || (decide ((3 : Int) < c.kind))) || (decide (c.level < 0))) || (decide ((20 : Int) ≤ c.level))) || (decide (c.minutes < 0))) || (decide ((100000 : Int) < c.minutes))) || (!(portref2_IsMoment c.start)))) with hc28 | hc28
    · refine V_gn rfl rfl rfl hc28 rfl rfl rfl ?_
      refine V_gn rfl rfl rfl hc28 rfl rfl rfl ?_
      refine V_gn rfl rfl rfl hc28 rfl rfl rfl ?_
      refine V_gn rfl rfl rfl hc28 rfl rfl rfl ?_
      refine V_gu rfl rfl rfl rfl rfl ?_
      refine V_gu rfl rfl rfl rfl rfl ?_
      refine V_gu rfl rfl rfl rfl rfl ?_
      refine V_gu rfl rfl rfl rfl rfl ?_
      refine V_gu rfl rfl rfl rfl rfl ?_
      refine V_gu rfl rfl rfl rfl rfl ?_
      refine V_gu rfl rfl rfl rfl rfl ?_
      refine V_gu rfl rfl rfl rfl rfl ?_
      refine V_gu rfl rfl rfl rfl rfl ?_
      refine V_gu rfl rfl rfl rfl rfl ?_
      refine V_gu rfl rfl rfl rfl rfl ?_
      refine V_gn rfl rfl rfl hc28 rfl rfl rfl ?_
      refine V_y (Y_pick_te rfl hc28 rfl) rfl rfl rfl ?_
      exact V_end fun a ha => ⟨(), ha.sub ⟨rfl, (by rw [hc28]; rfl), trivial⟩, rfl⟩
    · refine V_ge rfl rfl rfl hc28 ?_
      have h30 := El_level_Clock_4 h6
      refine V_y (Y_fieldAddr Try.underlying35 rfl Try.sizeOf3 (by decide) rfl) rfl rfl rfl ?_
      refine V_ge rfl rfl rfl hc28 ?_
      refine V_y (Y_load (El.int h30) Try.isAgg3 rfl) rfl rfl rfl ?_
      refine V_ge rfl rfl rfl hc28 ?_
      refine V_y (Y_neq rfl rfl) rfl rfl rfl ?_
      refine V_ge rfl rfl rfl hc28 ?_
      refine V_y (Y_move rfl) rfl rfl rfl ?_
      refine V_cut 12 (fun _ : Unit => [(1, .pointer (some ⟨b3, 0, none⟩)), (39, .bool (((((((decide (c.kind < 1)) || (decide ((3 : Int) < c.kind))) || (decide (c.level < 0))) || (decide ((20 : Int) ≤ c.level))) || (decide (c.minutes < 0))) || (decide ((100000 : Int) < c.minutes))) || (!(portref2_IsMoment c.start)))), (55, .bool ((c.stop != (-1)) && ((!(portref2_IsMoment c.stop)) || (decide (c.stop < c.start)))))]) (fun _ w' => w4 = w') ?_ ?_
      · simp only [List.take, List.drop]
        rcases Bool.eq_false_or_eq_true (c.stop != (-1)) with hc31 | hc31
        · refine V_ge rfl rfl rfl hc31 ?_
          have h33 := El_level_Clock_4 h6
          refine V_y (Y_fieldAddr Try.underlying35 rfl Try.sizeOf3 (by decide) rfl) rfl rfl rfl ?_
          refine V_ge rfl rfl rfl hc31 ?_
          refine V_y (Y_load (El.int h33) Try.isAgg3 rfl) rfl rfl rfl ?_
          refine V_ge rfl rfl rfl hc31 ?_
          refine V_call Try.call33 rfl rfl rfl rfl (portref2_IsMoment_c w4 c.stop) ?_
          rintro _ _ ⟨rfl, rfl⟩
          refine V_ge rfl rfl rfl hc31 ?_
          refine V_y (Y_not rfl) rfl rfl rfl ?_
          refine V_ge rfl rfl rfl hc31 ?_
          refine V_y (Y_move rfl) rfl rfl rfl ?_
          refine V_cut 6 (fun _ : Unit => [(1, .pointer (some ⟨b3, 0, none⟩)), (39, .bool (((((((decide (c.kind < 1)) || (decide ((3 : Int) < c.kind))) || (decide (c.level < 0))) || (decide ((20 : Int) ≤ c.level))) || (decide (c.minutes < 0))) || (decide ((100000 : Int) < c.minutes))) || (!(portref2_IsMoment c.start)))), (43, .bool (c.stop != (-1))), (54, .bool ((!(portref2_IsMoment c.stop)) || (decide (c.stop < c.start))))]) (fun _ w' => w4 = w') ?_ ?_
          · simp only [List.take, List.drop]
            rcases Bool.eq_false_or_eq_true (!(portref2_IsMoment c.stop)) with hc34 | hc34
            · refine V_gn rfl rfl rfl hc34 rfl rfl rfl ?_
              refine V_gn rfl rfl rfl hc34 rfl rfl rfl ?_
              refine V_gn rfl rfl rfl hc34 rfl rfl rfl ?_
              refine V_gn rfl rfl rfl hc34 rfl rfl rfl ?_
              refine V_gn rfl rfl rfl hc34 rfl rfl rfl ?_
              refine V_ge rfl rfl rfl hc31 ?_
              refine V_y (Y_pick_te rfl hc34 rfl) rfl rfl rfl ?_
              exact V_end fun a ha => ⟨(), ha.sub ⟨rfl, rfl, rfl, (by rw [hc34]; rfl), trivial⟩, rfl⟩
            · refine V_ge rfl rfl rfl hc34 ?_
              have h36 := El_level_Clock_4 h6
              refine V_y (Y_fieldAddr Try.underlying35 rfl Try.sizeOf3 (by decide) rfl) rfl rfl rfl ?_
              refine V_ge rfl rfl rfl hc34 ?_
              refine V_y (Y_load (El.int h36) Try.isAgg3 rfl) rfl rfl rfl ?_
              refine V_ge rfl rfl rfl hc34 ?_
              have h37 := El_level_Clock_3 h6
              refine V_y (Y_fieldAddr Try.underlying35 rfl Try.sizeOf3 (by decide) rfl) rfl rfl rfl ?_
              refine V_ge rfl rfl rfl hc34 ?_
              refine V_y (Y_load (El.int h37) Try.isAgg3 rfl) rfl rfl rfl ?_
              refine V_ge rfl rfl rfl hc34 ?_
              refine V_y (Y_lss rfl rfl) rfl rfl rfl ?_
              refine V_ge rfl rfl rfl hc31 ?_
              refine V_y (Y_pick_fe rfl hc34 rfl) rfl rfl rfl ?_
              exact V_end fun a ha => ⟨(), ha.sub ⟨rfl, rfl, rfl, (by rw [hc34]; rfl), trivial⟩, rfl⟩
          simp only [List.take, List.drop]
          rintro _ _ rfl
          refine V_ge rfl rfl rfl hc28 ?_
          refine V_y (Y_pick_te rfl hc31 rfl) rfl rfl rfl ?_
          exact V_end fun a ha => ⟨(), ha.sub ⟨rfl, rfl, (by rw [hc31]; rfl), trivial⟩, rfl⟩
        · refine V_gn rfl rfl rfl hc31 rfl rfl rfl ?_
          refine V_gn rfl rfl rfl hc31 rfl rfl rfl ?_
          refine V_gn rfl rfl rfl hc31 rfl rfl rfl ?_
          refine V_gn rfl rfl rfl hc31 rfl rfl rfl ?_
          refine V_gn rfl rfl rfl hc31 rfl rfl rfl ?_
          refine V_gu rfl rfl rfl rfl rfl ?_
          refine V_gu rfl rfl rfl rfl rfl ?_
          refine V_gu rfl rfl rfl rfl rfl ?_
          refine V_gu rfl rfl rfl rfl rfl ?_
          refine V_gu rfl rfl rfl rfl rfl ?_
          refine V_gn rfl rfl rfl hc31 rfl rfl rfl ?_
          refine V_ge rfl rfl rfl hc28 ?_
          refine V_y (Y_pick_fe rfl hc31 rfl) rfl rfl rfl ?_
          exact V_end fun a ha => ⟨(), ha.sub ⟨rfl, rfl, (by rw [hc31]; rfl), trivial⟩, rfl⟩
      simp only [List.take, List.drop]
      rintro _ _ rfl
      refine V_y (Y_pick_fe rfl hc28 rfl) rfl rfl rfl ?_
      exact V_end fun a ha => ⟨(), ha.sub ⟨rfl, (by rw [hc28]; rfl), trivial⟩, rfl⟩
  simp only [List.take, List.drop]
  rintro _ _ rfl
  refine V_y (Y_move rfl) rfl rfl rfl ?_
  refine V_cut 4 (fun _ : Unit => [(1, .pointer (some ⟨b3, 0, none⟩)), (61, .bool (((((((((decide (c.kind < 1)) || (decide ((3 : Int) < c.kind))) || (decide (c.level < 0))) || (decide ((20 : Int) ≤ c.level))) || (decide (c.minutes < 0))) || (decide ((100000 : Int) < c.minutes))) || (!(portref2_IsMoment c.start))) || ((c.stop != (-1)) && ((!(portref2_IsMoment c.stop)) || (decide (c.stop < c.start))))) || (decide (c.end_ < 0))))]) (fun _ w' => w4 = w') ?_ ?_
  · simp only [List.take, List.drop]
    rcases Bool.eq_false_or_eq_true (((((((((decide (c.kind < 1)) || (decide ((3 : Int) < c.kind))) || (decide (c.level < 0))) || (decide ((20 : Int) ≤ c.level))) || (decide (c.minutes < 0))) || (decide ((100000 : Int) < c.minutes))) || (!(portref2_IsMoment c.start))) || ((c.stop != (-1)) && ((!(portref2_IsMoment c.stop)) || (decide (c.stop < c.start)))))) with hc38 | hc38
    · refine V_gn rfl rfl rfl hc38 rfl rfl rfl ?_
      refine V_gn rfl rfl rfl hc38 rfl rfl rfl ?_
      refine V_gn rfl rfl rfl hc38 rfl rfl rfl ?_
      refine V_y (Y_pick_te rfl hc38 rfl) rfl rfl rfl ?_
      exact V_end fun a ha => ⟨(), ha.sub ⟨rfl, (by rw [hc38]; rfl), trivial⟩, rfl⟩
    · refine V_ge rfl rfl rfl hc38 ?_
      have h40 := El_level_Clock_5 h6
      refine V_y (Y_fieldAddr Try.underlying35 rfl Try.sizeOf3 (by decide) rfl) rfl rfl rfl ?_
      refine V_ge rfl rfl rfl hc38 ?_
      refine V_y (Y_load (El.int h40) Try.isAgg3 rfl) rfl rfl rfl ?_
      refine V_ge rfl rfl rfl hc38 ?_
      refine V_y (Y_lss rfl rfl) rfl rfl rfl ?_
      refine V_y (Y_pick_fe rfl hc38 rfl) rfl rfl rfl ?_
      exact V_end fun a ha => ⟨(), ha.sub ⟨rfl, (by rw [hc38]; rfl), trivial⟩, rfl⟩
  simp only [List.take, List.drop]
  rintro _ _ rfl
  refine V_y (Y_move rfl) rfl rfl rfl ?_
  refine V_cut 4 (fun _ : Unit => [(1, .pointer (some ⟨b3, 0, none⟩)), (66, .bool ((((((((((decide (c.kind < 1)) || (decide ((3 : Int) < c.kind))) || (decide (c.level < 0))) || (decide ((20 : Int) ≤ c.level))) || (decide (c.minutes < 0))) || (decide ((100000 : Int) < c.minutes))) || (!(portref2_IsMoment c.start))) || ((c.stop != (-1)) && ((!(portref2_IsMoment c.stop)) || (decide (c.stop < c.start))))) || (decide (c.end_ < 0))) || (decide ((2 : Int) < c.end_))))]) (fun _ w' => w4 = w') ?_ ?_
  · simp only [List.take, List.drop]
    rcases Bool.eq_false_or_eq_true ((((((((((decide (c.kind < 1)) || (decide ((3 : Int) < c.kind))) || (decide (c.level < 0))) || (decide ((20 : Int) ≤ c.level))) || (decide (c.minutes < 0))) || (decide ((100000 : Int) < c.minutes))) || (!(portref2_IsMoment c.start))) || ((c.stop != (-1)) && ((!(portref2_IsMoment c.stop)) || (decide (c.stop < c.start))))) || (decide (c.end_ < 0)))) with hc41 | hc41
    · refine V_gn rfl rfl rfl hc41 rfl rfl rfl ?_
      refine V_gn rfl rfl rfl hc41 rfl rfl rfl ?_
      refine V_gn rfl rfl rfl hc41 rfl rfl rfl ?_
      refine V_y (Y_pick_te rfl hc41 rfl) rfl rfl rfl ?_
      exact V_end fun a ha => ⟨(), ha.sub ⟨rfl, (by rw [hc41]; rfl), trivial⟩, rfl⟩
    · refine V_ge rfl rfl rfl hc41 ?_
      have h43 := El_level_Clock_5 h6
      refine V_y (Y_fieldAddr Try.underlying35 rfl Try.sizeOf3 (by decide) rfl) rfl rfl rfl ?_
      refine V_ge rfl rfl rfl hc41 ?_
      refine V_y (Y_load (El.int h43) Try.isAgg3 rfl) rfl rfl rfl ?_
      refine V_ge rfl rfl rfl hc41 ?_
      refine V_y (Y_gtr rfl rfl) rfl rfl rfl ?_
      refine V_y (Y_pick_fe rfl hc41 rfl) rfl rfl rfl ?_
      exact V_end fun a ha => ⟨(), ha.sub ⟨rfl, (by rw [hc41]; rfl), trivial⟩, rfl⟩
  simp only [List.take, List.drop]
  rintro _ _ rfl
  refine V_to (fun _ _ => rfl) ?_
  refine C_cond rfl (fun hc44 => ?_) (fun hc44 => ?_)
  · rw [if_pos hc44] at hm
    refine C_seq ?_
    refine C_region ?_
    refine V_y (Y_assign rfl) rfl rfl rfl ?_
    refine V_to (fun _ _ => rfl) ?_
    obtain rfl := Option.some.inj hm
    refine C_ret ?_
    try simp only [↓inBlock_ret, ↓then_ret]
    exact retQ rfl (Res.one Try.results68 rfl) ⟨rfl, hK.kp⟩
  · rw [if_neg (nt hc44)] at hm
    refine C_skip_to (fun _ _ => rfl) ?_
    refine C_seq ?_
    refine C_seq ?_
    refine C_region ?_
    have h45 := El_level_Clock_4 h6
    refine V_y (Y_fieldAddr Try.underlying35 rfl Try.sizeOf3 (by decide) rfl) rfl rfl rfl ?_
    refine V_y (Y_load (El.int h45) Try.isAgg3 rfl) rfl rfl rfl ?_
    refine V_y (Y_eql rfl rfl) rfl rfl rfl ?_
    have h46 := El_level_Clock_5 h6
    refine V_y (Y_fieldAddr Try.underlying35 rfl Try.sizeOf3 (by decide) rfl) rfl rfl rfl ?_
    refine V_y (Y_load (El.int h46) Try.isAgg3 rfl) rfl rfl rfl ?_
    refine V_y (Y_eql rfl rfl) rfl rfl rfl ?_
    refine V_y (Y_bneq Try.underlying4 rfl rfl) rfl rfl rfl ?_
    refine V_to (fun _ _ => rfl) ?_
    refine C_cond rfl (fun hc47 => ?_) (fun hc47 => ?_)
    · rw [if_pos hc47] at hm
      refine C_seq ?_
      refine C_region ?_
      refine V_y (Y_assign rfl) rfl rfl rfl ?_
      refine V_to (fun _ _ => rfl) ?_
      obtain rfl := Option.some.inj hm
      refine C_ret ?_
      try simp only [↓inBlock_ret, ↓then_ret]
      exact retQ rfl (Res.one Try.results68 rfl) ⟨rfl, hK.kp⟩
    · rw [if_neg (nt hc47)] at hm
      refine C_skip_to (fun _ _ => rfl) ?_
      refine C_seq ?_
      refine C_seq ?_
      refine C_region ?_
      have h48 := El_level_Clock_6 h6
      refine V_y (Y_fieldAddr Try.underlying35 rfl Try.sizeOf33 (by decide) rfl) rfl rfl rfl ?_
      obtain ⟨v49, h50, h51⟩ := El.list h48
      refine V_y (Y_load h50 Try.isAgg33 rfl) rfl rfl rfl ?_
      refine V_y (Y_lenSl h51 rfl Try.underlying33 rfl) rfl rfl rfl ?_
      refine V_y (Y_gtr rfl rfl) rfl rfl rfl ?_
      refine V_to (fun _ _ => rfl) ?_
      refine C_cond rfl (fun hc52 => ?_) (fun hc52 => ?_)
      · rw [if_pos hc52] at hm
        refine C_seq ?_
        refine C_region ?_
        refine V_y (Y_assign rfl) rfl rfl rfl ?_
        refine V_to (fun _ _ => rfl) ?_
        obtain rfl := Option.some.inj hm
        refine C_ret ?_
        try simp only [↓inBlock_ret, ↓then_ret]
        exact retQ rfl (Res.one Try.results68 rfl) ⟨rfl, hK.kp⟩
      · rw [if_neg (nt hc52)] at hm
        refine C_skip_to (fun _ _ => rfl) ?_
        refine C_seq ?_
        refine C_seq ?_
        refine C_region ?_
        have h53 := El_level_Clock_6 h6
        refine V_y (Y_fieldAddr Try.underlying35 rfl Try.sizeOf33 (by decide) rfl) rfl rfl rfl ?_
        obtain ⟨v54, h55, h56⟩ := El.list h53
        refine V_y (Y_load h55 Try.isAgg33 rfl) rfl rfl rfl ?_
        refine V_y (Y_lenSl h56 rfl Try.underlying33 rfl) rfl rfl rfl ?_
        refine V_y (Y_move rfl) rfl rfl rfl ?_
        refine V_to (fun _ _ => rfl) ?_
        have hn77 := Sl.le h56
        obtain ⟨o57, ho57, hm⟩ := Option.bind_eq_some_iff.1 hm
        refine C_cutG (ι := (Unit × (Nat → Prop))) (fun ⟨s58, A64⟩ => []) (fun ⟨s58, A64⟩ => fun w' => o57 = .fin s58 ∧ Hp w.heap.size A64 w' ([]) ∧ Tr w.heap.size A w4 A64 w') ?_ ?_
        · refine C_block ?_
          refine C_range ho57 (fun k60 _ a w' => ∃ i : (Nat → Prop), Has ⟨169, [], none⟩ a ([(1, .pointer (some ⟨b3, 0, none⟩)), (79, v54), (80, .int .i64 (c.pieces.length : Int)), (81, .int .i64 (k60 : Int))]) ∧ Hp w.heap.size i w' ([]) ∧ Tr w.heap.size A w4 i w') (fun a ha => ⟨A, ha.sub ⟨rfl, rfl, rfl, rfl, trivial⟩, ⟨hH, Tr.refl hA⟩⟩) ?_
          rintro K k60 _ a w67 ⟨A68, ha157, hH69, hr59⟩ hle73 K76 h75
          refine C_of ?_ ha157
          replace h6 := El.tr h6 hr59
          replace h56 := Sl.tr h56 hr59
          replace hK := Tr.trans hK hr59
          replace hB := Nat.le_trans hB hr59.ex.size
          replace hA := hr59.new
          replace hH : Hp w.heap.size A68 w67 ([]) := hH69
          refine C_seq (C_region (V_y (Y_lss rfl rfl) rfl rfl rfl (V_to (fun _ _ => rfl) ?_)))
          refine C_seq ?_
          refine C_cond rfl (fun hc78 => ?_) (fun hc78 => ?_)
          · have hlt74 := lt_of_dec hc78
            obtain ⟨x70, h71, h72⟩ := K76 hlt74
            refine C_skip_to (fun _ _ => rfl) ?_
            refine C_seq ?_
            refine C_block ?_
            refine C_seq ?_
            refine C_region ?_
            refine V_y (Y_move rfl) rfl rfl rfl ?_
            obtain ⟨x79, hx79, h71⟩ := Option.bind_eq_some_iff.1 h71
            refine V_indexAddr h56 hx79 Try.underlying33 Try.sizeOf64 rfl rfl rfl ?_
            intro b80 o81 h82
            obtain ⟨h83, _⟩ := El_level_Piece h82
            refine V_y (Y_loadA h83 Try.isAgg64 Try.sizeOf64 rfl) rfl rfl rfl ?_
            refine V_alloc Try.zeroValue64 rfl ?_
            intro b84 w85 h86
            refine V_y (Y_assign rfl) rfl rfl rfl ?_
            refine V_storeNew h86 Try.sizeOf64 rfl rfl rfl rfl (by exact (List.forall_mem_cons.2 ⟨rfl, (List.forall_mem_cons.2 ⟨rfl, (List.forall_mem_cons.2 ⟨rfl, (fun _ h => nomatch h)⟩)⟩)⟩)) ?_
            intro w87 h88
            have hk90 := h88.kp
            have h89 : El (α := level_Piece) A68 w87 b84 0 x79 := h88.el hA ⟨[.int .i64 x79.from_], _, rfl, rfl, ⟨[.int .i64 x79.to_], _, rfl, rfl, rfl⟩⟩
            have ht91 := Kp.tr hk90 hA hB
            replace hH := Hp.kp hH hk90
            replace h6 := El.tr h6 ht91
            replace h56 := Sl.tr h56 ht91
            replace h82 := El.tr h82 ht91
            replace hK := Tr.trans hK ht91
            replace hr59 := Tr.trans hr59 ht91
            replace hB := Nat.le_trans hB ht91.ex.size
            replace hA := ht91.new
            refine V_to (fun _ _ => rfl) ?_
            refine C_block ?_
            refine C_seq ?_
            refine C_region ?_
            have h92 := El_level_Piece_0 h89
            refine V_y (Y_fieldAddr Try.underlying64 rfl Try.sizeOf3 (by decide) rfl) rfl rfl rfl ?_
            refine V_y (Y_load (El.int h92) Try.isAgg3 rfl) rfl rfl rfl ?_
            have h93 := El_level_Clock_3 h6
            refine V_y (Y_fieldAddr Try.underlying35 rfl Try.sizeOf3 (by decide) rfl) rfl rfl rfl ?_
            refine V_y (Y_load (El.int h93) Try.isAgg3 rfl) rfl rfl rfl ?_
            refine V_y (Y_lss rfl rfl) rfl rfl rfl ?_
            refine V_y (Y_move rfl) rfl rfl rfl ?_
            refine V_cut 5 (fun _ : Unit => [(1, .pointer (some ⟨b3, 0, none⟩)), (3, .int .i64 (k60 : Int)), (4, .pointer (some ⟨b84, 0, none⟩)), (79, v54), (80, .int .i64 (c.pieces.length : Int)), (81, .int .i64 (k60 : Int)), (97, .bool ((decide (x79.from_ < c.start)) || (!(portref2_IsMoment x79.from_))))]) (fun _ w' => w87 = w') ?_ ?_
            · simp only [List.take, List.drop]
              rcases Bool.eq_false_or_eq_true (decide (x79.from_ < c.start)) with hc94 | hc94
              · refine V_gn rfl rfl rfl hc94 rfl rfl rfl ?_
                refine V_gn rfl rfl rfl hc94 rfl rfl rfl ?_
                refine V_gn rfl rfl rfl hc94 rfl rfl rfl ?_
                refine V_gn rfl rfl rfl hc94 rfl rfl rfl ?_
                refine V_y (Y_pick_te rfl hc94 rfl) rfl rfl rfl ?_
                exact V_end fun a ha => ⟨(), ha.sub ⟨rfl, rfl, rfl, rfl, rfl, rfl, (by rw [hc94]; rfl), trivial⟩, rfl⟩
              · refine V_ge rfl rfl rfl hc94 ?_
                have h96 := El_level_Piece_0 h89
                refine V_y (Y_fieldAddr Try.underlying64 rfl Try.sizeOf3 (by decide) rfl) rfl rfl rfl ?_
                refine V_ge rfl rfl rfl hc94 ?_
                refine V_y (Y_load (El.int h96) Try.isAgg3 rfl) rfl rfl rfl ?_
                refine V_ge rfl rfl rfl hc94 ?_
                refine V_call Try.call33 rfl rfl rfl rfl (portref2_IsMoment_c w87 x79.from_) ?_
                rintro _ _ ⟨rfl, rfl⟩
                refine V_ge rfl rfl rfl hc94 ?_
                refine V_y (Y_not rfl) rfl rfl rfl ?_
                refine V_y (Y_pick_fe rfl hc94 rfl) rfl rfl rfl ?_
                exact V_end fun a ha => ⟨(), ha.sub ⟨rfl, rfl, rfl, rfl, rfl, rfl, (by rw [hc94]; rfl), trivial⟩, rfl⟩
            simp only [List.take, List.drop]
            rintro _ _ rfl
            refine V_y (Y_move rfl) rfl rfl rfl ?_
            refine V_cut 4 (fun _ : Unit => [(1, .pointer (some ⟨b3, 0, none⟩)), (3, .int .i64 (k60 : Int)), (4, .pointer (some ⟨b84, 0, none⟩)), (79, v54), (80, .int .i64 (c.pieces.length : Int)), (81, .int .i64 (k60 : Int)), (102, .bool (((decide (x79.from_ < c.start)) || (!(portref2_IsMoment x79.from_))) || (decide (x79.calendar < 0))))]) (fun _ w' => w87 = w') ?_ ?_
            · simp only [List.take, List.drop]
              rcases Bool.eq_false_or_eq_true (((decide (x79.from_ < c.start)) || (!(portref2_IsMoment x79.from_)))) with hc97 | hc97
              · refine V_gn rfl rfl rfl hc97 rfl rfl rfl ?_
                refine V_gn rfl rfl rfl hc97 rfl rfl rfl ?_
                refine V_gn rfl rfl rfl hc97 rfl rfl rfl ?_
                refine V_y (Y_pick_te rfl hc97 rfl) rfl rfl rfl ?_
                exact V_end fun a ha => ⟨(), ha.sub ⟨rfl, rfl, rfl, rfl, rfl, rfl, (by rw [hc97]; rfl), trivial⟩, rfl⟩
              · refine V_ge rfl rfl rfl hc97 ?_
                have h99 := El_level_Piece_2 h89
                refine V_y (Y_fieldAddr Try.underlying64 rfl Try.sizeOf3 (by decide) rfl) rfl rfl rfl ?_
                refine V_ge rfl rfl rfl hc97 ?_
                refine V_y (Y_load (El.int h99) Try.isAgg3 rfl) rfl rfl rfl ?_
                refine V_ge rfl rfl rfl hc97 ?_
                refine V_y (Y_lss rfl rfl) rfl rfl rfl ?_
                refine V_y (Y_pick_fe rfl hc97 rfl) rfl rfl rfl ?_
                exact V_end fun a ha => ⟨(), ha.sub ⟨rfl, rfl, rfl, rfl, rfl, rfl, (by rw [hc97]; rfl), trivial⟩, rfl⟩
            simp only [List.take, List.drop]
            rintro _ _ rfl
            refine V_y (Y_move rfl) rfl rfl rfl ?_
            refine V_cut 4 (fun _ : Unit => [(1, .pointer (some ⟨b3, 0, none⟩)), (3, .int .i64 (k60 : Int)), (4, .pointer (some ⟨b84, 0, none⟩)), (79, v54), (80, .int .i64 (c.pieces.length : Int)), (81, .int .i64 (k60 : Int)), (107, .bool ((((decide (x79.from_ < c.start)) || (!(portref2_IsMoment x79.from_))) || (decide (x79.calendar < 0))) || (decide ((20 : Int) ≤ x79.calendar))))]) (fun _ w' => w87 = w') ?_ ?_
            · simp only [List.take, List.drop]
              rcases Bool.eq_false_or_eq_true ((((decide (x79.from_ < c.start)) || (!(portref2_IsMoment x79.from_))) || (decide (x79.calendar < 0)))) with hc100 | hc100
              · refine V_gn rfl rfl rfl hc100 rfl rfl rfl ?_
                refine V_gn rfl rfl rfl hc100 rfl rfl rfl ?_
                refine V_gn rfl rfl rfl hc100 rfl rfl rfl ?_
                refine V_y (Y_pick_te rfl hc100 rfl) rfl rfl rfl ?_
                exact V_end fun a ha => ⟨(), ha.sub ⟨rfl, rfl, rfl, rfl, rfl, rfl, (by rw [hc100]; rfl), trivial⟩, rfl⟩
              · refine V_ge rfl rfl rfl hc100 ?_
                have h102 := El_level_Piece_2 h89
                refine V_y (Y_fieldAddr Try.underlying64 rfl Try.sizeOf3 (by decide) rfl) rfl rfl rfl ?_
                refine V_ge rfl rfl rfl hc100 ?_
                refine V_y (Y_load (El.int h102) Try.isAgg3 rfl) rfl rfl rfl ?_
                refine V_ge rfl rfl rfl hc100 ?_
                refine V_y (Y_geq rfl rfl) rfl rfl rfl ?_
                refine V_y (Y_pick_fe rfl hc100 rfl) rfl rfl rfl ?_
                exact V_end fun a ha => ⟨(), ha.sub ⟨rfl, rfl, rfl, rfl, rfl, rfl, (by rw [hc100]; rfl), trivial⟩, rfl⟩
            simp only [List.take, List.drop]
            rintro _ _ rfl
            refine V_y (Y_move rfl) rfl rfl rfl ?_
            refine V_cut 17 (fun _ : Unit => [(1, .pointer (some ⟨b3, 0, none⟩)), (3, .int .i64 (k60 : Int)), (4, .pointer (some ⟨b84, 0, none⟩)), (79, v54), (80, .int .i64 (c.pieces.length : Int)), (81, .int .i64 (k60 : Int)), (125, .bool (((((decide (x79.from_ < c.start)) || (!(portref2_IsMoment x79.from_))) || (decide (x79.calendar < 0))) || (decide ((20 : Int) ≤ x79.calendar))) || ((x79.to_ != (-1)) && ((!(portref2_IsMoment x79.to_)) || (decide (x79.to_ ≤ x79.from_))))))]) (fun _ w' => w87 = w') ?_ ?_
            · simp only [List.take, List.drop]
              rcases Bool.eq_false_or_eq_true (((((decide (x79.from_ < c.start)) || (!(portref2_IsMoment x79.from_))) || (decide (x79.calendar < 0))) || (decide ((20 : Int) ≤ x79.calendar)))) with hc103 | hc103
              · refine V_gn rfl rfl rfl hc103 rfl rfl rfl ?_
                refine V_gn rfl rfl rfl hc103 rfl rfl rfl ?_
                refine V_gn rfl rfl rfl hc103 rfl rfl rfl ?_
                refine V_gn rfl rfl rfl hc103 rfl rfl rfl ?_
                refine V_gu rfl rfl rfl rfl rfl ?_
                refine V_gu rfl rfl rfl rfl rfl ?_
                refine V_gu rfl rfl rfl rfl rfl ?_
                refine V_gu rfl rfl rfl rfl rfl ?_
                refine V_gu rfl rfl rfl rfl rfl ?_
                refine V_gu rfl rfl rfl rfl rfl ?_
                refine V_gu rfl rfl rfl rfl rfl ?_
                refine V_gu rfl rfl rfl rfl rfl ?_
                refine V_gu rfl rfl rfl rfl rfl ?_
                refine V_gu rfl rfl rfl rfl rfl ?_
                refine V_gu rfl rfl rfl rfl rfl ?_
                refine V_gn rfl rfl rfl hc103 rfl rfl rfl ?_
                refine V_y (Y_pick_te rfl hc103 rfl) rfl rfl rfl ?_
                exact V_end fun a ha => ⟨(), ha.sub ⟨rfl, rfl, rfl, rfl, rfl, rfl, (by rw [hc103]; rfl), trivial⟩, rfl⟩
              · refine V_ge rfl rfl rfl hc103 ?_
                have h105 := El_level_Piece_1 h89
                refine V_y (Y_fieldAddr Try.underlying64 rfl Try.sizeOf3 (by decide) rfl) rfl rfl rfl ?_
                refine V_ge rfl rfl rfl hc103 ?_
                refine V_y (Y_load (El.int h105) Try.isAgg3 rfl) rfl rfl rfl ?_
                refine V_ge rfl rfl rfl hc103 ?_
                refine V_y (Y_neq rfl rfl) rfl rfl rfl ?_
                refine V_ge rfl rfl rfl hc103 ?_
                refine V_y (Y_move rfl) rfl rfl rfl ?_
                refine V_cut 12 (fun _ : Unit => [(1, .pointer (some ⟨b3, 0, none⟩)), (3, .int .i64 (k60 : Int)), (4, .pointer (some ⟨b84, 0, none⟩)), (79, v54), (80, .int .i64 (c.pieces.length : Int)), (81, .int .i64 (k60 : Int)), (108, .bool ((((decide (x79.from_ < c.start)) || (!(portref2_IsMoment x79.from_))) || (decide (x79.calendar < 0))) || (decide ((20 : Int) ≤ x79.calendar)))), (124, .bool ((x79.to_ != (-1)) && ((!(portref2_IsMoment x79.to_)) || (decide (x79.to_ ≤ x79.from_)))))]) (fun _ w' => w87 = w') ?_ ?_
                · simp only [List.take, List.drop]
                  rcases Bool.eq_false_or_eq_true (x79.to_ != (-1)) with hc106 | hc106
                  · refine V_ge rfl rfl rfl hc106 ?_
                    have h108 := El_level_Piece_1 h89
                    refine V_y (Y_fieldAddr Try.underlying64 rfl Try.sizeOf3 (by decide) rfl) rfl rfl rfl ?_
                    refine V_ge rfl rfl rfl hc106 ?_
                    refine V_y (Y_load (El.int h108) Try.isAgg3 rfl) rfl rfl rfl ?_
                    refine V_ge rfl rfl rfl hc106 ?_
                    refine V_call Try.call33 rfl rfl rfl rfl (portref2_IsMoment_c w87 x79.to_) ?_
                    rintro _ _ ⟨rfl, rfl⟩
                    refine V_ge rfl rfl rfl hc106 ?_
                    refine V_y (Y_not rfl) rfl rfl rfl ?_
                    refine V_ge rfl rfl rfl hc106 ?_
                    refine V_y (Y_move rfl) rfl rfl rfl ?_
                    refine V_cut 6 (fun _ : Unit => [(1, .pointer (some ⟨b3, 0, none⟩)), (3, .int .i64 (k60 : Int)), (4, .pointer (some ⟨b84, 0, none⟩)), (79, v54), (80, .int .i64 (c.pieces.length : Int)), (81, .int .i64 (k60 : Int)), (108, .bool ((((decide (x79.from_ < c.start)) || (!(portref2_IsMoment x79.from_))) || (decide (x79.calendar < 0))) || (decide ((20 : Int) ≤ x79.calendar)))), (112, .bool (x79.to_ != (-1))), (123, .bool ((!(portref2_IsMoment x79.to_)) || (decide (x79.to_ ≤ x79.from_))))]) (fun _ w' => w87 = w') ?_ ?_
                    · simp only [List.take, List.drop]
                      rcases Bool.eq_false_or_eq_true (!(portref2_IsMoment x79.to_)) with hc109 | hc109
                      · refine V_gn rfl rfl rfl hc109 rfl rfl rfl ?_
                        refine V_gn rfl rfl rfl hc109 rfl rfl rfl ?_
                        refine V_gn rfl rfl rfl hc109 rfl rfl rfl ?_
                        refine V_gn rfl rfl rfl hc109 rfl rfl rfl ?_
                        refine V_gn rfl rfl rfl hc109 rfl rfl rfl ?_
                        refine V_ge rfl rfl rfl hc106 ?_
                        refine V_y (Y_pick_te rfl hc109 rfl) rfl rfl rfl ?_
                        exact V_end fun a ha => ⟨(), ha.sub ⟨rfl, rfl, rfl, rfl, rfl, rfl, rfl, rfl, (by rw [hc109]; rfl), trivial⟩, rfl⟩
                      · refine V_ge rfl rfl rfl hc109 ?_
                        have h111 := El_level_Piece_1 h89
                        refine V_y (Y_fieldAddr Try.underlying64 rfl Try.sizeOf3 (by decide) rfl) rfl rfl rfl ?_
                        refine V_ge rfl rfl rfl hc109 ?_
                        refine V_y (Y_load (El.int h111) Try.isAgg3 rfl) rfl rfl rfl ?_
                        refine V_ge rfl rfl rfl hc109 ?_
                        have h112 := El_level_Piece_0 h89
                        refine V_y (Y_fieldAddr Try.underlying64 rfl Try.sizeOf3 (by decide) rfl) rfl rfl rfl ?_
                        refine V_ge rfl rfl rfl hc109 ?_
                        refine V_y (Y_load (El.int h112) Try.isAgg3 rfl) rfl rfl rfl ?_
                        refine V_ge rfl rfl rfl hc109 ?_
                        refine V_y (Y_leq rfl rfl) rfl rfl rfl ?_
                        refine V_ge rfl rfl rfl hc106 ?_
                        refine V_y (Y_pick_fe rfl hc109 rfl) rfl rfl rfl ?_
                        exact V_end fun a ha => ⟨(), ha.sub ⟨rfl, rfl, rfl, rfl, rfl, rfl, rfl, rfl, (by rw [hc109]; rfl), trivial⟩, rfl⟩
                    simp only [List.take, List.drop]
                    rintro _ _ rfl
                    refine V_ge rfl rfl rfl hc103 ?_
                    refine V_y (Y_pick_te rfl hc106 rfl) rfl rfl rfl ?_
                    exact V_end fun a ha => ⟨(), ha.sub ⟨rfl, rfl, rfl, rfl, rfl, rfl, rfl, (by rw [hc106]; rfl), trivial⟩, rfl⟩
                  · refine V_gn rfl rfl rfl hc106 rfl rfl rfl ?_
                    refine V_gn rfl rfl rfl hc106 rfl rfl rfl ?_
                    refine V_gn rfl rfl rfl hc106 rfl rfl rfl ?_
                    refine V_gn rfl rfl rfl hc106 rfl rfl rfl ?_
                    refine V_gn rfl rfl rfl hc106 rfl rfl rfl ?_
                    refine V_gu rfl rfl rfl rfl rfl ?_
                    refine V_gu rfl rfl rfl rfl rfl ?_
                    refine V_gu rfl rfl rfl rfl rfl ?_
                    refine V_gu rfl rfl rfl rfl rfl ?_
                    refine V_gu rfl rfl rfl rfl rfl ?_
                    refine V_gn rfl rfl rfl hc106 rfl rfl rfl ?_
                    refine V_ge rfl rfl rfl hc103 ?_
                    refine V_y (Y_pick_fe rfl hc106 rfl) rfl rfl rfl ?_
                    exact V_end fun a ha => ⟨(), ha.sub ⟨rfl, rfl, rfl, rfl, rfl, rfl, rfl, (by rw [hc106]; rfl), trivial⟩, rfl⟩
                simp only [List.take, List.drop]
                rintro _ _ rfl
                refine V_y (Y_pick_fe rfl hc103 rfl) rfl rfl rfl ?_
                exact V_end fun a ha => ⟨(), ha.sub ⟨rfl, rfl, rfl, rfl, rfl, rfl, (by rw [hc103]; rfl), trivial⟩, rfl⟩
            simp only [List.take, List.drop]
            rintro _ _ rfl
            refine V_y (Y_assign rfl) rfl rfl rfl ?_
            refine V_to (fun _ _ => rfl) ?_
            refine C_cond rfl (fun hc113 => ?_) (fun hc113 => ?_)
            · rw [if_pos hc113] at h71
              refine C_seq ?_
              refine C_region ?_
              refine V_y (Y_assign rfl) rfl rfl rfl ?_
              refine V_to (fun _ _ => rfl) ?_
              obtain rfl := Option.some.inj h71
              obtain rfl := (h72 : Lp.rt _ = _)
              rw [Lp.andThen_rt] at hm
              obtain rfl := Option.some.inj hm
              refine C_ret ?_
              try simp only [↓inBlock_ret, ↓then_ret]
              exact retQ rfl (Res.one Try.results68 rfl) ⟨rfl, hK.kp⟩
            · rw [if_neg (nt hc113)] at h71
              refine C_seq ?_
              refine C_seq ?_
              refine C_region ?_
              have h114 := El_level_Piece_1 h89
              refine V_y (Y_fieldAddr Try.underlying64 rfl Try.sizeOf3 (by decide) rfl) rfl rfl rfl ?_
              refine V_y (Y_load (El.int h114) Try.isAgg3 rfl) rfl rfl rfl ?_
              refine V_y (Y_eql rfl rfl) rfl rfl rfl ?_
              refine V_y (Y_move rfl) rfl rfl rfl ?_
              refine V_cut 12 (fun _ : Unit => [(1, .pointer (some ⟨b3, 0, none⟩)), (3, .int .i64 (k60 : Int)), (4, .pointer (some ⟨b84, 0, none⟩)), (79, v54), (80, .int .i64 (c.pieces.length : Int)), (81, .int .i64 (k60 : Int)), (142, .bool ((x79.to_ == (-1)) && ((decide ((k60 : Int) < (w64 ((c.pieces.length : Int) - 1)))) || (c.stop != (-1)))))]) (fun _ w' => w87 = w') ?_ ?_
              · simp only [List.take, List.drop]
                rcases Bool.eq_false_or_eq_true (x79.to_ == (-1)) with hc115 | hc115
                · refine V_ge rfl rfl rfl hc115 ?_
                  refine V_y (Y_move rfl) rfl rfl rfl ?_
                  refine V_ge rfl rfl rfl hc115 ?_
                  have h117 := El_level_Clock_6 h6
                  refine V_y (Y_fieldAddr Try.underlying35 rfl Try.sizeOf33 (by decide) rfl) rfl rfl rfl ?_
                  refine V_ge rfl rfl rfl hc115 ?_
                  obtain ⟨v118, h119, h120⟩ := El.list h117
                  refine V_y (Y_load h119 Try.isAgg33 rfl) rfl rfl rfl ?_
                  refine V_ge rfl rfl rfl hc115 ?_
                  refine V_y (Y_lenSl h120 rfl Try.underlying33 rfl) rfl rfl rfl ?_
                  refine V_ge rfl rfl rfl hc115 ?_
                  refine V_y (Y_subI rfl rfl) rfl rfl rfl ?_
                  refine V_ge rfl rfl rfl hc115 ?_
                  refine V_y (Y_lss rfl rfl) rfl rfl rfl ?_
                  refine V_ge rfl rfl rfl hc115 ?_
                  refine V_y (Y_move rfl) rfl rfl rfl ?_
                  refine V_cut 4 (fun _ : Unit => [(1, .pointer (some ⟨b3, 0, none⟩)), (3, .int .i64 (k60 : Int)), (4, .pointer (some ⟨b84, 0, none⟩)), (79, v54), (80, .int .i64 (c.pieces.length : Int)), (81, .int .i64 (k60 : Int)), (130, .bool (x79.to_ == (-1))), (141, .bool ((decide ((k60 : Int) < (w64 ((c.pieces.length : Int) - 1)))) || (c.stop != (-1))))]) (fun _ w' => w87 = w') ?_ ?_
                  · simp only [List.take, List.drop]
                    rcases Bool.eq_false_or_eq_true (decide ((k60 : Int) < (w64 ((c.pieces.length : Int) - 1)))) with hc121 | hc121
                    · refine V_gn rfl rfl rfl hc121 rfl rfl rfl ?_
                      refine V_gn rfl rfl rfl hc121 rfl rfl rfl ?_
                      refine V_gn rfl rfl rfl hc121 rfl rfl rfl ?_
                      refine V_ge rfl rfl rfl hc115 ?_
                      refine V_y (Y_pick_te rfl hc121 rfl) rfl rfl rfl ?_
                      exact V_end fun a ha => ⟨(), ha.sub ⟨rfl, rfl, rfl, rfl, rfl, rfl, rfl, (by rw [hc121]; rfl), trivial⟩, rfl⟩
                    · refine V_ge rfl rfl rfl hc121 ?_
                      have h123 := El_level_Clock_4 h6
                      refine V_y (Y_fieldAddr Try.underlying35 rfl Try.sizeOf3 (by decide) rfl) rfl rfl rfl ?_
                      refine V_ge rfl rfl rfl hc121 ?_
                      refine V_y (Y_load (El.int h123) Try.isAgg3 rfl) rfl rfl rfl ?_
                      refine V_ge rfl rfl rfl hc121 ?_
                      refine V_y (Y_neq rfl rfl) rfl rfl rfl ?_
                      refine V_ge rfl rfl rfl hc115 ?_
                      refine V_y (Y_pick_fe rfl hc121 rfl) rfl rfl rfl ?_
                      exact V_end fun a ha => ⟨(), ha.sub ⟨rfl, rfl, rfl, rfl, rfl, rfl, rfl, (by rw [hc121]; rfl), trivial⟩, rfl⟩
                  simp only [List.take, List.drop]
                  rintro _ _ rfl
                  refine V_y (Y_pick_te rfl hc115 rfl) rfl rfl rfl ?_
                  exact V_end fun a ha => ⟨(), ha.sub ⟨rfl, rfl, rfl, rfl, rfl, rfl, (by rw [hc115]; rfl), trivial⟩, rfl⟩
                · refine V_gn rfl rfl rfl hc115 rfl rfl rfl ?_
                  refine V_gn rfl rfl rfl hc115 rfl rfl rfl ?_
                  refine V_gn rfl rfl rfl hc115 rfl rfl rfl ?_
                  refine V_gn rfl rfl rfl hc115 rfl rfl rfl ?_
                  refine V_gn rfl rfl rfl hc115 rfl rfl rfl ?_
                  refine V_gn rfl rfl rfl hc115 rfl rfl rfl ?_
                  refine V_gn rfl rfl rfl hc115 rfl rfl rfl ?_
                  refine V_gu rfl rfl rfl rfl rfl ?_
                  refine V_gu rfl rfl rfl rfl rfl ?_
                  refine V_gu rfl rfl rfl rfl rfl ?_
                  refine V_gn rfl rfl rfl hc115 rfl rfl rfl ?_
                  refine V_y (Y_pick_fe rfl hc115 rfl) rfl rfl rfl ?_
                  exact V_end fun a ha => ⟨(), ha.sub ⟨rfl, rfl, rfl, rfl, rfl, rfl, (by rw [hc115]; rfl), trivial⟩, rfl⟩
              simp only [List.take, List.drop]
              rintro _ _ rfl
              refine V_y (Y_assign rfl) rfl rfl rfl ?_
              refine V_to (fun _ _ => rfl) ?_
              obtain ⟨s125, ho124, h71⟩ := Option.bind_eq_some_iff.1 h71
              refine C_cutG (ι := Unit) (fun (_ : Unit) => [(1, .pointer (some ⟨b3, 0, none⟩)), (3, .int .i64 (k60 : Int)), (4, .pointer (some ⟨b84, 0, none⟩)), (79, v54), (80, .int .i64 (c.pieces.length : Int)), (81, .int .i64 (k60 : Int)), (126, .bool s125)]) (fun (_ : Unit) => fun w' => w87 = w') ?_ ?_
              · refine C_cond rfl (fun hc130 => ?_) (fun hc130 => ?_)
                · rw [if_pos hc130] at ho124
                  obtain rfl := Option.some.inj ho124
                  refine C_skip (fun a ha131 => ?_)
                  exact ⟨(), ha131.sub ⟨rfl, rfl, rfl, rfl, rfl, rfl, rfl, trivial⟩, rfl⟩
                · rw [if_neg (nt hc130)] at ho124
                  refine C_region ?_
                  have h132 := El_level_Clock_4 h6
                  refine V_y (Y_fieldAddr Try.underlying35 rfl Try.sizeOf3 (by decide) rfl) rfl rfl rfl ?_
                  refine V_y (Y_load (El.int h132) Try.isAgg3 rfl) rfl rfl rfl ?_
                  refine V_y (Y_neq rfl rfl) rfl rfl rfl ?_
                  refine V_y (Y_move rfl) rfl rfl rfl ?_
                  refine V_cut 6 (fun _ : Unit => [(1, .pointer (some ⟨b3, 0, none⟩)), (3, .int .i64 (k60 : Int)), (4, .pointer (some ⟨b84, 0, none⟩)), (79, v54), (80, .int .i64 (c.pieces.length : Int)), (81, .int .i64 (k60 : Int)), (152, .bool ((c.stop != (-1)) && (decide (c.stop < x79.to_))))]) (fun _ w' => w87 = w') ?_ ?_
                  · simp only [List.take, List.drop]
                    rcases Bool.eq_false_or_eq_true (c.stop != (-1)) with hc133 | hc133
                    · refine V_ge rfl rfl rfl hc133 ?_
                      have h135 := El_level_Piece_1 h89
                      refine V_y (Y_fieldAddr Try.underlying64 rfl Try.sizeOf3 (by decide) rfl) rfl rfl rfl ?_
                      refine V_ge rfl rfl rfl hc133 ?_
                      refine V_y (Y_load (El.int h135) Try.isAgg3 rfl) rfl rfl rfl ?_
                      refine V_ge rfl rfl rfl hc133 ?_
                      have h136 := El_level_Clock_4 h6
                      refine V_y (Y_fieldAddr Try.underlying35 rfl Try.sizeOf3 (by decide) rfl) rfl rfl rfl ?_
                      refine V_ge rfl rfl rfl hc133 ?_
                      refine V_y (Y_load (El.int h136) Try.isAgg3 rfl) rfl rfl rfl ?_
                      refine V_ge rfl rfl rfl hc133 ?_
                      refine V_y (Y_gtr rfl rfl) rfl rfl rfl ?_
                      refine V_y (Y_pick_te rfl hc133 rfl) rfl rfl rfl ?_
                      exact V_end fun a ha => ⟨(), ha.sub ⟨rfl, rfl, rfl, rfl, rfl, rfl, (by rw [hc133]; rfl), trivial⟩, rfl⟩
                    · refine V_gn rfl rfl rfl hc133 rfl rfl rfl ?_
                      refine V_gn rfl rfl rfl hc133 rfl rfl rfl ?_
                      refine V_gn rfl rfl rfl hc133 rfl rfl rfl ?_
                      refine V_gn rfl rfl rfl hc133 rfl rfl rfl ?_
                      refine V_gn rfl rfl rfl hc133 rfl rfl rfl ?_
                      refine V_y (Y_pick_fe rfl hc133 rfl) rfl rfl rfl ?_
                      exact V_end fun a ha => ⟨(), ha.sub ⟨rfl, rfl, rfl, rfl, rfl, rfl, (by rw [hc133]; rfl), trivial⟩, rfl⟩
                  simp only [List.take, List.drop]
                  rintro _ _ rfl
                  refine V_y (Y_assign rfl) rfl rfl rfl ?_
                  obtain rfl := Option.some.inj ho124
                  refine V_end (fun a ha137 => ?_)
                  exact ⟨(), ha137.sub ⟨rfl, rfl, rfl, rfl, rfl, rfl, rfl, trivial⟩, rfl⟩
              rintro _ _ rfl a ha129
              refine C_at (n := ⟨169, [], none⟩) (fun _ _ => rfl) ?_ ha129
              refine C_cond rfl (fun hc138 => ?_) (fun hc138 => ?_)
              · rw [if_pos hc138] at h71
                refine C_seq ?_
                refine C_region ?_
                refine V_y (Y_assign rfl) rfl rfl rfl ?_
                refine V_to (fun _ _ => rfl) ?_
                obtain rfl := Option.some.inj h71
                obtain rfl := (h72 : Lp.rt _ = _)
                rw [Lp.andThen_rt] at hm
                obtain rfl := Option.some.inj hm
                refine C_ret ?_
                try simp only [↓inBlock_ret, ↓then_ret]
                exact retQ rfl (Res.one Try.results68 rfl) ⟨rfl, hK.kp⟩
              · rw [if_neg (nt hc138)] at h71
                refine C_seq ?_
                refine C_region_q Try_mixed (by kernel_rfl) ?_
                refine VQ_y (fun w' hw' => Y_move rfl) rfl rfl rfl ?_
                refine VQ_y (fun w' hw' => Y_gtr rfl rfl) rfl rfl rfl ?_
                refine VQ_y (fun w' hw' => Y_move rfl) rfl rfl rfl ?_
                obtain ⟨s140, hs140, h71⟩ := Option.bind_eq_some_iff.1 h71
                refine VQ_cut 11 (fun _ : Unit => [(1, .pointer (some ⟨b3, 0, none⟩)), (79, v54), (80, .int .i64 (c.pieces.length : Int)), (81, .int .i64 (k60 : Int)), (167, .bool s140)]) (fun _ => True) ?_ ?_
                · simp only [List.take, List.drop]
                  rcases Bool.eq_false_or_eq_true (decide ((0 : Int) < (k60 : Int))) with hc139 | hc139
                  · rw [if_pos hc139] at hs140
                    refine VQ_ge rfl rfl rfl hc139 ?_
                    have h141 := El_level_Piece_0 h89
                    refine VQ_y (fun w' hw' => Y_fieldAddr Try.underlying64 rfl Try.sizeOf3 (by decide) rfl) rfl rfl rfl ?_
                    refine VQ_ge rfl rfl rfl hc139 ?_
                    refine VQ_y (fun w' hw' => Y_load (El.int (El.kp h141 hw')) Try.isAgg3 rfl) rfl rfl rfl ?_
                    refine VQ_ge rfl rfl rfl hc139 ?_
                    have h142 := El_level_Clock_6 h6
                    refine VQ_y (fun w' hw' => Y_fieldAddr Try.underlying35 rfl Try.sizeOf33 (by decide) rfl) rfl rfl rfl ?_
                    refine VQ_ge rfl rfl rfl hc139 ?_
                    obtain ⟨v143, h144, h145⟩ := El.list h142
                    refine VQ_y (fun w' hw' => Y_load ((World.cell?_of_block (hw'.block _ (World.block_lt_of_cell? _ _ h144))).trans h144) Try.isAgg33 rfl) rfl rfl rfl ?_
                    refine VQ_ge rfl rfl rfl hc139 ?_
                    refine VQ_y (fun w' hw' => Y_move rfl) rfl rfl rfl ?_
                    refine VQ_ge rfl rfl rfl hc139 ?_
                    refine VQ_y (fun w' hw' => Y_subI rfl rfl) rfl rfl rfl ?_
                    refine VQ_ge rfl rfl rfl hc139 ?_
                    obtain ⟨x146, hx146, hs140⟩ := Option.bind_eq_some_iff.1 hs140
                    refine VQ_indexAddr h145 hx146 Try.underlying33 Try.sizeOf64 rfl rfl rfl ?_
                    intro b147 o148 h149
                    refine VQ_ge rfl rfl rfl hc139 ?_
                    have h150 := El_level_Piece_1 h149
                    refine VQ_y (fun w' hw' => Y_fieldAddr Try.underlying64 rfl Try.sizeOf3 (by decide) rfl) rfl rfl rfl ?_
                    refine VQ_ge rfl rfl rfl hc139 ?_
                    refine VQ_y (fun w' hw' => Y_load (El.int (El.kp h150 hw')) Try.isAgg3 rfl) rfl rfl rfl ?_
                    refine VQ_ge rfl rfl rfl hc139 ?_
                    refine VQ_y (fun w' hw' => Y_lss rfl rfl) rfl rfl rfl ?_
                    refine VQ_y (fun _ _ => Y_pick_te rfl hc139 rfl) rfl rfl rfl ?_
                    obtain rfl := Option.some.inj hs140
                    exact VQ_end fun a ha => ⟨(), ha.sub ⟨rfl, rfl, rfl, rfl, rfl, trivial⟩, trivial⟩
                  · rw [if_neg (nt hc139)] at hs140
                    refine VQ_gn rfl rfl rfl hc139 rfl rfl rfl ?_
                    refine VQ_gn rfl rfl rfl hc139 rfl rfl rfl ?_
                    refine VQ_gn rfl rfl rfl hc139 rfl rfl rfl ?_
                    refine VQ_gn rfl rfl rfl hc139 rfl rfl rfl ?_
                    refine VQ_gn rfl rfl rfl hc139 rfl rfl rfl ?_
                    refine VQ_gn rfl rfl rfl hc139 rfl rfl rfl ?_
                    refine VQ_gn rfl rfl rfl hc139 rfl rfl rfl ?_
                    refine VQ_gn rfl rfl rfl hc139 rfl rfl rfl ?_
                    refine VQ_gn rfl rfl rfl hc139 rfl rfl rfl ?_
                    refine VQ_gn rfl rfl rfl hc139 rfl rfl rfl ?_
                    refine VQ_y (fun _ _ => Y_pick_fe rfl hc139 rfl) rfl rfl rfl ?_
                    obtain rfl := Option.some.inj hs140
                    exact VQ_end fun a ha => ⟨(), ha.sub ⟨rfl, rfl, rfl, rfl, rfl, trivial⟩, trivial⟩
                simp only [List.take, List.drop]
                rintro _ _
                refine VQ_y (fun w' hw' => Y_assign rfl) rfl rfl rfl ?_
                refine VQ_to (fun _ _ => rfl) (fun w151 hk152 => ?_)
                have ht153 := Kp.tr hk152 hA hB
                replace hH := Hp.kp hH hk152
                replace h6 := El.tr h6 ht153
                replace h56 := Sl.tr h56 ht153
                replace hK := Tr.trans hK ht153
                replace hr59 := Tr.trans hr59 ht153
                replace hB := Nat.le_trans hB ht153.ex.size
                replace hA := ht153.new
                refine C_cond rfl (fun hc154 => ?_) (fun hc154 => ?_)
                · rw [if_pos hc154] at h71
                  refine C_seq ?_
                  refine C_region ?_
                  refine V_y (Y_assign rfl) rfl rfl rfl ?_
                  refine V_to (fun _ _ => rfl) ?_
                  obtain rfl := Option.some.inj h71
                  obtain rfl := (h72 : Lp.rt _ = _)
                  rw [Lp.andThen_rt] at hm
                  obtain rfl := Option.some.inj hm
                  refine C_ret ?_
                  try simp only [↓inBlock_ret, ↓then_ret]
                  exact retQ rfl (Res.one Try.results68 rfl) ⟨rfl, hK.kp⟩
                · rw [if_neg (nt hc154)] at h71
                  refine C_skip_to (fun _ _ => rfl) ?_
                  refine C_region ?_
                  refine V_y (Y_addI rfl rfl) rfl rfl rfl ?_
                  refine V_y (Y_move rfl) rfl rfl rfl ?_
                  obtain rfl := Option.some.inj h71
                  refine V_end (fun a ha155 => ?_)
                  exact ⟨(), hlt74, h72, ⟨A68, ha155.sub ⟨rfl, rfl, rfl, (congrArg (fun z => some (Value.int .i64 z)) (w64_succ hlt74 hn77)), trivial⟩, ⟨hH, hr59⟩⟩⟩
          · refine C_exit (fun a ha156 => ?_)
            exact ⟨((), A68), ha156.sub trivial, ⟨(h75 (eq_of_dec hle73 hc78)).symm, hH, hr59⟩⟩
        rintro ⟨s58, A64⟩ w61 ⟨rfl, hH65, hk62⟩ a ha63
        rw [Lp.andThen_fin] at hm
        replace hK := Tr.trans hK hk62
        replace hB := Nat.le_trans hB hk62.ex.size
        replace hA := hk62.new
        replace hH : Hp w.heap.size A64 w61 ([]) := hH65
        refine C_at (n := ⟨169, [], none⟩) (fun _ _ => rfl) ?_ ha63
        refine C_seq ?_
        refine C_region ?_
        refine V_y (Y_assign rfl) rfl rfl rfl ?_
        refine V_to (fun _ _ => rfl) ?_
        obtain rfl := Option.some.inj hm
        refine C_ret ?_
        try simp only [↓inBlock_ret, ↓then_ret]
        exact retQ rfl (Res.one Try.results68 rfl) ⟨rfl, hK.kp⟩

set_option maxRecDepth 4000 in
set_option maxHeartbeats 4000000 in
theorem portref2_ZoneFault_1_c (w : World) (n : Int) : Ret Try.prog 84 #[.int .i64 n] w fun v w' => v = .bool (portref2_ZoneFault_1 n) ∧ w = w' := by
  generalize hm : portref2_ZoneFault_1 n = r
  unfold portref2_ZoneFault_1 at hm
  refine enter Try.func84 rfl Try.ntmps84 rfl ?_
  refine C_seq ?_
  refine C_region ?_
  refine V_y (Y_assign rfl) rfl rfl rfl ?_
  refine V_to (fun _ _ => rfl) ?_
  refine C_seq ?_
  refine C_region ?_
  refine V_y (Y_move rfl) rfl rfl rfl ?_
  refine V_y (Y_lss rfl rfl) rfl rfl rfl ?_
  refine V_y (Y_move rfl) rfl rfl rfl ?_
  refine V_cut 3 (fun _ : Unit => [(8, .bool ((decide (n < (-1440))) || (decide ((1440 : Int) < n))))]) (fun _ w' => w = w') ?_ ?_
  · simp only [List.take, List.drop]
    rcases Bool.eq_false_or_eq_true (decide (n < (-1440))) with hc1 | hc1
    · refine V_gn rfl rfl rfl hc1 rfl rfl rfl ?_
      refine V_gn rfl rfl rfl hc1 rfl rfl rfl ?_
      refine V_y (Y_pick_te rfl hc1 rfl) rfl rfl rfl ?_
      exact V_end fun a ha => ⟨(), ha.sub ⟨(by rw [hc1]; rfl), trivial⟩, rfl⟩
    · refine V_ge rfl rfl rfl hc1 ?_
      refine V_y (Y_move rfl) rfl rfl rfl ?_
      refine V_ge rfl rfl rfl hc1 ?_
      refine V_y (Y_gtr rfl rfl) rfl rfl rfl ?_
      refine V_y (Y_pick_fe rfl hc1 rfl) rfl rfl rfl ?_
      exact V_end fun a ha => ⟨(), ha.sub ⟨(by rw [hc1]; rfl), trivial⟩, rfl⟩
  simp only [List.take, List.drop]
  rintro _ _ rfl
  refine V_y (Y_assign rfl) rfl rfl rfl ?_
  refine V_to (fun _ _ => rfl) ?_
  obtain rfl := hm
  refine C_ret ?_
  try simp only [↓inBlock_ret, ↓then_ret]
  exact retQ rfl (Res.one Try.results84 rfl) ⟨rfl, rfl⟩

set_option maxRecDepth 4000 in
set_option maxHeartbeats 4000000 in
theorem portref2_ZoneFault_c (w : World) {A : Nat → Prop} (hA : ∀ b, w.heap.size ≤ b → A b) (z : cal_Zone) (v_z : Value) (h_z : Sl A w v_z z.changes) {r : Int} (hm : portref2_ZoneFault z = some r) : Ret Try.prog 61 #[.agg #[.int .i64 z.offset, v_z]] w fun v w' => v = .int .i64 r ∧ Kp w w' := by
  unfold portref2_ZoneFault at hm
  refine enter Try.func61 rfl Try.ntmps61 rfl ?_
  have hA0 := hA
  have hB := Nat.le_refl w.heap.size
  have hK : Tr w.heap.size A w A w := Tr.refl hA
  have hH : Hp w.heap.size A w [] := Hp.nil
  refine C_seq ?_
  refine C_region ?_
  refine V_box rfl rfl ?_
  intro b3 w4 h5
  have hk7 := h5.kp
  have h6 : El (α := cal_Zone) A w4 b3 0 z := h5.el hA ⟨[.int .i64 z.offset], _, rfl, rfl, ⟨_, rfl, h_z⟩⟩
  have ht8 := Kp.tr hk7 hA hB
  replace hH := Hp.kp hH hk7
  replace h_z := Sl.tr h_z ht8
  replace hK := Tr.trans hK ht8
  replace hB := Nat.le_trans hB ht8.ex.size
  replace hA := ht8.new
  refine V_y (Y_assign rfl) rfl rfl rfl ?_
  refine V_to (fun _ _ => rfl) ?_
  refine C_seq ?_
  refine C_region ?_
  refine V_y (Y_assign rfl) rfl rfl rfl ?_
  refine V_to (fun _ _ => rfl) ?_
  refine C_seq ?_
  refine C_seq ?_
  refine C_region ?_
  refine V_y (Y_move rfl) rfl rfl rfl ?_
  have h9 := El_cal_Zone_0 h6
  refine V_y (Y_fieldAddr Try.underlying24 rfl Try.sizeOf3 (by decide) rfl) rfl rfl rfl ?_
  refine V_y (Y_load (El.int h9) Try.isAgg3 rfl) rfl rfl rfl ?_
  refine V_call Try.call84 rfl rfl rfl rfl (portref2_ZoneFault_1_c w4 z.offset) ?_
  rintro _ _ ⟨rfl, rfl⟩
  refine V_to (fun _ _ => rfl) ?_
  refine C_cond rfl (fun hc10 => ?_) (fun hc10 => ?_)
  · rw [if_pos hc10] at hm
    refine C_seq ?_
    refine C_region ?_
    refine V_y (Y_assign rfl) rfl rfl rfl ?_
    refine V_to (fun _ _ => rfl) ?_
    obtain rfl := Option.some.inj hm
    refine C_ret ?_
    try simp only [↓inBlock_ret, ↓then_ret]
    exact retQ rfl (Res.one Try.results61 rfl) ⟨rfl, hK.kp⟩
  · rw [if_neg (nt hc10)] at hm
    refine C_skip_to (fun _ _ => rfl) ?_
    refine C_seq ?_
    refine C_seq ?_
    refine C_region ?_
    have h11 := El_cal_Zone_1 h6
    refine V_y (Y_fieldAddr Try.underlying24 rfl Try.sizeOf22 (by decide) rfl) rfl rfl rfl ?_
    obtain ⟨v12, h13, h14⟩ := El.list h11
    refine V_y (Y_load h13 Try.isAgg22 rfl) rfl rfl rfl ?_
    refine V_y (Y_lenSl h14 rfl Try.underlying22 rfl) rfl rfl rfl ?_
    refine V_y (Y_gtr rfl rfl) rfl rfl rfl ?_
    refine V_to (fun _ _ => rfl) ?_
    refine C_cond rfl (fun hc15 => ?_) (fun hc15 => ?_)
    · rw [if_pos hc15] at hm
      refine C_seq ?_
      refine C_region ?_
      refine V_y (Y_assign rfl) rfl rfl rfl ?_
      refine V_to (fun _ _ => rfl) ?_
      obtain rfl := Option.some.inj hm
      refine C_ret ?_
      try simp only [↓inBlock_ret, ↓then_ret]
      exact retQ rfl (Res.one Try.results61 rfl) ⟨rfl, hK.kp⟩
    · rw [if_neg (nt hc15)] at hm
      refine C_skip_to (fun _ _ => rfl) ?_
      refine C_seq ?_
      refine C_region ?_
      have h16 := El_cal_Zone_0 h6
      refine V_y (Y_fieldAddr Try.underlying24 rfl Try.sizeOf3 (by decide) rfl) rfl rfl rfl ?_
      refine V_y (Y_load (El.int h16) Try.isAgg3 rfl) rfl rfl rfl ?_
      refine V_y (Y_assign rfl) rfl rfl rfl ?_
      refine V_to (fun _ _ => rfl) ?_
      refine C_seq ?_
      refine C_seq ?_
      refine C_region ?_
      have h17 := El_cal_Zone_1 h6
      refine V_y (Y_fieldAddr Try.underlying24 rfl Try.sizeOf22 (by decide) rfl) rfl rfl rfl ?_
      obtain ⟨v18, h19, h20⟩ := El.list h17
      refine V_y (Y_load h19 Try.isAgg22 rfl) rfl rfl rfl ?_
      refine V_y (Y_lenSl h20 rfl Try.underlying22 rfl) rfl rfl rfl ?_
      refine V_y (Y_move rfl) rfl rfl rfl ?_
      refine V_to (fun _ _ => rfl) ?_
      have hn41 := Sl.le h20
      obtain ⟨o21, ho21, hm⟩ := Option.bind_eq_some_iff.1 hm
      refine C_cutG (ι := (Int × (Nat → Prop))) (fun ⟨s22, A28⟩ => []) (fun ⟨s22, A28⟩ => fun w' => o21 = .fin s22 ∧ Hp w.heap.size A28 w' ([]) ∧ Tr w.heap.size A w4 A28 w') ?_ ?_
      · refine C_block ?_
        refine C_range ho21 (fun k24 s30 a w' => ∃ i : (Nat → Prop), Has ⟨63, [], none⟩ a ([(1, .pointer (some ⟨b3, 0, none⟩)), (3, .func (.func 84) #[] #[]), (4, .int .i64 s30), (18, v18), (19, .int .i64 (z.changes.length : Int)), (20, .int .i64 (k24 : Int))]) ∧ Hp w.heap.size i w' ([]) ∧ Tr w.heap.size A w4 i w') (fun a ha => ⟨A, ha.sub ⟨rfl, rfl, rfl, rfl, rfl, rfl, trivial⟩, ⟨hH, Tr.refl hA⟩⟩) ?_
        rintro K k24 s30 a w31 ⟨A32, ha97, hH33, hr23⟩ hle37 K40 h39
        refine C_of ?_ ha97
        replace h6 := El.tr h6 hr23
        replace h20 := Sl.tr h20 hr23
        replace hK := Tr.trans hK hr23
        replace hB := Nat.le_trans hB hr23.ex.size
        replace hA := hr23.new
        replace hH : Hp w.heap.size A32 w31 ([]) := hH33
        refine C_seq (C_region (V_y (Y_lss rfl rfl) rfl rfl rfl (V_to (fun _ _ => rfl) ?_)))
        refine C_seq ?_
        refine C_cond rfl (fun hc42 => ?_) (fun hc42 => ?_)
        · have hlt38 := lt_of_dec hc42
          obtain ⟨x34, h35, h36⟩ := K40 hlt38
          refine C_skip_to (fun _ _ => rfl) ?_
          refine C_seq ?_
          refine C_block ?_
          refine C_seq ?_
          refine C_region ?_
          refine V_y (Y_move rfl) rfl rfl rfl ?_
          obtain ⟨x43, hx43, h35⟩ := Option.bind_eq_some_iff.1 h35
          refine V_indexAddr h20 hx43 Try.underlying22 Try.sizeOf116 rfl rfl rfl ?_
          intro b44 o45 h46
          obtain ⟨h47, _⟩ := El_cal_Change h46
          refine V_y (Y_loadA h47 Try.isAgg116 Try.sizeOf116 rfl) rfl rfl rfl ?_
          refine V_alloc Try.zeroValue116 rfl ?_
          intro b48 w49 h50
          refine V_y (Y_assign rfl) rfl rfl rfl ?_
          refine V_storeNew h50 Try.sizeOf116 rfl rfl rfl rfl (by exact (List.forall_mem_cons.2 ⟨rfl, (List.forall_mem_cons.2 ⟨rfl, (fun _ h => nomatch h)⟩)⟩)) ?_
          intro w51 h52
          have hk54 := h52.kp
          have h53 : El (α := cal_Change) A32 w51 b48 0 x43 := h52.el hA ⟨[.int .i64 x43.at_], _, rfl, rfl, rfl⟩
          have ht55 := Kp.tr hk54 hA hB
          replace hH := Hp.kp hH hk54
          replace h6 := El.tr h6 ht55
          replace h20 := Sl.tr h20 ht55
          replace h46 := El.tr h46 ht55
          replace hK := Tr.trans hK ht55
          replace hr23 := Tr.trans hr23 ht55
          replace hB := Nat.le_trans hB ht55.ex.size
          replace hA := ht55.new
          refine V_to (fun _ _ => rfl) ?_
          refine C_seq ?_
          refine C_block ?_
          refine C_seq ?_
          obtain ⟨s57, ho56, h35⟩ := Option.bind_eq_some_iff.1 h35
          refine C_cutG (ι := (Nat → Prop)) (fun (A62 : (Nat → Prop)) => [(1, .pointer (some ⟨b3, 0, none⟩)), (3, .func (.func 84) #[] #[]), (4, .int .i64 s30), (5, .int .i64 (k24 : Int)), (6, .pointer (some ⟨b48, 0, none⟩)), (18, v18), (19, .int .i64 (z.changes.length : Int)), (20, .int .i64 (k24 : Int)), (25, .bool s57)]) (fun (A62 : (Nat → Prop)) => fun w' => Hp w.heap.size A62 w' ([]) ∧ Tr w.heap.size A32 w51 A62 w') ?_ ?_
          · have hr58 : Tr w.heap.size A32 w51 A32 w51 := Tr.refl hA
            refine C_region ?_
            have h64 := El_cal_Change_0 h53
            refine V_y (Y_fieldAddr Try.underlying116 rfl Try.sizeOf3 (by decide) rfl) rfl rfl rfl ?_
            refine V_y (Y_load (El.int h64) Try.isAgg3 rfl) rfl rfl rfl ?_
            refine V_y (Y_lss rfl rfl) rfl rfl rfl ?_
            refine V_y (Y_move rfl) rfl rfl rfl ?_
            rcases Bool.eq_false_or_eq_true (decide (x43.at_ < 1)) with hc65 | hc65
            · rw [if_pos hc65] at ho56
              refine V_gn rfl rfl rfl hc65 rfl rfl rfl ?_
              refine V_gn rfl rfl rfl hc65 rfl rfl rfl ?_
              refine V_gn rfl rfl rfl hc65 rfl rfl rfl ?_
              refine V_y (Y_pick_te rfl hc65 rfl) rfl rfl rfl ?_
              refine V_y (Y_move rfl) rfl rfl rfl ?_
              rcases Bool.eq_false_or_eq_true (true) with hc66 | hc66
              · rw [if_pos hc66] at ho56
                refine V_gn rfl rfl rfl hc66 rfl rfl rfl ?_
                refine V_gn rfl rfl rfl hc66 rfl rfl rfl ?_
                refine V_gn rfl rfl rfl hc66 rfl rfl rfl ?_
                refine V_gn rfl rfl rfl hc66 rfl rfl rfl ?_
                refine V_y (Y_pick_te rfl hc66 rfl) rfl rfl rfl ?_
                refine V_y (Y_assign rfl) rfl rfl rfl ?_
                obtain rfl := Option.some.inj ho56
                refine V_end (fun a ha67 => ?_)
                exact ⟨A32, ha67.sub ⟨rfl, rfl, rfl, rfl, rfl, rfl, rfl, rfl, rfl, trivial⟩, ⟨hH, hr58⟩⟩
              · rw [if_neg (nt hc66)] at ho56
                refine V_ge rfl rfl rfl hc66 ?_
                refine V_y (Y_move rfl) rfl rfl rfl ?_
                refine V_ge rfl rfl rfl hc66 ?_
                have h68 := El_cal_Change_1 h53
                refine V_y (Y_fieldAddr Try.underlying116 rfl Try.sizeOf3 (by decide) rfl) rfl rfl rfl ?_
                refine V_ge rfl rfl rfl hc66 ?_
                refine V_y (Y_load (El.int h68) Try.isAgg3 rfl) rfl rfl rfl ?_
                refine V_ge rfl rfl rfl hc66 ?_
                refine V_call Try.call84 rfl rfl rfl rfl (portref2_ZoneFault_1_c w51 x43.offset) ?_
                rintro _ _ ⟨rfl, rfl⟩
                refine V_y (Y_pick_fe rfl hc66 rfl) rfl rfl rfl ?_
                refine V_y (Y_assign rfl) rfl rfl rfl ?_
                obtain rfl := Option.some.inj ho56
                refine V_end (fun a ha69 => ?_)
                exact ⟨A32, ha69.sub ⟨rfl, rfl, rfl, rfl, rfl, rfl, rfl, rfl, rfl, trivial⟩, ⟨hH, hr58⟩⟩
            · rw [if_neg (nt hc65)] at ho56
              refine V_ge rfl rfl rfl hc65 ?_
              have h70 := El_cal_Change_0 h53
              refine V_y (Y_fieldAddr Try.underlying116 rfl Try.sizeOf3 (by decide) rfl) rfl rfl rfl ?_
              refine V_ge rfl rfl rfl hc65 ?_
              refine V_y (Y_load (El.int h70) Try.isAgg3 rfl) rfl rfl rfl ?_
              refine V_ge rfl rfl rfl hc65 ?_
              refine V_y (Y_gtr rfl rfl) rfl rfl rfl ?_
              refine V_y (Y_pick_fe rfl hc65 rfl) rfl rfl rfl ?_
              refine V_y (Y_move rfl) rfl rfl rfl ?_
              rcases Bool.eq_false_or_eq_true (decide ((3000000 : Int) < x43.at_)) with hc71 | hc71
              · rw [if_pos hc71] at ho56
                refine V_gn rfl rfl rfl hc71 rfl rfl rfl ?_
                refine V_gn rfl rfl rfl hc71 rfl rfl rfl ?_
                refine V_gn rfl rfl rfl hc71 rfl rfl rfl ?_
                refine V_gn rfl rfl rfl hc71 rfl rfl rfl ?_
                refine V_y (Y_pick_te rfl hc71 rfl) rfl rfl rfl ?_
                refine V_y (Y_assign rfl) rfl rfl rfl ?_
                obtain rfl := Option.some.inj ho56
                refine V_end (fun a ha72 => ?_)
                exact ⟨A32, ha72.sub ⟨rfl, rfl, rfl, rfl, rfl, rfl, rfl, rfl, rfl, trivial⟩, ⟨hH, hr58⟩⟩
              · rw [if_neg (nt hc71)] at ho56
                refine V_ge rfl rfl rfl hc71 ?_
                refine V_y (Y_move rfl) rfl rfl rfl ?_
                refine V_ge rfl rfl rfl hc71 ?_
                have h73 := El_cal_Change_1 h53
                refine V_y (Y_fieldAddr Try.underlying116 rfl Try.sizeOf3 (by decide) rfl) rfl rfl rfl ?_
                refine V_ge rfl rfl rfl hc71 ?_
                refine V_y (Y_load (El.int h73) Try.isAgg3 rfl) rfl rfl rfl ?_
                refine V_ge rfl rfl rfl hc71 ?_
                refine V_call Try.call84 rfl rfl rfl rfl (portref2_ZoneFault_1_c w51 x43.offset) ?_
                rintro _ _ ⟨rfl, rfl⟩
                refine V_y (Y_pick_fe rfl hc71 rfl) rfl rfl rfl ?_
                refine V_y (Y_assign rfl) rfl rfl rfl ?_
                obtain rfl := Option.some.inj ho56
                refine V_end (fun a ha74 => ?_)
                exact ⟨A32, ha74.sub ⟨rfl, rfl, rfl, rfl, rfl, rfl, rfl, rfl, rfl, trivial⟩, ⟨hH, hr58⟩⟩
          rintro A62 w59 ⟨hH63, hk60⟩ a ha61
          replace h6 := El.tr h6 hk60
          replace h20 := Sl.tr h20 hk60
          replace h53 := El.tr h53 hk60
          replace hK := Tr.trans hK hk60
          replace hr23 := Tr.trans hr23 hk60
          replace hB := Nat.le_trans hB hk60.ex.size
          replace hA := hk60.new
          replace hH : Hp w.heap.size A62 w59 ([]) := hH63
          refine C_at (n := ⟨63, [], none⟩) (fun _ _ => rfl) ?_ ha61
          refine C_cond rfl (fun hc75 => ?_) (fun hc75 => ?_)
          · rw [if_pos hc75] at h35
            refine C_seq ?_
            refine C_region ?_
            refine V_y (Y_assign rfl) rfl rfl rfl ?_
            refine V_to (fun _ _ => rfl) ?_
            obtain rfl := Option.some.inj h35
            obtain rfl := (h36 : Lp.rt _ = _)
            rw [Lp.andThen_rt] at hm
            obtain rfl := Option.some.inj hm
            refine C_ret ?_
            try simp only [↓inBlock_ret, ↓then_ret]
            exact retQ rfl (Res.one Try.results61 rfl) ⟨rfl, hK.kp⟩
          · rw [if_neg (nt hc75)] at h35
            refine C_seq ?_
            refine C_region_q Try_mixed (by kernel_rfl) ?_
            refine VQ_y (fun w' hw' => Y_move rfl) rfl rfl rfl ?_
            refine VQ_y (fun w' hw' => Y_gtr rfl rfl) rfl rfl rfl ?_
            refine VQ_y (fun w' hw' => Y_move rfl) rfl rfl rfl ?_
            obtain ⟨s77, hs77, h35⟩ := Option.bind_eq_some_iff.1 h35
            refine VQ_cut 11 (fun _ : Unit => [(1, .pointer (some ⟨b3, 0, none⟩)), (3, .func (.func 84) #[] #[]), (4, .int .i64 s30), (6, .pointer (some ⟨b48, 0, none⟩)), (18, v18), (19, .int .i64 (z.changes.length : Int)), (20, .int .i64 (k24 : Int)), (54, .bool s77)]) (fun _ => True) ?_ ?_
            · simp only [List.take, List.drop]
              rcases Bool.eq_false_or_eq_true (decide ((0 : Int) < (k24 : Int))) with hc76 | hc76
              · rw [if_pos hc76] at hs77
                refine VQ_ge rfl rfl rfl hc76 ?_
                have h78 := El_cal_Change_0 h53
                refine VQ_y (fun w' hw' => Y_fieldAddr Try.underlying116 rfl Try.sizeOf3 (by decide) rfl) rfl rfl rfl ?_
                refine VQ_ge rfl rfl rfl hc76 ?_
                refine VQ_y (fun w' hw' => Y_load (El.int (El.kp h78 hw')) Try.isAgg3 rfl) rfl rfl rfl ?_
                refine VQ_ge rfl rfl rfl hc76 ?_
                have h79 := El_cal_Zone_1 h6
                refine VQ_y (fun w' hw' => Y_fieldAddr Try.underlying24 rfl Try.sizeOf22 (by decide) rfl) rfl rfl rfl ?_
                refine VQ_ge rfl rfl rfl hc76 ?_
                obtain ⟨v80, h81, h82⟩ := El.list h79
                refine VQ_y (fun w' hw' => Y_load ((World.cell?_of_block (hw'.block _ (World.block_lt_of_cell? _ _ h81))).trans h81) Try.isAgg22 rfl) rfl rfl rfl ?_
                refine VQ_ge rfl rfl rfl hc76 ?_
                refine VQ_y (fun w' hw' => Y_move rfl) rfl rfl rfl ?_
                refine VQ_ge rfl rfl rfl hc76 ?_
                refine VQ_y (fun w' hw' => Y_subI rfl rfl) rfl rfl rfl ?_
                refine VQ_ge rfl rfl rfl hc76 ?_
                obtain ⟨x83, hx83, hs77⟩ := Option.bind_eq_some_iff.1 hs77
                refine VQ_indexAddr h82 hx83 Try.underlying22 Try.sizeOf116 rfl rfl rfl ?_
                intro b84 o85 h86
                refine VQ_ge rfl rfl rfl hc76 ?_
                have h87 := El_cal_Change_0 h86
                refine VQ_y (fun w' hw' => Y_fieldAddr Try.underlying116 rfl Try.sizeOf3 (by decide) rfl) rfl rfl rfl ?_
                refine VQ_ge rfl rfl rfl hc76 ?_
                refine VQ_y (fun w' hw' => Y_load (El.int (El.kp h87 hw')) Try.isAgg3 rfl) rfl rfl rfl ?_
                refine VQ_ge rfl rfl rfl hc76 ?_
                refine VQ_y (fun w' hw' => Y_leq rfl rfl) rfl rfl rfl ?_
                refine VQ_y (fun _ _ => Y_pick_te rfl hc76 rfl) rfl rfl rfl ?_
                obtain rfl := Option.some.inj hs77
                exact VQ_end fun a ha => ⟨(), ha.sub ⟨rfl, rfl, rfl, rfl, rfl, rfl, rfl, rfl, trivial⟩, trivial⟩
              · rw [if_neg (nt hc76)] at hs77
                refine VQ_gn rfl rfl rfl hc76 rfl rfl rfl ?_
                refine VQ_gn rfl rfl rfl hc76 rfl rfl rfl ?_
                refine VQ_gn rfl rfl rfl hc76 rfl rfl rfl ?_
                refine VQ_gn rfl rfl rfl hc76 rfl rfl rfl ?_
                refine VQ_gn rfl rfl rfl hc76 rfl rfl rfl ?_
                refine VQ_gn rfl rfl rfl hc76 rfl rfl rfl ?_
                refine VQ_gn rfl rfl rfl hc76 rfl rfl rfl ?_
                refine VQ_gn rfl rfl rfl hc76 rfl rfl rfl ?_
                refine VQ_gn rfl rfl rfl hc76 rfl rfl rfl ?_
                refine VQ_gn rfl rfl rfl hc76 rfl rfl rfl ?_
                refine VQ_y (fun _ _ => Y_pick_fe rfl hc76 rfl) rfl rfl rfl ?_
                obtain rfl := Option.some.inj hs77
                exact VQ_end fun a ha => ⟨(), ha.sub ⟨rfl, rfl, rfl, rfl, rfl, rfl, rfl, rfl, trivial⟩, trivial⟩
            simp only [List.take, List.drop]
            rintro _ _
            refine VQ_y (fun w' hw' => Y_assign rfl) rfl rfl rfl ?_
            refine VQ_to (fun _ _ => rfl) (fun w88 hk89 => ?_)
            have ht90 := Kp.tr hk89 hA hB
            replace hH := Hp.kp hH hk89
            replace h6 := El.tr h6 ht90
            replace h20 := Sl.tr h20 ht90
            replace h53 := El.tr h53 ht90
            replace hK := Tr.trans hK ht90
            replace hr23 := Tr.trans hr23 ht90
            replace hB := Nat.le_trans hB ht90.ex.size
            replace hA := ht90.new
            refine C_cond rfl (fun hc91 => ?_) (fun hc91 => ?_)
            · rw [if_pos hc91] at h35
              refine C_seq ?_
              refine C_region ?_
              refine V_y (Y_assign rfl) rfl rfl rfl ?_
              refine V_to (fun _ _ => rfl) ?_
              obtain rfl := Option.some.inj h35
              obtain rfl := (h36 : Lp.rt _ = _)
              rw [Lp.andThen_rt] at hm
              obtain rfl := Option.some.inj hm
              refine C_ret ?_
              try simp only [↓inBlock_ret, ↓then_ret]
              exact retQ rfl (Res.one Try.results61 rfl) ⟨rfl, hK.kp⟩
            · rw [if_neg (nt hc91)] at h35
              refine C_seq ?_
              refine C_region ?_
              have h92 := El_cal_Change_1 h53
              refine V_y (Y_fieldAddr Try.underlying116 rfl Try.sizeOf3 (by decide) rfl) rfl rfl rfl ?_
              refine V_y (Y_load (El.int h92) Try.isAgg3 rfl) rfl rfl rfl ?_
              refine V_y (Y_move rfl) rfl rfl rfl ?_
              refine V_y (Y_eql rfl rfl) rfl rfl rfl ?_
              refine V_y (Y_assign rfl) rfl rfl rfl ?_
              refine V_to (fun _ _ => rfl) ?_
              refine C_cond rfl (fun hc93 => ?_) (fun hc93 => ?_)
              · rw [if_pos hc93] at h35
                refine C_seq ?_
                refine C_region ?_
                refine V_y (Y_assign rfl) rfl rfl rfl ?_
                refine V_to (fun _ _ => rfl) ?_
                obtain rfl := Option.some.inj h35
                obtain rfl := (h36 : Lp.rt _ = _)
                rw [Lp.andThen_rt] at hm
                obtain rfl := Option.some.inj hm
                refine C_ret ?_
                try simp only [↓inBlock_ret, ↓then_ret]
                exact retQ rfl (Res.one Try.results61 rfl) ⟨rfl, hK.kp⟩
              · rw [if_neg (nt hc93)] at h35
                refine C_skip_to (fun _ _ => rfl) ?_
                refine C_region ?_
                have h94 := El_cal_Change_1 h53
                refine V_y (Y_fieldAddr Try.underlying116 rfl Try.sizeOf3 (by decide) rfl) rfl rfl rfl ?_
                refine V_y (Y_load (El.int h94) Try.isAgg3 rfl) rfl rfl rfl ?_
                refine V_y (Y_assign rfl) rfl rfl rfl ?_
                refine V_to (fun _ _ => rfl) ?_
                refine C_region ?_
                refine V_y (Y_addI rfl rfl) rfl rfl rfl ?_
                refine V_y (Y_move rfl) rfl rfl rfl ?_
                obtain rfl := Option.some.inj h35
                refine V_end (fun a ha95 => ?_)
                exact ⟨x43.offset, hlt38, h36, ⟨A62, ha95.sub ⟨rfl, rfl, rfl, rfl, rfl, (congrArg (fun z => some (Value.int .i64 z)) (w64_succ hlt38 hn41)), trivial⟩, ⟨hH, hr23⟩⟩⟩
        · refine C_exit (fun a ha96 => ?_)
          exact ⟨(s30, A32), ha96.sub trivial, ⟨(h39 (eq_of_dec hle37 hc42)).symm, hH, hr23⟩⟩
      rintro ⟨s22, A28⟩ w25 ⟨rfl, hH29, hk26⟩ a ha27
      rw [Lp.andThen_fin] at hm
      replace hK := Tr.trans hK hk26
      replace hB := Nat.le_trans hB hk26.ex.size
      replace hA := hk26.new
      replace hH : Hp w.heap.size A28 w25 ([]) := hH29
      refine C_at (n := ⟨63, [], none⟩) (fun _ _ => rfl) ?_ ha27
      refine C_seq ?_
      refine C_region ?_
      refine V_y (Y_assign rfl) rfl rfl rfl ?_
      refine V_to (fun _ _ => rfl) ?_
      obtain rfl := Option.some.inj hm
      refine C_ret ?_
      try simp only [↓inBlock_ret, ↓then_ret]
      exact retQ rfl (Res.one Try.results61 rfl) ⟨rfl, hK.kp⟩

end Go.Proofs.Ytpfoimbklbkcpaa.W
