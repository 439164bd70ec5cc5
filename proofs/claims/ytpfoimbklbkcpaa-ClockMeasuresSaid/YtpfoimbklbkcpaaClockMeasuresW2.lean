/-
  Written by program (gen.py) from the IR of the dump: each function computes its model.
-/
import Derived.Test.YtpfoimbklbkcpaaClockMeasuresW1
namespace Go.Proofs.Ytpfoimbklbkcpaa.W
open Go Go.RowKit Go.Pu Go.Gw Go.Proofs Go.Proofs.Ytpfoimbklbkcpaa.M
set_option linter.unusedVariables false
set_option linter.unusedSimpArgs false

set_option maxRecDepth 4000 in
set_option maxHeartbeats 4000000 in
theorem level_elapsed_c (w : World) {A : Nat → Prop} (hA : ∀ b, w.heap.size ≤ b → A b) (c : level_Clock) (v_c : Value) (h_c : Sl A w v_c c.pieces) (cals : (List cal_Calendar)) (v_cals : Value) (h_cals : Sl A w v_cals cals) (m : Int) {r : Int} (hm : level_elapsed c cals m = some r) : Ret Try.prog 39 #[.agg #[.int .i64 c.kind, .int .i64 c.level, .int .i64 c.minutes, .int .i64 c.start, .int .i64 c.stop, .int .i64 c.end_, v_c], v_cals, .int .i64 m] w fun v w' => v = .int .i64 r ∧ Kp w w' := by
  unfold level_elapsed at hm
  refine enter Try.func39 rfl Try.ntmps39 rfl ?_
  have hA0 := hA
  have hB := Nat.le_refl w.heap.size
  have hK : Tr w.heap.size A w A w := Tr.refl hA
  have hH : Hp w.heap.size A w [] := Hp.nil
  refine C_seq ?_
  refine C_region ?_
  refine V_box rfl rfl ?_
  intro b5 w6 h7
  have hk9 := h7.kp
  have h8 : El (α := level_Clock) A w6 b5 0 c := h7.el hA ⟨[.int .i64 c.kind], _, rfl, rfl, ⟨[.int .i64 c.level], _, rfl, rfl, ⟨[.int .i64 c.minutes], _, rfl, rfl, ⟨[.int .i64 c.start], _, rfl, rfl, ⟨[.int .i64 c.stop], _, rfl, rfl, ⟨[.int .i64 c.end_], _, rfl, rfl, ⟨_, rfl, h_c⟩⟩⟩⟩⟩⟩⟩
  have ht10 := Kp.tr hk9 hA hB
  replace hH := Hp.kp hH hk9
  replace h_c := Sl.tr h_c ht10
  replace h_cals := Sl.tr h_cals ht10
  replace hK := Tr.trans hK ht10
  replace hB := Nat.le_trans hB ht10.ex.size
  replace hA := ht10.new
  refine V_y (Y_assign rfl) rfl rfl rfl ?_
  refine V_to (fun _ _ => rfl) ?_
  refine C_seq ?_
  refine C_region ?_
  refine V_y (Y_assign rfl) rfl rfl rfl ?_
  refine V_to (fun _ _ => rfl) ?_
  refine C_seq ?_
  refine C_seq ?_
  refine C_region ?_
  have h11 := El_level_Clock_6 h8
  refine V_y (Y_fieldAddr Try.underlying35 rfl Try.sizeOf33 (by decide) rfl) rfl rfl rfl ?_
  obtain ⟨v12, h13, h14⟩ := El.list h11
  refine V_y (Y_load h13 Try.isAgg33 rfl) rfl rfl rfl ?_
  refine V_y (Y_lenSl h14 rfl Try.underlying33 rfl) rfl rfl rfl ?_
  refine V_y (Y_move rfl) rfl rfl rfl ?_
  refine V_to (fun _ _ => rfl) ?_
  have hn35 := Sl.le h14
  obtain ⟨o15, ho15, hm⟩ := Option.bind_eq_some_iff.1 hm
  refine C_cutG (ι := (Int × (Nat → Prop))) (fun ⟨s16, A22⟩ => [(7, .int .i64 s16)]) (fun ⟨s16, A22⟩ => fun w' => o15 = .fin s16 ∧ Hp w.heap.size A22 w' ([]) ∧ Tr w.heap.size A w6 A22 w') ?_ ?_
  · refine C_block ?_
    refine C_range ho15 (fun k18 s24 a w' => ∃ i : (Nat → Prop), Has ⟨49, [], none⟩ a ([(1, v_cals), (2, .int .i64 m), (7, .int .i64 s24), (14, v12), (15, .int .i64 (c.pieces.length : Int)), (16, .int .i64 (k18 : Int))]) ∧ Hp w.heap.size i w' ([]) ∧ Tr w.heap.size A w6 i w') (fun a ha => ⟨A, ha.sub ⟨rfl, rfl, rfl, rfl, rfl, rfl, trivial⟩, ⟨hH, Tr.refl hA⟩⟩) ?_
    rintro K k18 s24 a w25 ⟨A26, ha101, hH27, hr17⟩ hle31 K34 h33
    refine C_of ?_ ha101
    replace h_cals := Sl.tr h_cals hr17
    replace h14 := Sl.tr h14 hr17
    replace hK := Tr.trans hK hr17
    replace hB := Nat.le_trans hB hr17.ex.size
    replace hA := hr17.new
    replace hH : Hp w.heap.size A26 w25 ([]) := hH27
    refine C_seq (C_region (V_y (Y_lss rfl rfl) rfl rfl rfl (V_to (fun _ _ => rfl) ?_)))
    refine C_seq ?_
    refine C_cond rfl (fun hc36 => ?_) (fun hc36 => ?_)
    · have hlt32 := lt_of_dec hc36
      obtain ⟨x28, h29, h30⟩ := K34 hlt32
      refine C_skip_to (fun _ _ => rfl) ?_
      refine C_seq ?_
      obtain ⟨s38, ho37, h29⟩ := Option.bind_eq_some_iff.1 h29
      refine C_cutG (ι := (Nat → Prop)) (fun (A43 : (Nat → Prop)) => [(1, v_cals), (2, .int .i64 m), (7, .int .i64 s38), (14, v12), (15, .int .i64 (c.pieces.length : Int)), (16, .int .i64 (k18 : Int))]) (fun (A43 : (Nat → Prop)) => fun w' => Hp w.heap.size A43 w' ([]) ∧ Tr w.heap.size A26 w25 A43 w') ?_ ?_
      · have hr39 : Tr w.heap.size A26 w25 A26 w25 := Tr.refl hA
        refine C_block ?_
        refine C_seq ?_
        refine C_region ?_
        obtain ⟨x45, hx45, ho37⟩ := Option.bind_eq_some_iff.1 ho37
        refine V_indexAddr h14 hx45 Try.underlying33 Try.sizeOf64 rfl rfl rfl ?_
        intro b46 o47 h48
        obtain ⟨h49, _⟩ := El_level_Piece h48
        refine V_y (Y_loadA h49 Try.isAgg64 Try.sizeOf64 rfl) rfl rfl rfl ?_
        refine V_alloc Try.zeroValue64 rfl ?_
        intro b50 w51 h52
        refine V_storeNew h52 Try.sizeOf64 rfl rfl rfl rfl (by exact (List.forall_mem_cons.2 ⟨rfl, (List.forall_mem_cons.2 ⟨rfl, (List.forall_mem_cons.2 ⟨rfl, (fun _ h => nomatch h)⟩)⟩)⟩)) ?_
        intro w53 h54
        have hk56 := h54.kp
        have h55 : El (α := level_Piece) A26 w53 b50 0 x45 := h54.el hA ⟨[.int .i64 x45.from_], _, rfl, rfl, ⟨[.int .i64 x45.to_], _, rfl, rfl, rfl⟩⟩
        have ht57 := Kp.tr hk56 hA hB
        replace hH := Hp.kp hH hk56
        replace h_cals := Sl.tr h_cals ht57
        replace h14 := Sl.tr h14 ht57
        replace h48 := El.tr h48 ht57
        replace hK := Tr.trans hK ht57
        replace hr17 := Tr.trans hr17 ht57
        replace hr39 := Tr.trans hr39 ht57
        replace hB := Nat.le_trans hB ht57.ex.size
        replace hA := ht57.new
        refine V_to (fun _ _ => rfl) ?_
        refine C_seq ?_
        refine C_region ?_
        refine V_y (Y_move rfl) rfl rfl rfl ?_
        refine V_y (Y_assign rfl) rfl rfl rfl ?_
        refine V_to (fun _ _ => rfl) ?_
        refine C_seq ?_
        refine C_seq ?_
        refine C_region ?_
        have h58 := El_level_Piece_1 h55
        refine V_y (Y_fieldAddr Try.underlying64 rfl Try.sizeOf3 (by decide) rfl) rfl rfl rfl ?_
        refine V_y (Y_load (El.int h58) Try.isAgg3 rfl) rfl rfl rfl ?_
        refine V_y (Y_neq rfl rfl) rfl rfl rfl ?_
        refine V_to (fun _ _ => rfl) ?_
        obtain ⟨s60, ho59, ho37⟩ := Option.bind_eq_some_iff.1 ho37
        refine C_cutG (ι := Unit) (fun (_ : Unit) => [(1, v_cals), (2, .int .i64 m), (7, .int .i64 s24), (9, .pointer (some ⟨b50, 0, none⟩)), (10, .int .i64 s60), (14, v12), (15, .int .i64 (c.pieces.length : Int)), (16, .int .i64 (k18 : Int))]) (fun (_ : Unit) => fun w' => w53 = w') ?_ ?_
        · refine C_cond rfl (fun hc65 => ?_) (fun hc65 => ?_)
          · rw [if_pos hc65] at ho59
            refine C_region ?_
            refine V_y (Y_move rfl) rfl rfl rfl ?_
            have h66 := El_level_Piece_1 h55
            refine V_y (Y_fieldAddr Try.underlying64 rfl Try.sizeOf3 (by decide) rfl) rfl rfl rfl ?_
            refine V_y (Y_load (El.int h66) Try.isAgg3 rfl) rfl rfl rfl ?_
            refine V_y (Y_min2 rfl rfl) rfl rfl rfl ?_
            refine V_y (Y_assign rfl) rfl rfl rfl ?_
            obtain rfl := Option.some.inj ho59
            refine V_end (fun a ha67 => ?_)
            exact ⟨(), ha67.sub ⟨rfl, rfl, rfl, rfl, rfl, rfl, rfl, rfl, trivial⟩, rfl⟩
          · rw [if_neg (nt hc65)] at ho59
            obtain rfl := Option.some.inj ho59
            refine C_skip (fun a ha68 => ?_)
            exact ⟨(), ha68.sub ⟨rfl, rfl, rfl, rfl, rfl, rfl, rfl, rfl, trivial⟩, rfl⟩
        rintro _ _ rfl a ha64
        refine C_at (n := ⟨49, [], none⟩) (fun _ _ => rfl) ?_ ha64
        refine C_seq ?_
        refine C_region ?_
        have h69 := El_level_Piece_0 h55
        refine V_y (Y_fieldAddr Try.underlying64 rfl Try.sizeOf3 (by decide) rfl) rfl rfl rfl ?_
        refine V_y (Y_load (El.int h69) Try.isAgg3 rfl) rfl rfl rfl ?_
        refine V_y (Y_move rfl) rfl rfl rfl ?_
        refine V_y (Y_lss rfl rfl) rfl rfl rfl ?_
        refine V_to (fun _ _ => rfl) ?_
        obtain ⟨s71, ho70, ho37⟩ := Option.bind_eq_some_iff.1 ho37
        refine C_cutG (ι := (Nat → Prop)) (fun (A76 : (Nat → Prop)) => [(1, v_cals), (2, .int .i64 m), (7, .int .i64 s71), (14, v12), (15, .int .i64 (c.pieces.length : Int)), (16, .int .i64 (k18 : Int))]) (fun (A76 : (Nat → Prop)) => fun w' => Hp w.heap.size A76 w' ([]) ∧ Tr w.heap.size A26 w53 A76 w') ?_ ?_
        · have hr72 : Tr w.heap.size A26 w53 A26 w53 := Tr.refl hA
          refine C_cond rfl (fun hc78 => ?_) (fun hc78 => ?_)
          · rw [if_pos hc78] at ho70
            refine C_seq ?_
            refine C_region_q Try_mixed (by kernel_rfl) ?_
            refine VQ_y (fun w' hw' => Y_move rfl) rfl rfl rfl ?_
            have h79 := El_level_Piece_2 h55
            refine VQ_y (fun w' hw' => Y_fieldAddr Try.underlying64 rfl Try.sizeOf3 (by decide) rfl) rfl rfl rfl ?_
            refine VQ_y (fun w' hw' => Y_load (El.int (El.kp h79 hw')) Try.isAgg3 rfl) rfl rfl rfl ?_
            obtain ⟨x80, hx80, ho70⟩ := Option.bind_eq_some_iff.1 ho70
            refine VQ_indexAddr h_cals hx80 Try.underlying36 Try.sizeOf28 rfl rfl rfl ?_
            intro b81 o82 h83
            obtain ⟨v84, v86, v88, h90, h85, h87, h89⟩ := El_cal_Calendar h83
            refine VQ_y (fun w' hw' => Y_loadA (At.kp h90 hw' h83.2.1) Try.isAgg28 Try.sizeOf28 rfl) rfl rfl rfl ?_
            have h91 := El_level_Piece_0 h55
            refine VQ_y (fun w' hw' => Y_fieldAddr Try.underlying64 rfl Try.sizeOf3 (by decide) rfl) rfl rfl rfl ?_
            refine VQ_y (fun w' hw' => Y_load (El.int (El.kp h91 hw')) Try.isAgg3 rfl) rfl rfl rfl ?_
            refine VQ_y (fun w' hw' => Y_move rfl) rfl rfl rfl ?_
            obtain ⟨x92, hx92, ho70⟩ := Option.bind_eq_some_iff.1 ho70
            refine VQ_call (.tuple #[.int .i64 x92.1, .int .i64 x92.2]) Try.call67 rfl rfl rfl rfl (fun w' hw' => (cal_Worked_c w' (fun b hb => hA b (Nat.le_trans hw'.size hb)) x80 v84 (Sl.kp h85 hw') v86 (Sl.kp h87 hw') v88 (Sl.kp h89 hw') x45.from_ s60 hx92).mono (fun _ _ h => ⟨h.1, Kp.trans hw' h.2⟩)) ?_
            refine VQ_y (fun w' hw' => Y_move rfl) rfl rfl rfl ?_
            refine VQ_y (fun w' hw' => Y_extract rfl rfl) rfl rfl rfl ?_
            refine VQ_y (fun w' hw' => Y_extract rfl rfl) rfl rfl rfl ?_
            refine VQ_y (fun w' hw' => Y_assign rfl) rfl rfl rfl ?_
            refine VQ_y (fun w' hw' => Y_assign rfl) rfl rfl rfl ?_
            refine VQ_to (fun _ _ => rfl) (fun w93 hk94 => ?_)
            have ht95 := Kp.tr hk94 hA hB
            replace hH := Hp.kp hH hk94
            replace h_cals := Sl.tr h_cals ht95
            replace h14 := Sl.tr h14 ht95
            replace hK := Tr.trans hK ht95
            replace hr17 := Tr.trans hr17 ht95
            replace hr39 := Tr.trans hr39 ht95
            replace hr72 := Tr.trans hr72 ht95
            replace hB := Nat.le_trans hB ht95.ex.size
            replace hA := ht95.new
            refine C_region ?_
            refine V_y (Y_move rfl) rfl rfl rfl ?_
            refine V_y (Y_move rfl) rfl rfl rfl ?_
            refine V_y (Y_addI rfl rfl) rfl rfl rfl ?_
            refine V_y (Y_assign rfl) rfl rfl rfl ?_
            obtain rfl := Option.some.inj ho70
            refine V_end (fun a ha96 => ?_)
            exact ⟨A26, ha96.sub ⟨rfl, rfl, rfl, rfl, rfl, rfl, trivial⟩, ⟨hH, hr72⟩⟩
          · rw [if_neg (nt hc78)] at ho70
            obtain rfl := Option.some.inj ho70
            refine C_skip (fun a ha97 => ?_)
            exact ⟨A26, ha97.sub ⟨rfl, rfl, rfl, rfl, rfl, rfl, trivial⟩, ⟨hH, hr72⟩⟩
        rintro A76 w73 ⟨hH77, hk74⟩ a ha75
        replace h_cals := Sl.tr h_cals hk74
        replace h14 := Sl.tr h14 hk74
        replace hK := Tr.trans hK hk74
        replace hr17 := Tr.trans hr17 hk74
        replace hr39 := Tr.trans hr39 hk74
        replace hB := Nat.le_trans hB hk74.ex.size
        replace hA := hk74.new
        replace hH : Hp w.heap.size A76 w73 ([]) := hH77
        obtain rfl := Option.some.inj ho37
        exact ⟨A76, ha75.sub ⟨rfl, rfl, rfl, rfl, rfl, rfl, trivial⟩, ⟨hH, hr39⟩⟩
      rintro A43 w40 ⟨hH44, hk41⟩ a ha42
      replace h_cals := Sl.tr h_cals hk41
      replace h14 := Sl.tr h14 hk41
      replace hK := Tr.trans hK hk41
      replace hr17 := Tr.trans hr17 hk41
      replace hB := Nat.le_trans hB hk41.ex.size
      replace hA := hk41.new
      replace hH : Hp w.heap.size A43 w40 ([]) := hH44
      refine C_at (n := ⟨49, [], none⟩) (fun _ _ => rfl) ?_ ha42
      refine C_region ?_
      refine V_y (Y_addI rfl rfl) rfl rfl rfl ?_
      refine V_y (Y_move rfl) rfl rfl rfl ?_
      obtain rfl := Option.some.inj h29
      refine V_end (fun a ha99 => ?_)
      exact ⟨s38, hlt32, h30, ⟨A43, ha99.sub ⟨rfl, rfl, rfl, rfl, rfl, (congrArg (fun z => some (Value.int .i64 z)) (w64_succ hlt32 hn35)), trivial⟩, ⟨hH, hr17⟩⟩⟩
    · refine C_exit (fun a ha100 => ?_)
      exact ⟨(s24, A26), ha100.sub ⟨rfl, trivial⟩, ⟨(h33 (eq_of_dec hle31 hc36)).symm, hH, hr17⟩⟩
  rintro ⟨s16, A22⟩ w19 ⟨rfl, hH23, hk20⟩ a ha21
  rw [Lp.andThen_fin] at hm
  replace hK := Tr.trans hK hk20
  replace hB := Nat.le_trans hB hk20.ex.size
  replace hA := hk20.new
  replace hH : Hp w.heap.size A22 w19 ([]) := hH23
  refine C_at (n := ⟨49, [], none⟩) (fun _ _ => rfl) ?_ ha21
  refine C_seq ?_
  refine C_region ?_
  refine V_y (Y_move rfl) rfl rfl rfl ?_
  refine V_y (Y_assign rfl) rfl rfl rfl ?_
  refine V_to (fun _ _ => rfl) ?_
  obtain rfl := Option.some.inj hm
  refine C_ret ?_
  try simp only [↓inBlock_ret, ↓then_ret]
  exact retQ rfl (Res.one Try.results39 rfl) ⟨rfl, hK.kp⟩

set_option maxRecDepth 4000 in
set_option maxHeartbeats 4000000 in
theorem level_Elapsed_c (w : World) {A : Nat → Prop} (hA : ∀ b, w.heap.size ≤ b → A b) (c : level_Clock) (v_c : Value) (h_c : Sl A w v_c c.pieces) (cals : (List cal_Calendar)) (v_cals : Value) (h_cals : Sl A w v_cals cals) (m : Int) {r : (Int × Int)} (hm : level_Elapsed c cals m = some r) : Ret Try.prog 12 #[.agg #[.int .i64 c.kind, .int .i64 c.level, .int .i64 c.minutes, .int .i64 c.start, .int .i64 c.stop, .int .i64 c.end_, v_c], v_cals, .int .i64 m] w fun v w' => v = .tuple #[.int .i64 r.1, .int .i64 r.2] ∧ Kp w w' := by
  unfold level_Elapsed at hm
  refine enter Try.func12 rfl Try.ntmps12 rfl ?_
  have hA0 := hA
  have hB := Nat.le_refl w.heap.size
  have hK : Tr w.heap.size A w A w := Tr.refl hA
  have hH : Hp w.heap.size A w [] := Hp.nil
  refine C_seq ?_
  refine C_region ?_
  refine V_box rfl rfl ?_
  intro b5 w6 h7
  have hk9 := h7.kp
  have h8 : El (α := level_Clock) A w6 b5 0 c := h7.el hA ⟨[.int .i64 c.kind], _, rfl, rfl, ⟨[.int .i64 c.level], _, rfl, rfl, ⟨[.int .i64 c.minutes], _, rfl, rfl, ⟨[.int .i64 c.start], _, rfl, rfl, ⟨[.int .i64 c.stop], _, rfl, rfl, ⟨[.int .i64 c.end_], _, rfl, rfl, ⟨_, rfl, h_c⟩⟩⟩⟩⟩⟩⟩
  have ht10 := Kp.tr hk9 hA hB
  replace hH := Hp.kp hH hk9
  replace h_c := Sl.tr h_c ht10
  replace h_cals := Sl.tr h_cals ht10
  replace hK := Tr.trans hK ht10
  replace hB := Nat.le_trans hB ht10.ex.size
  replace hA := ht10.new
  refine V_y (Y_assign rfl) rfl rfl rfl ?_
  refine V_y (Y_assign rfl) rfl rfl rfl ?_
  refine V_to (fun _ _ => rfl) ?_
  refine C_seq ?_
  refine C_seq ?_
  refine C_region ?_
  obtain ⟨v11, h13, h12⟩ := El_level_Clock h8
  refine V_y (Y_loadA h13 Try.isAgg35 Try.sizeOf35 rfl) rfl rfl rfl ?_
  refine V_buildSlice (l := ([c] : List level_Clock)) (len := 1) Try.underlying56 Try.sizeOf35 Try.zeroValue35 rfl (by with_unfolding_all rfl) (by decide) (by decide) hA ⟨[.int .i64 c.kind, .int .i64 c.level, .int .i64 c.minutes, .int .i64 c.start, .int .i64 c.stop, .int .i64 c.end_, v11], _, rfl, ⟨[.int .i64 c.kind], _, rfl, rfl, ⟨[.int .i64 c.level], _, rfl, rfl, ⟨[.int .i64 c.minutes], _, rfl, rfl, ⟨[.int .i64 c.start], _, rfl, rfl, ⟨[.int .i64 c.stop], _, rfl, rfl, ⟨[.int .i64 c.end_], _, rfl, rfl, ⟨_, rfl, h12⟩⟩⟩⟩⟩⟩⟩, rfl⟩ rfl rfl ?_
  intro v14 w15 hk17 h16
  have ht18 := Kp.tr hk17 hA hB
  replace hH := Hp.kp hH hk17
  replace h_cals := Sl.tr h_cals ht18
  replace h8 := El.tr h8 ht18
  replace h12 := Sl.tr h12 ht18
  replace hK := Tr.trans hK ht18
  replace hB := Nat.le_trans hB ht18.ex.size
  replace hA := ht18.new
  refine V_y (Y_move rfl) rfl rfl rfl ?_
  obtain ⟨x19, hx19, hm⟩ := Option.bind_eq_some_iff.1 hm
  refine V_call Try.call37 rfl rfl rfl rfl (level_check_c w15 hA ([c] : List level_Clock) v14 h16 cals v_cals h_cals hx19) ?_
  rintro _ w20 ⟨rfl, hk21⟩
  have ht22 := Kp.tr hk21 hA hB
  replace hH := Hp.kp hH hk21
  replace h_cals := Sl.tr h_cals ht22
  replace h8 := El.tr h8 ht22
  replace h12 := Sl.tr h12 ht22
  replace h16 := Sl.tr h16 ht22
  replace hK := Tr.trans hK ht22
  replace hB := Nat.le_trans hB ht22.ex.size
  replace hA := ht22.new
  refine V_y (Y_move rfl) rfl rfl rfl ?_
  refine V_call Try.call38 rfl rfl rfl rfl (level_moment_c w20 m 0) ?_
  rintro _ _ ⟨rfl, rfl⟩
  refine V_buildSlice (l := ([x19, (level_moment m 0)] : List Int)) (len := 2) Try.underlying94 Try.sizeOf29 Try.zeroValue29 rfl (by with_unfolding_all rfl) (by decide) (by decide) hA ⟨[.int .i64 x19], _, rfl, rfl, ⟨[.int .i64 (level_moment m 0)], _, rfl, rfl, rfl⟩⟩ rfl rfl ?_
  intro v23 w24 hk26 h25
  have ht27 := Kp.tr hk26 hA hB
  replace hH := Hp.kp hH hk26
  replace h_cals := Sl.tr h_cals ht27
  replace h8 := El.tr h8 ht27
  replace h12 := Sl.tr h12 ht27
  replace h16 := Sl.tr h16 ht27
  replace hK := Tr.trans hK ht27
  replace hB := Nat.le_trans hB ht27.ex.size
  replace hA := ht27.new
  obtain ⟨x28, hx28, hm⟩ := Option.bind_eq_some_iff.1 hm
  refine V_call Try.call36 rfl rfl rfl rfl (cmp_Or_api_Errno_c w24 ([x19, (level_moment m 0)] : List Int) v23 h25 hx28) ?_
  rintro _ _ ⟨rfl, rfl⟩
  refine V_y (Y_assign rfl) rfl rfl rfl ?_
  refine V_to (fun _ _ => rfl) ?_
  refine C_seq ?_
  refine C_region ?_
  refine V_y (Y_move rfl) rfl rfl rfl ?_
  refine V_y (Y_neq rfl rfl) rfl rfl rfl ?_
  refine V_to (fun _ _ => rfl) ?_
  refine C_cond rfl (fun hc29 => ?_) (fun hc29 => ?_)
  · rw [if_pos hc29] at hm
    refine C_seq ?_
    refine C_region ?_
    refine V_y (Y_move rfl) rfl rfl rfl ?_
    refine V_y (Y_assign rfl) rfl rfl rfl ?_
    refine V_y (Y_assign rfl) rfl rfl rfl ?_
    refine V_to (fun _ _ => rfl) ?_
    obtain rfl := Option.some.inj hm
    refine C_ret ?_
    try simp only [↓inBlock_ret, ↓then_ret]
    exact retQ rfl (Res.two Try.results12 rfl rfl) ⟨rfl, hK.kp⟩
  · rw [if_neg (nt hc29)] at hm
    refine C_skip_to (fun _ _ => rfl) ?_
    refine C_seq ?_
    refine C_region ?_
    obtain ⟨v30, h32, h31⟩ := El_level_Clock h8
    refine V_y (Y_loadA h32 Try.isAgg35 Try.sizeOf35 rfl) rfl rfl rfl ?_
    refine V_y (Y_move rfl) rfl rfl rfl ?_
    refine V_y (Y_move rfl) rfl rfl rfl ?_
    obtain ⟨x33, hx33, hm⟩ := Option.bind_eq_some_iff.1 hm
    refine V_call Try.call39 rfl rfl rfl rfl (level_elapsed_c w24 hA c v30 h31 cals v_cals h_cals m hx33) ?_
    rintro _ w34 ⟨rfl, hk35⟩
    have ht36 := Kp.tr hk35 hA hB
    replace hH := Hp.kp hH hk35
    replace h_cals := Sl.tr h_cals ht36
    replace h8 := El.tr h8 ht36
    replace h31 := Sl.tr h31 ht36
    replace hK := Tr.trans hK ht36
    replace hB := Nat.le_trans hB ht36.ex.size
    replace hA := ht36.new
    refine V_y (Y_assign rfl) rfl rfl rfl ?_
    refine V_y (Y_assign rfl) rfl rfl rfl ?_
    refine V_to (fun _ _ => rfl) ?_
    obtain rfl := Option.some.inj hm
    refine C_ret ?_
    try simp only [↓inBlock_ret, ↓then_ret]
    exact retQ rfl (Res.two Try.results12 rfl rfl) ⟨rfl, hK.kp⟩

set_option maxRecDepth 4000 in
set_option maxHeartbeats 4000000 in
theorem level_Left_c (w : World) {A : Nat → Prop} (hA : ∀ b, w.heap.size ≤ b → A b) (c : level_Clock) (v_c : Value) (h_c : Sl A w v_c c.pieces) (cals : (List cal_Calendar)) (v_cals : Value) (h_cals : Sl A w v_cals cals) (m : Int) {r : (Int × Int)} (hm : level_Left c cals m = some r) : Ret Try.prog 13 #[.agg #[.int .i64 c.kind, .int .i64 c.level, .int .i64 c.minutes, .int .i64 c.start, .int .i64 c.stop, .int .i64 c.end_, v_c], v_cals, .int .i64 m] w fun v w' => v = .tuple #[.int .i64 r.1, .int .i64 r.2] ∧ Kp w w' := by
  unfold level_Left at hm
  refine enter Try.func13 rfl Try.ntmps13 rfl ?_
  have hA0 := hA
  have hB := Nat.le_refl w.heap.size
  have hK : Tr w.heap.size A w A w := Tr.refl hA
  have hH : Hp w.heap.size A w [] := Hp.nil
  refine C_seq ?_
  refine C_region ?_
  refine V_box rfl rfl ?_
  intro b5 w6 h7
  have hk9 := h7.kp
  have h8 : El (α := level_Clock) A w6 b5 0 c := h7.el hA ⟨[.int .i64 c.kind], _, rfl, rfl, ⟨[.int .i64 c.level], _, rfl, rfl, ⟨[.int .i64 c.minutes], _, rfl, rfl, ⟨[.int .i64 c.start], _, rfl, rfl, ⟨[.int .i64 c.stop], _, rfl, rfl, ⟨[.int .i64 c.end_], _, rfl, rfl, ⟨_, rfl, h_c⟩⟩⟩⟩⟩⟩⟩
  have ht10 := Kp.tr hk9 hA hB
  replace hH := Hp.kp hH hk9
  replace h_c := Sl.tr h_c ht10
  replace h_cals := Sl.tr h_cals ht10
  replace hK := Tr.trans hK ht10
  replace hB := Nat.le_trans hB ht10.ex.size
  replace hA := ht10.new
  refine V_y (Y_assign rfl) rfl rfl rfl ?_
  refine V_y (Y_assign rfl) rfl rfl rfl ?_
  refine V_to (fun _ _ => rfl) ?_
  refine C_seq ?_
  refine C_region ?_
  obtain ⟨v11, h13, h12⟩ := El_level_Clock h8
  refine V_y (Y_loadA h13 Try.isAgg35 Try.sizeOf35 rfl) rfl rfl rfl ?_
  refine V_y (Y_move rfl) rfl rfl rfl ?_
  refine V_y (Y_move rfl) rfl rfl rfl ?_
  obtain ⟨x14, hx14, hm⟩ := Option.bind_eq_some_iff.1 hm
  refine V_call Try.call12 rfl rfl rfl rfl (level_Elapsed_c w6 hA c v11 h12 cals v_cals h_cals m hx14) ?_
  rintro _ w15 ⟨rfl, hk16⟩
  have ht17 := Kp.tr hk16 hA hB
  replace hH := Hp.kp hH hk16
  replace h_cals := Sl.tr h_cals ht17
  replace h8 := El.tr h8 ht17
  replace h12 := Sl.tr h12 ht17
  replace hK := Tr.trans hK ht17
  replace hB := Nat.le_trans hB ht17.ex.size
  replace hA := ht17.new
  refine V_y (Y_move rfl) rfl rfl rfl ?_
  refine V_y (Y_extract rfl rfl) rfl rfl rfl ?_
  refine V_y (Y_extract rfl rfl) rfl rfl rfl ?_
  refine V_y (Y_assign rfl) rfl rfl rfl ?_
  refine V_y (Y_assign rfl) rfl rfl rfl ?_
  refine V_to (fun _ _ => rfl) ?_
  refine C_seq ?_
  refine C_seq ?_
  refine C_region ?_
  refine V_y (Y_move rfl) rfl rfl rfl ?_
  refine V_y (Y_neq rfl rfl) rfl rfl rfl ?_
  refine V_to (fun _ _ => rfl) ?_
  refine C_cond rfl (fun hc18 => ?_) (fun hc18 => ?_)
  · rw [if_pos hc18] at hm
    refine C_seq ?_
    refine C_region ?_
    refine V_y (Y_move rfl) rfl rfl rfl ?_
    refine V_y (Y_assign rfl) rfl rfl rfl ?_
    refine V_y (Y_assign rfl) rfl rfl rfl ?_
    refine V_to (fun _ _ => rfl) ?_
    obtain rfl := Option.some.inj hm
    refine C_ret ?_
    try simp only [↓inBlock_ret, ↓then_ret]
    exact retQ rfl (Res.two Try.results13 rfl rfl) ⟨rfl, hK.kp⟩
  · rw [if_neg (nt hc18)] at hm
    refine C_skip_to (fun _ _ => rfl) ?_
    refine C_seq ?_
    refine C_region ?_
    have h19 := El_level_Clock_2 h8
    refine V_y (Y_fieldAddr Try.underlying35 rfl Try.sizeOf3 (by decide) rfl) rfl rfl rfl ?_
    refine V_y (Y_load (El.int h19) Try.isAgg3 rfl) rfl rfl rfl ?_
    refine V_y (Y_move rfl) rfl rfl rfl ?_
    refine V_y (Y_subI rfl rfl) rfl rfl rfl ?_
    refine V_y (Y_assign rfl) rfl rfl rfl ?_
    refine V_y (Y_assign rfl) rfl rfl rfl ?_
    refine V_to (fun _ _ => rfl) ?_
    obtain rfl := Option.some.inj hm
    refine C_ret ?_
    try simp only [↓inBlock_ret, ↓then_ret]
    exact retQ rfl (Res.two Try.results13 rfl rfl) ⟨rfl, hK.kp⟩

set_option maxRecDepth 4000 in
set_option maxHeartbeats 4000000 in
theorem portref2_IsMoment_c (w : World) (m : Int) : Ret Try.prog 33 #[.int .i64 m] w fun v w' => v = .bool (portref2_IsMoment m) ∧ w = w' := by
  generalize hm : portref2_IsMoment m = r
  unfold portref2_IsMoment at hm
  refine enter Try.func33 rfl Try.ntmps33 rfl ?_
  refine C_seq ?_
  refine C_region ?_
  refine V_y (Y_assign rfl) rfl rfl rfl ?_
  refine V_to (fun _ _ => rfl) ?_
  refine C_seq ?_
  refine C_region ?_
  refine V_y (Y_move rfl) rfl rfl rfl ?_
  refine V_y (Y_geq rfl rfl) rfl rfl rfl ?_
  refine V_y (Y_move rfl) rfl rfl rfl ?_
  refine V_cut 3 (fun _ : Unit => [(8, .bool ((decide ((0 : Int) ≤ m)) && (decide (m ≤ 3000000))))]) (fun _ w' => w = w') ?_ ?_
  · simp only [List.take, List.drop]
    rcases Bool.eq_false_or_eq_true (decide ((0 : Int) ≤ m)) with hc1 | hc1
    · refine V_ge rfl rfl rfl hc1 ?_
      refine V_y (Y_move rfl) rfl rfl rfl ?_
      refine V_ge rfl rfl rfl hc1 ?_
      refine V_y (Y_leq rfl rfl) rfl rfl rfl ?_
      refine V_y (Y_pick_te rfl hc1 rfl) rfl rfl rfl ?_
      exact V_end fun a ha => ⟨(), ha.sub ⟨(by rw [hc1]; rfl), trivial⟩, rfl⟩
    · refine V_gn rfl rfl rfl hc1 rfl rfl rfl ?_
      refine V_gn rfl rfl rfl hc1 rfl rfl rfl ?_
      refine V_y (Y_pick_fe rfl hc1 rfl) rfl rfl rfl ?_
      exact V_end fun a ha => ⟨(), ha.sub ⟨(by rw [hc1]; rfl), trivial⟩, rfl⟩
  simp only [List.take, List.drop]
  rintro _ _ rfl
  refine V_y (Y_assign rfl) rfl rfl rfl ?_
  refine V_to (fun _ _ => rfl) ?_
  obtain rfl := hm
  refine C_ret ?_
  try simp only [↓inBlock_ret, ↓then_ret]
  exact retQ rfl (Res.one Try.results33 rfl) ⟨rfl, rfl⟩

set_option maxRecDepth 4000 in
set_option maxHeartbeats 4000000 in
theorem portref2_ClockFault_c (w : World) {A : Nat → Prop} (hA : ∀ b, w.heap.size ≤ b → A b) (c : level_Clock) (v_c : Value) (h_c : Sl A w v_c c.pieces) {r : Int} (hm : portref2_ClockFault c = some r) : Ret Try.prog 68 #[.agg #[.int .i64 c.kind, .int .i64 c.level, .int .i64 c.minutes, .int .i64 c.start, .int .i64 c.stop, .int .i64 c.end_, v_c]] w fun v w' => v = .int .i64 r ∧ Kp w w' := by
  unfold portref2_ClockFault at hm
  refine enter Try.func68 rfl Try.ntmps68 rfl ?_
  have hA0 := hA
  have hB := Nat.le_refl w.heap.size
  have hK : Tr w.heap.size A w A w := Tr.refl hA
  have hH : Hp w.heap.size A w [] := Hp.nil
  refine C_seq ?_
  refine C_region ?_
  refine V_box rfl rfl ?_
  intro b3 w4 h5
  have hk7 := h5.kp
  have h6 : El (α := level_Clock) A w4 b3 0 c := h5.el hA ⟨[.int .i64 c.kind], _, rfl, rfl, ⟨[.int .i64 c.level], _, rfl, rfl, ⟨[.int .i64 c.minutes], _, rfl, rfl, ⟨[.int .i64 c.start], _, rfl, rfl, ⟨[.int .i64 c.stop], _, rfl, rfl, ⟨[.int .i64 c.end_], _, rfl, rfl, ⟨_, rfl, h_c⟩⟩⟩⟩⟩⟩⟩
  have ht8 := Kp.tr hk7 hA hB
  replace hH := Hp.kp hH hk7
  replace h_c := Sl.tr h_c ht8
  replace hK := Tr.trans hK ht8
  replace hB := Nat.le_trans hB ht8.ex.size
  replace hA := ht8.new
  refine V_y (Y_assign rfl) rfl rfl rfl ?_
  refine V_to (fun _ _ => rfl) ?_
  refine C_seq ?_
  refine C_seq ?_
  refine C_region ?_
  have h9 := El_level_Clock_0 h6
  refine V_y (Y_fieldAddr Try.underlying35 rfl Try.sizeOf3 (by decide) rfl) rfl rfl rfl ?_
  refine V_y (Y_load (El.int h9) Try.isAgg3 rfl) rfl rfl rfl ?_
  refine V_y (Y_lss rfl rfl) rfl rfl rfl ?_
  refine V_y (Y_move rfl) rfl rfl rfl ?_
  refine V_cut 4 (fun _ : Unit => [(1, .pointer (some ⟨b3, 0, none⟩)), (12, .bool ((decide (c.kind < 1)) || (decide ((3 : Int) < c.kind))))]) (fun _ w' => w4 = w') ?_ ?_
  · simp only [List.take, List.drop]
    rcases Bool.eq_false_or_eq_true (decide (c.kind < 1)) with hc10 | hc10
    · refine V_gn rfl rfl rfl hc10 rfl rfl rfl ?_
      refine V_gn rfl rfl rfl hc10 rfl rfl rfl ?_
      refine V_gn rfl rfl rfl hc10 rfl rfl rfl ?_
      refine V_y (Y_pick_te rfl hc10 rfl) rfl rfl rfl ?_
      exact V_end fun a ha => ⟨(), ha.sub ⟨rfl, (by rw [hc10]; rfl), trivial⟩, rfl⟩
    · refine V_ge rfl rfl rfl hc10 ?_
      have h12 := El_level_Clock_0 h6
      refine V_y (Y_fieldAddr Try.underlying35 rfl Try.sizeOf3 (by decide) rfl) rfl rfl rfl ?_
      refine V_ge rfl rfl rfl hc10 ?_
      refine V_y (Y_load (El.int h12) Try.isAgg3 rfl) rfl rfl rfl ?_
      refine V_ge rfl rfl rfl hc10 ?_
      refine V_y (Y_gtr rfl rfl) rfl rfl rfl ?_
      refine V_y (Y_pick_fe rfl hc10 rfl) rfl rfl rfl ?_
      exact V_end fun a ha => ⟨(), ha.sub ⟨rfl, (by rw [hc10]; rfl), trivial⟩, rfl⟩
  simp only [List.take, List.drop]
  rintro _ _ rfl
  refine V_y (Y_move rfl) rfl rfl rfl ?_
  refine V_cut 4 (fun _ : Unit => [(1, .pointer (some ⟨b3, 0, none⟩)), (17, .bool (((decide (c.kind < 1)) || (decide ((3 : Int) < c.kind))) || (decide (c.level < 0))))]) (fun _ w' => w4 = w') ?_ ?_
  · simp only [List.take, List.drop]
    rcases Bool.eq_false_or_eq_true (((decide (c.kind < 1)) || (decide ((3 : Int) < c.kind)))) with hc13 | hc13
    · refine V_gn rfl rfl rfl hc13 rfl rfl rfl ?_
      refine V_gn rfl rfl rfl hc13 rfl rfl rfl ?_
      refine V_gn rfl rfl rfl hc13 rfl rfl rfl ?_
      refine V_y (Y_pick_te rfl hc13 rfl) rfl rfl rfl ?_
      exact V_end fun a ha => ⟨(), ha.sub ⟨rfl, (by rw [hc13]; rfl), trivial⟩, rfl⟩
    · refine V_ge rfl rfl rfl hc13 ?_
      have h15 := El_level_Clock_1 h6
      refine V_y (Y_fieldAddr Try.underlying35 rfl Try.sizeOf3 (by decide) rfl) rfl rfl rfl ?_
      refine V_ge rfl rfl rfl hc13 ?_
      refine V_y (Y_load (El.int h15) Try.isAgg3 rfl) rfl rfl rfl ?_
      refine V_ge rfl rfl rfl hc13 ?_
      refine V_y (Y_lss rfl rfl) rfl rfl rfl ?_
      refine V_y (Y_pick_fe rfl hc13 rfl) rfl rfl rfl ?_
      exact V_end fun a ha => ⟨(), ha.sub ⟨rfl, (by rw [hc13]; rfl), trivial⟩, rfl⟩
  simp only [List.take, List.drop]
  rintro _ _ rfl
  refine V_y (Y_move rfl) rfl rfl rfl ?_
  refine V_cut 4 (fun _ : Unit => [(1, .pointer (some ⟨b3, 0, none⟩)), (22, .bool ((((decide (c.kind < 1)) || (decide ((3 : Int) < c.kind))) || (decide (c.level < 0))) || (decide ((20 : Int) ≤ c.level))))]) (fun _ w' => w4 = w') ?_ ?_
  · simp only [List.take, List.drop]
    rcases Bool.eq_false_or_eq_true ((((decide (c.kind < 1)) || (decide ((3 : Int) < c.kind))) || (decide (c.level < 0)))) with hc16 | hc16
    · refine V_gn rfl rfl rfl hc16 rfl rfl rfl ?_
      refine V_gn rfl rfl rfl hc16 rfl rfl rfl ?_
      refine V_gn rfl rfl rfl hc16 rfl rfl rfl ?_
      refine V_y (Y_pick_te rfl hc16 rfl) rfl rfl rfl ?_
      exact V_end fun a ha => ⟨(), ha.sub ⟨rfl, (by rw [hc16]; rfl), trivial⟩, rfl⟩
    · refine V_ge rfl rfl rfl hc16 ?_
      have h18 := El_level_Clock_1 h6
      refine V_y (Y_fieldAddr Try.underlying35 rfl Try.sizeOf3 (by decide) rfl) rfl rfl rfl ?_
      refine V_ge rfl rfl rfl hc16 ?_
      refine V_y (Y_load (El.int h18) Try.isAgg3 rfl) rfl rfl rfl ?_
      refine V_ge rfl rfl rfl hc16 ?_
      refine V_y (Y_geq rfl rfl) rfl rfl rfl ?_
      refine V_y (Y_pick_fe rfl hc16 rfl) rfl rfl rfl ?_
      exact V_end fun a ha => ⟨(), ha.sub ⟨rfl, (by rw [hc16]; rfl), trivial⟩, rfl⟩
  simp only [List.take, List.drop]
  rintro _ _ rfl
  refine V_y (Y_move rfl) rfl rfl rfl ?_
  refine V_cut 4 (fun _ : Unit => [(1, .pointer (some ⟨b3, 0, none⟩)), (27, .bool (((((decide (c.kind < 1)) || (decide ((3 : Int) < c.kind))) || (decide (c.level < 0))) || (decide ((20 : Int) ≤ c.level))) || (decide (c.minutes < 0))))]) (fun _ w' => w4 = w') ?_ ?_
  · simp only [List.take, List.drop]
    rcases Bool.eq_false_or_eq_true (((((decide (c.kind < 1)) || (decide ((3 : Int) < c.kind))) || (decide (c.level < 0))) || (decide ((20 : Int) ≤ c.level)))) with hc19 | hc19
    · refine V_gn rfl rfl rfl hc19 rfl rfl rfl ?_
      refine V_gn rfl rfl rfl hc19 rfl rfl rfl ?_
      refine V_gn rfl rfl rfl hc19 rfl rfl rfl ?_
      refine V_y (Y_pick_te rfl hc19 rfl) rfl rfl rfl ?_
      exact V_end fun a ha => ⟨(), ha.sub ⟨rfl, (by rw [hc19]; rfl), trivial⟩, rfl⟩
    · refine V_ge rfl rfl rfl hc19 ?_
      have h21 := El_level_Clock_2 h6
      refine V_y (Y_fieldAddr Try.underlying35 rfl Try.sizeOf3 (by decide) rfl) rfl rfl rfl ?_
      refine V_ge rfl rfl rfl hc19 ?_
      refine V_y (Y_load (El.int h21) Try.isAgg3 rfl) rfl rfl rfl ?_
      refine V_ge rfl rfl rfl hc19 ?_
      refine V_y (Y_lss rfl rfl) rfl rfl rfl ?_
      refine V_y (Y_pick_fe rfl hc19 rfl) rfl rfl rfl ?_
      exact V_end fun a ha => ⟨(), ha.sub ⟨rfl, (by rw [hc19]; rfl), trivial⟩, rfl⟩
  simp only [List.take, List.drop]
  rintro _ _ rfl
  refine V_y (Y_move rfl) rfl rfl rfl ?_
  refine V_cut 4 (fun _ : Unit => [(1, .pointer (some ⟨b3, 0, none⟩)), (32, .bool ((((((decide (c.kind < 1)) || (decide ((3 : Int) < c.kind))) || (decide (c.level < 0))) || (decide ((20 : Int) ≤ c.level))) || (decide (c.minutes < 0))) || (decide ((100000 : Int) < c.minutes))))]) (fun _ w' => w4 = w') ?_ ?_
  · simp only [List.take, List.drop]
    rcases Bool.eq_false_or_eq_true ((((((decide (c.kind < 1)) || (decide ((3 : Int) < c.kind))) || (decide (c.level < 0))) || (decide ((20 : Int) ≤ c.level))) || (decide (c.minutes < 0)))) with hc22 | hc22
    · refine V_gn rfl rfl rfl hc22 rfl rfl rfl ?_
      refine V_gn rfl rfl rfl hc22 rfl rfl rfl ?_
      refine V_gn rfl rfl rfl hc22 rfl rfl rfl ?_
      refine V_y (Y_pick_te rfl hc22 rfl) rfl rfl rfl ?_
      exact V_end fun a ha => ⟨(), ha.sub ⟨rfl, (by rw [hc22]; rfl), trivial⟩, rfl⟩
    · refine V_ge rfl rfl rfl hc22 ?_
      have h24 := El_level_Clock_2 h6
      refine V_y (Y_fieldAddr Try.underlying35 rfl Try.sizeOf3 (by decide) rfl) rfl rfl rfl ?_
      refine V_ge rfl rfl rfl hc22 ?_
      refine V_y (Y_load (El.int h24) Try.isAgg3 rfl) rfl rfl rfl ?_
      refine V_ge rfl rfl rfl hc22 ?_
      refine V_y (Y_gtr rfl rfl) rfl rfl rfl ?_
      refine V_y (Y_pick_fe rfl hc22 rfl) rfl rfl rfl ?_
      exact V_end fun a ha => ⟨(), ha.sub ⟨rfl, (by rw [hc22]; rfl), trivial⟩, rfl⟩
  simp only [List.take, List.drop]
  rintro _ _ rfl
  refine V_y (Y_move rfl) rfl rfl rfl ?_
  refine V_cut 5 (fun _ : Unit => [(1, .pointer (some ⟨b3, 0, none⟩)), (38, .bool (((((((decide (c.kind < 1)) || (decide ((3 : Int) < c.kind))) || (decide (c.level < 0))) || (decide ((20 : Int) ≤ c.level))) || (decide (c.minutes < 0))) || (decide ((100000 : Int) < c.minutes))) || (!(portref2_IsMoment c.start))))]) (fun _ w' => w4 = w') ?_ ?_
  · simp only [List.take, List.drop]
    rcases Bool.eq_false_or_eq_true (((((((decide (c.kind < 1)) || (decide ((3 : Int) < c.kind))) || (decide (c.level < 0))) || (decide ((20 : Int) ≤ c.level))) || (decide (c.minutes < 0))) || (decide ((100000 : Int) < c.minutes)))) with hc25 | hc25
    · refine V_gn rfl rfl rfl hc25 rfl rfl rfl ?_
      refine V_gn rfl rfl rfl hc25 rfl rfl rfl ?_
      refine V_gn rfl rfl rfl hc25 rfl rfl rfl ?_
      refine V_gn rfl rfl rfl hc25 rfl rfl rfl ?_
      refine V_y (Y_pick_te rfl hc25 rfl) rfl rfl rfl ?_
      exact V_end fun a ha => ⟨(), ha.sub ⟨rfl, (by rw [hc25]; rfl), trivial⟩, rfl⟩
    · refine V_ge rfl rfl rfl hc25 ?_
      have h27 := El_level_Clock_3 h6
      refine V_y (Y_fieldAddr Try.underlying35 rfl Try.sizeOf3 (by decide) rfl) rfl rfl rfl ?_
      refine V_ge rfl rfl rfl hc25 ?_
      refine V_y (Y_load (El.int h27) Try.isAgg3 rfl) rfl rfl rfl ?_
      refine V_ge rfl rfl rfl hc25 ?_
      refine V_call Try.call33 rfl rfl rfl rfl (portref2_IsMoment_c w4 c.start) ?_
      rintro _ _ ⟨rfl, rfl⟩
      refine V_ge rfl rfl rfl hc25 ?_
      refine V_y (Y_not rfl) rfl rfl rfl ?_
      refine V_y (Y_pick_fe rfl hc25 rfl) rfl rfl rfl ?_
      exact V_end fun a ha => ⟨(), ha.sub ⟨rfl, (by rw [hc25]; rfl), trivial⟩, rfl⟩
  simp only [List.take, List.drop]
  rintro _ _ rfl
  refine V_y (Y_move rfl) rfl rfl rfl ?_
  refine V_cut 17 (fun _ : Unit => [(1, .pointer (some ⟨b3, 0, none⟩)), (56, .bool ((((((((decide (c.kind < 1)) || (decide ((3 : Int) < c.kind))) || (decide (c.level < 0))) || (decide ((20 : Int) ≤ c.level))) || (decide (c.minutes < 0))) || (decide ((100000 : Int) < c.minutes))) || (!(portref2_IsMoment c.start))) || ((c.stop != (-1)) && ((!(portref2_IsMoment c.stop)) || (decide (c.stop < c.start))))))]) (fun _ w' => w4 = w') ?_ ?_
  · simp only [List.take, List.drop]
    rcases Bool.eq_false_or_eq_true ((((((((decide (c.kind < 1)) || (decide ((3 : Int) < c.kind))) || (decide (c.level < 0))) || (decide ((20 : Int) ≤ c.level))) || (decide (c.minutes < 0))) || (decide ((100000 : Int) < c.minutes))) || (!(portref2_IsMoment c.start)))) with hc28 | hc28
    · refine V_gn rfl rfl rfl hc28 rfl rfl rfl ?_
      refine V_gn rfl rfl rfl hc28 rfl rfl rfl ?_
      refine V_gn rfl rfl rfl hc28 rfl rfl rfl ?_
      refine V_gn rfl rfl rfl hc28 rfl rfl rfl ?_
      refine V_gu rfl rfl rfl rfl rfl ?_
      refine V_gu rfl rfl rfl rfl rfl ?_
      refine V_gu rfl rfl rfl rfl rfl ?_
      refine V_gu rfl rfl rfl rfl rfl ?_
      refine V_gu rfl rfl rfl rfl rfl ?_
      refine V_gu rfl rfl rfl rfl rfl ?_
      refine V_gu rfl rfl rfl rfl rfl ?_
      refine V_gu rfl rfl rfl rfl rfl ?_
      refine V_gu rfl rfl rfl rfl rfl ?_
      refine V_gu rfl rfl rfl rfl rfl ?_
      refine V_gu rfl rfl rfl rfl rfl ?_
      refine V_gn rfl rfl rfl hc28 rfl rfl rfl ?_
      refine V_y (Y_pick_te rfl hc28 rfl) rfl rfl rfl ?_
      exact V_end fun a ha => ⟨(), ha.sub ⟨rfl, (by rw [hc28]; rfl), trivial⟩, rfl⟩
    · refine V_ge rfl rfl rfl hc28 ?_
      have h30 := El_level_Clock_4 h6
      refine V_y (Y_fieldAddr Try.underlying35 rfl Try.sizeOf3 (by decide) rfl) rfl rfl rfl ?_
      refine V_ge rfl rfl rfl hc28 ?_
      refine V_y (Y_load (El.int h30) Try.isAgg3 rfl) rfl rfl rfl ?_
      refine V_ge rfl rfl rfl hc28 ?_
      refine V_y (Y_neq rfl rfl) rfl rfl rfl ?_
      refine V_ge rfl rfl rfl hc28 ?_
      refine V_y (Y_move rfl) rfl rfl rfl ?_
      refine V_cut 12 (fun _ : Unit => [(1, .pointer (some ⟨b3, 0, none⟩)), (39, .bool (((((((decide (c.kind < 1)) || (decide ((3 : Int) < c.kind))) || (decide (c.level < 0))) || (decide ((20 : Int) ≤ c.level))) || (decide (c.minutes < 0))) || (decide ((100000 : Int) < c.minutes))) || (!(portref2_IsMoment c.start)))), (55, .bool ((c.stop != (-1)) && ((!(portref2_IsMoment c.stop)) || (decide (c.stop < c.start)))))]) (fun _ w' => w4 = w') ?_ ?_
      · simp only [List.take, List.drop]
        rcases Bool.eq_false_or_eq_true (c.stop != (-1)) with hc31 | hc31
        · refine V_ge rfl rfl rfl hc31 ?_
          have h33 := El_level_Clock_4 h6
          refine V_y (Y_fieldAddr Try.underlying35 rfl Try.sizeOf3 (by decide) rfl) rfl rfl rfl ?_
          refine V_ge rfl rfl rfl hc31 ?_
          refine V_y (Y_load (El.int h33) Try.isAgg3 rfl) rfl rfl rfl ?_
          refine V_ge rfl rfl rfl hc31 ?_
          refine V_call Try.call33 rfl rfl rfl rfl (portref2_IsMoment_c w4 c.stop) ?_
          rintro _ _ ⟨rfl, rfl⟩
          refine V_ge rfl rfl rfl hc31 ?_
          refine V_y (Y_not rfl) rfl rfl rfl ?_
          refine V_ge rfl rfl rfl hc31 ?_
          refine V_y (Y_move rfl) rfl rfl rfl ?_
          refine V_cut 6 (fun _ : Unit => [(1, .pointer (some ⟨b3, 0, none⟩)), (39, .bool (((((((decide (c.kind < 1)) || (decide ((3 : Int) < c.kind))) || (decide (c.level < 0))) || (decide ((20 : Int) ≤ c.level))) || (decide (c.minutes < 0))) || (decide ((100000 : Int) < c.minutes))) || (!(portref2_IsMoment c.start)))), (43, .bool (c.stop != (-1))), (54, .bool ((!(portref2_IsMoment c.stop)) || (decide (c.stop < c.start))))]) (fun _ w' => w4 = w') ?_ ?_
          · simp only [List.take, List.drop]
            rcases Bool.eq_false_or_eq_true (!(portref2_IsMoment c.stop)) with hc34 | hc34
            · refine V_gn rfl rfl rfl hc34 rfl rfl rfl ?_
              refine V_gn rfl rfl rfl hc34 rfl rfl rfl ?_
              refine V_gn rfl rfl rfl hc34 rfl rfl rfl ?_
              refine V_gn rfl rfl rfl hc34 rfl rfl rfl ?_
              refine V_gn rfl rfl rfl hc34 rfl rfl rfl ?_
              refine V_ge rfl rfl rfl hc31 ?_
              refine V_y (Y_pick_te rfl hc34 rfl) rfl rfl rfl ?_
              exact V_end fun a ha => ⟨(), ha.sub ⟨rfl, rfl, rfl, (by rw [hc34]; rfl), trivial⟩, rfl⟩
            · refine V_ge rfl rfl rfl hc34 ?_
              have h36 := El_level_Clock_4 h6
              refine V_y (Y_fieldAddr Try.underlying35 rfl Try.sizeOf3 (by decide) rfl) rfl rfl rfl ?_
              refine V_ge rfl rfl rfl hc34 ?_
              refine V_y (Y_load (El.int h36) Try.isAgg3 rfl) rfl rfl rfl ?_
              refine V_ge rfl rfl rfl hc34 ?_
              have h37 := El_level_Clock_3 h6
              refine V_y (Y_fieldAddr Try.underlying35 rfl Try.sizeOf3 (by decide) rfl) rfl rfl rfl ?_
              refine V_ge rfl rfl rfl hc34 ?_
              refine V_y (Y_load (El.int h37) Try.isAgg3 rfl) rfl rfl rfl ?_
              refine V_ge rfl rfl rfl hc34 ?_
              refine V_y (Y_lss rfl rfl) rfl rfl rfl ?_
              refine V_ge rfl rfl rfl hc31 ?_
              refine V_y (Y_pick_fe rfl hc34 rfl) rfl rfl rfl ?_
              exact V_end fun a ha => ⟨(), ha.sub ⟨rfl, rfl, rfl, (by rw [hc34]; rfl), trivial⟩, rfl⟩
          simp only [List.take, List.drop]
          rintro _ _ rfl
          refine V_ge rfl rfl rfl hc28 ?_
          refine V_y (Y_pick_te rfl hc31 rfl) rfl rfl rfl ?_
          exact V_end fun a ha => ⟨(), ha.sub ⟨rfl, rfl, (by rw [hc31]; rfl), trivial⟩, rfl⟩
        · refine V_gn rfl rfl rfl hc31 rfl rfl rfl ?_
          refine V_gn rfl rfl rfl hc31 rfl rfl rfl ?_
          refine V_gn rfl rfl rfl hc31 rfl rfl rfl ?_
          refine V_gn rfl rfl rfl hc31 rfl rfl rfl ?_
          refine V_gn rfl rfl rfl hc31 rfl rfl rfl ?_
          refine V_gu rfl rfl rfl rfl rfl ?_
          refine V_gu rfl rfl rfl rfl rfl ?_
          refine V_gu rfl rfl rfl rfl rfl ?_
          refine V_gu rfl rfl rfl rfl rfl ?_
          refine V_gu rfl rfl rfl rfl rfl ?_
          refine V_gn rfl rfl rfl hc31 rfl rfl rfl ?_
          refine V_ge rfl rfl rfl hc28 ?_
          refine V_y (Y_pick_fe rfl hc31 rfl) rfl rfl rfl ?_
          exact V_end fun a ha => ⟨(), ha.sub ⟨rfl, rfl, (by rw [hc31]; rfl), trivial⟩, rfl⟩
      simp only [List.take, List.drop]
      rintro _ _ rfl
      refine V_y (Y_pick_fe rfl hc28 rfl) rfl rfl rfl ?_
      exact V_end fun a ha => ⟨(), ha.sub ⟨rfl, (by rw [hc28]; rfl), trivial⟩, rfl⟩
  simp only [List.take, List.drop]
  rintro _ _ rfl
  refine V_y (Y_move rfl) rfl rfl rfl ?_
  refine V_cut 4 (fun _ : Unit => [(1, .pointer (some ⟨b3, 0, none⟩)), (61, .bool (((((((((decide (c.kind < 1)) || (decide ((3 : Int) < c.kind))) || (decide (c.level < 0))) || (decide ((20 : Int) ≤ c.level))) || (decide (c.minutes < 0))) || (decide ((100000 : Int) < c.minutes))) || (!(portref2_IsMoment c.start))) || ((c.stop != (-1)) && ((!(portref2_IsMoment c.stop)) || (decide (c.stop < c.start))))) || (decide (c.end_ < 0))))]) (fun _ w' => w4 = w') ?_ ?_
  · simp only [List.take, List.drop]
    rcases Bool.eq_false_or_eq_true (((((((((decide (c.kind < 1)) || (decide ((3 : Int) < c.kind))) || (decide (c.level < 0))) || (decide ((20 : Int) ≤ c.level))) || (decide (c.minutes < 0))) || (decide ((100000 : Int) < c.minutes))) || (!(portref2_IsMoment c.start))) || ((c.stop != (-1)) && ((!(portref2_IsMoment c.stop)) || (decide (c.stop < c.start)))))) with hc38 | hc38
    · refine V_gn rfl rfl rfl hc38 rfl rfl rfl ?_
      refine V_gn rfl rfl rfl hc38 rfl rfl rfl ?_
      refine V_gn rfl rfl rfl hc38 rfl rfl rfl ?_
      refine V_y (Y_pick_te rfl hc38 rfl) rfl rfl rfl ?_
      exact V_end fun a ha => ⟨(), ha.sub ⟨rfl, (by rw [hc38]; rfl), trivial⟩, rfl⟩
    · refine V_ge rfl rfl rfl hc38 ?_
      have h40 := El_level_Clock_5 h6
      refine V_y (Y_fieldAddr Try.underlying35 rfl Try.sizeOf3 (by decide) rfl) rfl rfl rfl ?_
      refine V_ge rfl rfl rfl hc38 ?_
      refine V_y (Y_load (El.int h40) Try.isAgg3 rfl) rfl rfl rfl ?_
      refine V_ge rfl rfl rfl hc38 ?_
      refine V_y (Y_lss rfl rfl) rfl rfl rfl ?_
      refine V_y (Y_pick_fe rfl hc38 rfl) rfl rfl rfl ?_
      exact V_end fun a ha => ⟨(), ha.sub ⟨rfl, (by rw [hc38]; rfl), trivial⟩, rfl⟩
  simp only [List.take, List.drop]
  rintro _ _ rfl
  refine V_y (Y_move rfl) rfl rfl rfl ?_
  refine V_cut 4 (fun _ : Unit => [(1, .pointer (some ⟨b3, 0, none⟩)), (66, .bool ((((((((((decide (c.kind < 1)) || (decide ((3 : Int) < c.kind))) || (decide (c.level < 0))) || (decide ((20 : Int) ≤ c.level))) || (decide (c.minutes < 0))) || (decide ((100000 : Int) < c.minutes))) || (!(portref2_IsMoment c.start))) || ((c.stop != (-1)) && ((!(portref2_IsMoment c.stop)) || (decide (c.stop < c.start))))) || (decide (c.end_ < 0))) || (decide ((2 : Int) < c.end_))))]) (fun _ w' => w4 = w') ?_ ?_
  · simp only [List.take, List.drop]
    rcases Bool.eq_false_or_eq_true ((((((((((decide (c.kind < 1)) || (decide ((3 : Int) < c.kind))) || (decide (c.level < 0))) || (decide ((20 : Int) ≤ c.level))) || (decide (c.minutes < 0))) || (decide ((100000 : Int) < c.minutes))) || (!(portref2_IsMoment c.start))) || ((c.stop != (-1)) && ((!(portref2_IsMoment c.stop)) || (decide (c.stop < c.start))))) || (decide (c.end_ < 0)))) with hc41 | hc41
    · refine V_gn rfl rfl rfl hc41 rfl rfl rfl ?_
      refine V_gn rfl rfl rfl hc41 rfl rfl rfl ?_
      refine V_gn rfl rfl rfl hc41 rfl rfl rfl ?_
      refine V_y (Y_pick_te rfl hc41 rfl) rfl rfl rfl ?_
      exact V_end fun a ha => ⟨(), ha.sub ⟨rfl, (by rw [hc41]; rfl), trivial⟩, rfl⟩
    · refine V_ge rfl rfl rfl hc41 ?_
      have h43 := El_level_Clock_5 h6
      refine V_y (Y_fieldAddr Try.underlying35 rfl Try.sizeOf3 (by decide) rfl) rfl rfl rfl ?_
      refine V_ge rfl rfl rfl hc41 ?_
      refine V_y (Y_load (El.int h43) Try.isAgg3 rfl) rfl rfl rfl ?_
      refine V_ge rfl rfl rfl hc41 ?_
      refine V_y (Y_gtr rfl rfl) rfl rfl rfl ?_
      refine V_y (Y_pick_fe rfl hc41 rfl) rfl rfl rfl ?_
      exact V_end fun a ha => ⟨(), ha.sub ⟨rfl, (by rw [hc41]; rfl), trivial⟩, rfl⟩
  simp only [List.take, List.drop]
  rintro _ _ rfl
  refine V_to (fun _ _ => rfl) ?_
  refine C_cond rfl (fun hc44 => ?_) (fun hc44 => ?_)
  · rw [if_pos hc44] at hm
    refine C_seq ?_
    refine C_region ?_
    refine V_y (Y_assign rfl) rfl rfl rfl ?_
    refine V_to (fun _ _ => rfl) ?_
    obtain rfl := Option.some.inj hm
    refine C_ret ?_
    try simp only [↓inBlock_ret, ↓then_ret]
    exact retQ rfl (Res.one Try.results68 rfl) ⟨rfl, hK.kp⟩
  · rw [if_neg (nt hc44)] at hm
    refine C_skip_to (fun _ _ => rfl) ?_
    refine C_seq ?_
    refine C_seq ?_
    refine C_region ?_
    have h45 := El_level_Clock_4 h6
    refine V_y (Y_fieldAddr Try.underlying35 rfl Try.sizeOf3 (by decide) rfl) rfl rfl rfl ?_
    refine V_y (Y_load (El.int h45) Try.isAgg3 rfl) rfl rfl rfl ?_
    refine V_y (Y_eql rfl rfl) rfl rfl rfl ?_
    have h46 := El_level_Clock_5 h6
    refine V_y (Y_fieldAddr Try.underlying35 rfl Try.sizeOf3 (by decide) rfl) rfl rfl rfl ?_
    refine V_y (Y_load (El.int h46) Try.isAgg3 rfl) rfl rfl rfl ?_
    refine V_y (Y_eql rfl rfl) rfl rfl rfl ?_
    refine V_y (Y_bneq Try.underlying4 rfl rfl) rfl rfl rfl ?_
    refine V_to (fun _ _ => rfl) ?_
    refine C_cond rfl (fun hc47 => ?_) (fun hc47 => ?_)
    · rw [if_pos hc47] at hm
      refine C_seq ?_
      refine C_region ?_
      refine V_y (Y_assign rfl) rfl rfl rfl ?_
      refine V_to (fun _ _ => rfl) ?_
      obtain rfl := Option.some.inj hm
      refine C_ret ?_
      try simp only [↓inBlock_ret, ↓then_ret]
      exact retQ rfl (Res.one Try.results68 rfl) ⟨rfl, hK.kp⟩
    · rw [if_neg (nt hc47)] at hm
      refine C_skip_to (fun _ _ => rfl) ?_
      refine C_seq ?_
      refine C_seq ?_
      refine C_region ?_
      have h48 := El_level_Clock_6 h6
      refine V_y (Y_fieldAddr Try.underlying35 rfl Try.sizeOf33 (by decide) rfl) rfl rfl rfl ?_
      obtain ⟨v49, h50, h51⟩ := El.list h48
      refine V_y (Y_load h50 Try.isAgg33 rfl) rfl rfl rfl ?_
      refine V_y (Y_lenSl h51 rfl Try.underlying33 rfl) rfl rfl rfl ?_
      refine V_y (Y_gtr rfl rfl) rfl rfl rfl ?_
      refine V_to (fun _ _ => rfl) ?_
      refine C_cond rfl (fun hc52 => ?_) (fun hc52 => ?_)
      · rw [if_pos hc52] at hm
        refine C_seq ?_
        refine C_region ?_
        refine V_y (Y_assign rfl) rfl rfl rfl ?_
        refine V_to (fun _ _ => rfl) ?_
        obtain rfl := Option.some.inj hm
        refine C_ret ?_
        try simp only [↓inBlock_ret, ↓then_ret]
        exact retQ rfl (Res.one Try.results68 rfl) ⟨rfl, hK.kp⟩
      · rw [if_neg (nt hc52)] at hm
        refine C_skip_to (fun _ _ => rfl) ?_
        refine C_seq ?_
        refine C_seq ?_
        refine C_region ?_
        have h53 := El_level_Clock_6 h6
        refine V_y (Y_fieldAddr Try.underlying35 rfl Try.sizeOf33 (by decide) rfl) rfl rfl rfl ?_
        obtain ⟨v54, h55, h56⟩ := El.list h53
        refine V_y (Y_load h55 Try.isAgg33 rfl) rfl rfl rfl ?_
        refine V_y (Y_lenSl h56 rfl Try.underlying33 rfl) rfl rfl rfl ?_
        refine V_y (Y_move rfl) rfl rfl rfl ?_
        refine V_to (fun _ _ => rfl) ?_
        have hn77 := Sl.le h56
        obtain ⟨o57, ho57, hm⟩ := Option.bind_eq_some_iff.1 hm
        refine C_cutG (ι := (Unit × (Nat → Prop))) (fun ⟨s58, A64⟩ => []) (fun ⟨s58, A64⟩ => fun w' => o57 = .fin s58 ∧ Hp w.heap.size A64 w' ([]) ∧ Tr w.heap.size A w4 A64 w') ?_ ?_
        · refine C_block ?_
          refine C_range ho57 (fun k60 _ a w' => ∃ i : (Nat → Prop), Has ⟨169, [], none⟩ a ([(1, .pointer (some ⟨b3, 0, none⟩)), (79, v54), (80, .int .i64 (c.pieces.length : Int)), (81, .int .i64 (k60 : Int))]) ∧ Hp w.heap.size i w' ([]) ∧ Tr w.heap.size A w4 i w') (fun a ha => ⟨A, ha.sub ⟨rfl, rfl, rfl, rfl, trivial⟩, ⟨hH, Tr.refl hA⟩⟩) ?_
          rintro K k60 _ a w67 ⟨A68, ha157, hH69, hr59⟩ hle73 K76 h75
          refine C_of ?_ ha157
          replace h6 := El.tr h6 hr59
          replace h56 := Sl.tr h56 hr59
          replace hK := Tr.trans hK hr59
          replace hB := Nat.le_trans hB hr59.ex.size
          replace hA := hr59.new
          replace hH : Hp w.heap.size A68 w67 ([]) := hH69
          refine C_seq (C_region (V_y (Y_lss rfl rfl) rfl rfl rfl (V_to (fun _ _ => rfl) ?_)))
          refine C_seq ?_
          refine C_cond rfl (fun hc78 => ?_) (fun hc78 => ?_)
          · have hlt74 := lt_of_dec hc78
            obtain ⟨x70, h71, h72⟩ := K76 hlt74
            refine C_skip_to (fun _ _ => rfl) ?_
            refine C_seq ?_
            refine C_block ?_
            refine C_seq ?_
            refine C_region ?_
            refine V_y (Y_move rfl) rfl rfl rfl ?_
            obtain ⟨x79, hx79, h71⟩ := Option.bind_eq_some_iff.1 h71
            refine V_indexAddr h56 hx79 Try.underlying33 Try.sizeOf64 rfl rfl rfl ?_
            intro b80 o81 h82
            obtain ⟨h83, _⟩ := El_level_Piece h82
            refine V_y (Y_loadA h83 Try.isAgg64 Try.sizeOf64 rfl) rfl rfl rfl ?_
            refine V_alloc Try.zeroValue64 rfl ?_
            intro b84 w85 h86
            refine V_y (Y_assign rfl) rfl rfl rfl ?_
            refine V_storeNew h86 Try.sizeOf64 rfl rfl rfl rfl (by exact (List.forall_mem_cons.2 ⟨rfl, (List.forall_mem_cons.2 ⟨rfl, (List.forall_mem_cons.2 ⟨rfl, (fun _ h => nomatch h)⟩)⟩)⟩)) ?_
            intro w87 h88
            have hk90 := h88.kp
            have h89 : El (α := level_Piece) A68 w87 b84 0 x79 := h88.el hA ⟨[.int .i64 x79.from_], _, rfl, rfl, ⟨[.int .i64 x79.to_], _, rfl, rfl, rfl⟩⟩
            have ht91 := Kp.tr hk90 hA hB
            replace hH := Hp.kp hH hk90
            replace h6 := El.tr h6 ht91
            replace h56 := Sl.tr h56 ht91
            replace h82 := El.tr h82 ht91
            replace hK := Tr.trans hK ht91
            replace hr59 := Tr.trans hr59 ht91
            replace hB := Nat.le_trans hB ht91.ex.size
            replace hA := ht91.new
            refine V_to (fun _ _ => rfl) ?_
            refine C_block ?_
            refine C_seq ?_
            refine C_region ?_
            have h92 := El_level_Piece_0 h89
            refine V_y (Y_fieldAddr Try.underlying64 rfl Try.sizeOf3 (by decide) rfl) rfl rfl rfl ?_
            refine V_y (Y_load (El.int h92) Try.isAgg3 rfl) rfl rfl rfl ?_
            have h93 := El_level_Clock_3 h6
            refine V_y (Y_fieldAddr Try.underlying35 rfl Try.sizeOf3 (by decide) rfl) rfl rfl rfl ?_
            refine V_y (Y_load (El.int h93) Try.isAgg3 rfl) rfl rfl rfl ?_
            refine V_y (Y_lss rfl rfl) rfl rfl rfl ?_
            refine V_y (Y_move rfl) rfl rfl rfl ?_
            refine V_cut 5 (fun _ : Unit => [(1, .pointer (some ⟨b3, 0, none⟩)), (3, .int .i64 (k60 : Int)), (4, .pointer (some ⟨b84, 0, none⟩)), (79, v54), (80, .int .i64 (c.pieces.length : Int)), (81, .int .i64 (k60 : Int)), (97, .bool ((decide (x79.from_ < c.start)) || (!(portref2_IsMoment x79.from_))))]) (fun _ w' => w87 = w') ?_ ?_
            · simp only [List.take, List.drop]
              rcases Bool.eq_false_or_eq_true (decide (x79.from_ < c.start)) with hc94 | hc94
              · refine V_gn rfl rfl rfl hc94 rfl rfl rfl ?_
                refine V_gn rfl rfl rfl hc94 rfl rfl rfl ?_
                refine V_gn rfl rfl rfl hc94 rfl rfl rfl ?_
                refine V_gn rfl rfl rfl hc94 rfl rfl rfl ?_
                refine V_y (Y_pick_te rfl hc94 rfl) rfl rfl rfl ?_
                exact V_end fun a ha => ⟨(), ha.sub ⟨rfl, rfl, rfl, rfl, rfl, rfl, (by rw [hc94]; rfl), trivial⟩, rfl⟩
              · refine V_ge rfl rfl rfl hc94 ?_
                have h96 := El_level_Piece_0 h89
                refine V_y (Y_fieldAddr Try.underlying64 rfl Try.sizeOf3 (by decide) rfl) rfl rfl rfl ?_
                refine V_ge rfl rfl rfl hc94 ?_
                refine V_y (Y_load (El.int h96) Try.isAgg3 rfl) rfl rfl rfl ?_
                refine V_ge rfl rfl rfl hc94 ?_
                refine V_call Try.call33 rfl rfl rfl rfl (portref2_IsMoment_c w87 x79.from_) ?_
                rintro _ _ ⟨rfl, rfl⟩
                refine V_ge rfl rfl rfl hc94 ?_
                refine V_y (Y_not rfl) rfl rfl rfl ?_
                refine V_y (Y_pick_fe rfl hc94 rfl) rfl rfl rfl ?_
                exact V_end fun a ha => ⟨(), ha.sub ⟨rfl, rfl, rfl, rfl, rfl, rfl, (by rw [hc94]; rfl), trivial⟩, rfl⟩
            simp only [List.take, List.drop]
            rintro _ _ rfl
            refine V_y (Y_move rfl) rfl rfl rfl ?_
            refine V_cut 4 (fun _ : Unit => [(1, .pointer (some ⟨b3, 0, none⟩)), (3, .int .i64 (k60 : Int)), (4, .pointer (some ⟨b84, 0, none⟩)), (79, v54), (80, .int .i64 (c.pieces.length : Int)), (81, .int .i64 (k60 : Int)), (102, .bool (((decide (x79.from_ < c.start)) || (!(portref2_IsMoment x79.from_))) || (decide (x79.calendar < 0))))]) (fun _ w' => w87 = w') ?_ ?_
            · simp only [List.take, List.drop]
              rcases Bool.eq_false_or_eq_true (((decide (x79.from_ < c.start)) || (!(portref2_IsMoment x79.from_)))) with hc97 | hc97
              · refine V_gn rfl rfl rfl hc97 rfl rfl rfl ?_
                refine V_gn rfl rfl rfl hc97 rfl rfl rfl ?_
                refine V_gn rfl rfl rfl hc97 rfl rfl rfl ?_
                refine V_y (Y_pick_te rfl hc97 rfl) rfl rfl rfl ?_
                exact V_end fun a ha => ⟨(), ha.sub ⟨rfl, rfl, rfl, rfl, rfl, rfl, (by rw [hc97]; rfl), trivial⟩, rfl⟩
              · refine V_ge rfl rfl rfl hc97 ?_
                have h99 := El_level_Piece_2 h89
                refine V_y (Y_fieldAddr Try.underlying64 rfl Try.sizeOf3 (by decide) rfl) rfl rfl rfl ?_
                refine V_ge rfl rfl rfl hc97 ?_
                refine V_y (Y_load (El.int h99) Try.isAgg3 rfl) rfl rfl rfl ?_
                refine V_ge rfl rfl rfl hc97 ?_
                refine V_y (Y_lss rfl rfl) rfl rfl rfl ?_
                refine V_y (Y_pick_fe rfl hc97 rfl) rfl rfl rfl ?_
                exact V_end fun a ha => ⟨(), ha.sub ⟨rfl, rfl, rfl, rfl, rfl, rfl, (by rw [hc97]; rfl), trivial⟩, rfl⟩
            simp only [List.take, List.drop]
            rintro _ _ rfl
            refine V_y (Y_move rfl) rfl rfl rfl ?_
            refine V_cut 4 (fun _ : Unit => [(1, .pointer (some ⟨b3, 0, none⟩)), (3, .int .i64 (k60 : Int)), (4, .pointer (some ⟨b84, 0, none⟩)), (79, v54), (80, .int .i64 (c.pieces.length : Int)), (81, .int .i64 (k60 : Int)), (107, .bool ((((decide (x79.from_ < c.start)) || (!(portref2_IsMoment x79.from_))) || (decide (x79.calendar < 0))) || (decide ((20 : Int) ≤ x79.calendar))))]) (fun _ w' => w87 = w') ?_ ?_
            · simp only [List.take, List.drop]
              rcases Bool.eq_false_or_eq_true ((((decide (x79.from_ < c.start)) || (!(portref2_IsMoment x79.from_))) || (decide (x79.calendar < 0)))) with hc100 | hc100
              · refine V_gn rfl rfl rfl hc100 rfl rfl rfl ?_
                refine V_gn rfl rfl rfl hc100 rfl rfl rfl ?_
                refine V_gn rfl rfl rfl hc100 rfl rfl rfl ?_
                refine V_y (Y_pick_te rfl hc100 rfl) rfl rfl rfl ?_
                exact V_end fun a ha => ⟨(), ha.sub ⟨rfl, rfl, rfl, rfl, rfl, rfl, (by rw [hc100]; rfl), trivial⟩, rfl⟩
              · refine V_ge rfl rfl rfl hc100 ?_
                have h102 := El_level_Piece_2 h89
                refine V_y (Y_fieldAddr Try.underlying64 rfl Try.sizeOf3 (by decide) rfl) rfl rfl rfl ?_
                refine V_ge rfl rfl rfl hc100 ?_
                refine V_y (Y_load (El.int h102) Try.isAgg3 rfl) rfl rfl rfl ?_
                refine V_ge rfl rfl rfl hc100 ?_
                refine V_y (Y_geq rfl rfl) rfl rfl rfl ?_
                refine V_y (Y_pick_fe rfl hc100 rfl) rfl rfl rfl ?_
                exact V_end fun a ha => ⟨(), ha.sub ⟨rfl, rfl, rfl, rfl, rfl, rfl, (by rw [hc100]; rfl), trivial⟩, rfl⟩
            simp only [List.take, List.drop]
            rintro _ _ rfl
            refine V_y (Y_move rfl) rfl rfl rfl ?_
            refine V_cut 17 (fun _ : Unit => [(1, .pointer (some ⟨b3, 0, none⟩)), (3, .int .i64 (k60 : Int)), (4, .pointer (some ⟨b84, 0, none⟩)), (79, v54), (80, .int .i64 (c.pieces.length : Int)), (81, .int .i64 (k60 : Int)), (125, .bool (((((decide (x79.from_ < c.start)) || (!(portref2_IsMoment x79.from_))) || (decide (x79.calendar < 0))) || (decide ((20 : Int) ≤ x79.calendar))) || ((x79.to_ != (-1)) && ((!(portref2_IsMoment x79.to_)) || (decide (x79.to_ ≤ x79.from_))))))]) (fun _ w' => w87 = w') ?_ ?_
            · simp only [List.take, List.drop]
              rcases Bool.eq_false_or_eq_true (((((decide (x79.from_ < c.start)) || (!(portref2_IsMoment x79.from_))) || (decide (x79.calendar < 0))) || (decide ((20 : Int) ≤ x79.calendar)))) with hc103 | hc103
              · refine V_gn rfl rfl rfl hc103 rfl rfl rfl ?_
                refine V_gn rfl rfl rfl hc103 rfl rfl rfl ?_
                refine V_gn rfl rfl rfl hc103 rfl rfl rfl ?_
                refine V_gn rfl rfl rfl hc103 rfl rfl rfl ?_
                refine V_gu rfl rfl rfl rfl rfl ?_
                refine V_gu rfl rfl rfl rfl rfl ?_
                refine V_gu rfl rfl rfl rfl rfl ?_
                refine V_gu rfl rfl rfl rfl rfl ?_
                refine V_gu rfl rfl rfl rfl rfl ?_
                refine V_gu rfl rfl rfl rfl rfl ?_
                refine V_gu rfl rfl rfl rfl rfl ?_
                refine V_gu rfl rfl rfl rfl rfl ?_
                refine V_gu rfl rfl rfl rfl rfl ?_
                refine V_gu rfl rfl rfl rfl rfl ?_
                refine V_gu rfl rfl rfl rfl rfl ?_
                refine V_gn rfl rfl rfl hc103 rfl rfl rfl ?_
                refine V_y (Y_pick_te rfl hc103 rfl) rfl rfl rfl ?_
                exact V_end fun a ha => ⟨(), ha.sub ⟨rfl, rfl, rfl, rfl, rfl, rfl, (by rw [hc103]; rfl), trivial⟩, rfl⟩
              · refine V_ge rfl rfl rfl hc103 ?_
                have h105 := El_level_Piece_1 h89
                refine V_y (Y_fieldAddr Try.underlying64 rfl Try.sizeOf3 (by decide) rfl) rfl rfl rfl ?_
                refine V_ge rfl rfl rfl hc103 ?_
                refine V_y (Y_load (El.int h105) Try.isAgg3 rfl) rfl rfl rfl ?_
                refine V_ge rfl rfl rfl hc103 ?_
                refine V_y (Y_neq rfl rfl) rfl rfl rfl ?_
                refine V_ge rfl rfl rfl hc103 ?_
                refine V_y (Y_move rfl) rfl rfl rfl ?_
                refine V_cut 12 (fun _ : Unit => [(1, .pointer (some ⟨b3, 0, none⟩)), (3, .int .i64 (k60 : Int)), (4, .pointer (some ⟨b84, 0, none⟩)), (79, v54), (80, .int .i64 (c.pieces.length : Int)), (81, .int .i64 (k60 : Int)), (108, .bool ((((decide (x79.from_ < c.start)) || (!(portref2_IsMoment x79.from_))) || (decide (x79.calendar < 0))) || (decide ((20 : Int) ≤ x79.calendar)))), (124, .bool ((x79.to_ != (-1)) && ((!(portref2_IsMoment x79.to_)) || (decide (x79.to_ ≤ x79.from_)))))]) (fun _ w' => w87 = w') ?_ ?_
                · simp only [List.take, List.drop]
                  rcases Bool.eq_false_or_eq_true (x79.to_ != (-1)) with hc106 | hc106
                  · refine V_ge rfl rfl rfl hc106 ?_
                    have h108 := El_level_Piece_1 h89
                    refine V_y (Y_fieldAddr Try.underlying64 rfl Try.sizeOf3 (by decide) rfl) rfl rfl rfl ?_
                    refine V_ge rfl rfl rfl hc106 ?_
                    refine V_y (Y_load (El.int h108) Try.isAgg3 rfl) rfl rfl rfl ?_
                    refine V_ge rfl rfl rfl hc106 ?_
                    refine V_call Try.call33 rfl rfl rfl rfl (portref2_IsMoment_c w87 x79.to_) ?_
                    rintro _ _ ⟨rfl, rfl⟩
                    refine V_ge rfl rfl rfl hc106 ?_
                    refine V_y (Y_not rfl) rfl rfl rfl ?_
                    refine V_ge rfl rfl rfl hc106 ?_
                    refine V_y (Y_move rfl) rfl rfl rfl ?_
                    refine V_cut 6 (fun _ : Unit => [(1, .pointer (some ⟨b3, 0, none⟩)), (3, .int .i64 (k60 : Int)), (4, .pointer (some ⟨b84, 0, none⟩)), (79, v54), (80, .int .i64 (c.pieces.length : Int)), (81, .int .i64 (k60 : Int)), (108, .bool ((((decide (x79.from_ < c.start)) || (!(portref2_IsMoment x79.from_))) || (decide (x79.calendar < 0))) || (decide ((20 : Int) ≤ x79.calendar)))), (112, .bool (x79.to_ != (-1))), (123, .bool ((!(portref2_IsMoment x79.to_)) || (decide (x79.to_ ≤ x79.from_))))]) (fun _ w' => w87 = w') ?_ ?_
                    · simp only [List.take, List.drop]
                      rcases Bool.eq_false_or_eq_true (!(portref2_IsMoment x79.to_)) with hc109 | hc109
                      · refine V_gn rfl rfl rfl hc109 rfl rfl rfl ?_
                        refine V_gn rfl rfl rfl hc109 rfl rfl rfl ?_
                        refine V_gn rfl rfl rfl hc109 rfl rfl rfl ?_
                        refine V_gn rfl rfl rfl hc109 rfl rfl rfl ?_
                        refine V_gn rfl rfl rfl hc109 rfl rfl rfl ?_
                        refine V_ge rfl rfl rfl hc106 ?_
                        refine V_y (Y_pick_te rfl hc109 rfl) rfl rfl rfl ?_
                        exact V_end fun a ha => ⟨(), ha.sub ⟨rfl, rfl, rfl, rfl, rfl, rfl, rfl, rfl, (by rw [hc109]; rfl), trivial⟩, rfl⟩
                      · refine V_ge rfl rfl rfl hc109 ?_
                        have h111 := El_level_Piece_1 h89
                        refine V_y (Y_fieldAddr Try.underlying64 rfl Try.sizeOf3 (by decide) rfl) rfl rfl rfl ?_
                        refine V_ge rfl rfl rfl hc109 ?_
                        refine V_y (Y_load (El.int h111) Try.isAgg3 rfl) rfl rfl rfl ?_
                        refine V_ge rfl rfl rfl hc109 ?_
                        have h112 := El_level_Piece_0 h89
                        refine V_y (Y_fieldAddr Try.underlying64 rfl Try.sizeOf3 (by decide) rfl) rfl rfl rfl ?_
                        refine V_ge rfl rfl rfl hc109 ?_
                        refine V_y (Y_load (El.int h112) Try.isAgg3 rfl) rfl rfl rfl ?_
                        refine V_ge rfl rfl rfl hc109 ?_
                        refine V_y (Y_leq rfl rfl) rfl rfl rfl ?_
                        refine V_ge rfl rfl rfl hc106 ?_
                        refine V_y (Y_pick_fe rfl hc109 rfl) rfl rfl rfl ?_
                        exact V_end fun a ha => ⟨(), ha.sub ⟨rfl, rfl, rfl, rfl, rfl, rfl, rfl, rfl, (by rw [hc109]; rfl), trivial⟩, rfl⟩
                    simp only [List.take, List.drop]
                    rintro _ _ rfl
                    refine V_ge rfl rfl rfl hc103 ?_
                    refine V_y (Y_pick_te rfl hc106 rfl) rfl rfl rfl ?_
                    exact V_end fun a ha => ⟨(), ha.sub ⟨rfl, rfl, rfl, rfl, rfl, rfl, rfl, (by rw [hc106]; rfl), trivial⟩, rfl⟩
                  · refine V_gn rfl rfl rfl hc106 rfl rfl rfl ?_
                    refine V_gn rfl rfl rfl hc106 rfl rfl rfl ?_
                    refine V_gn rfl rfl rfl hc106 rfl rfl rfl ?_
                    refine V_gn rfl rfl rfl hc106 rfl rfl rfl ?_
                    refine V_gn rfl rfl rfl hc106 rfl rfl rfl ?_
                    refine V_gu rfl rfl rfl rfl rfl ?_
                    refine V_gu rfl rfl rfl rfl rfl ?_
                    refine V_gu rfl rfl rfl rfl rfl ?_
                    refine V_gu rfl rfl rfl rfl rfl ?_
                    refine V_gu rfl rfl rfl rfl rfl ?_
                    refine V_gn rfl rfl rfl hc106 rfl rfl rfl ?_
                    refine V_ge rfl rfl rfl hc103 ?_
                    refine V_y (Y_pick_fe rfl hc106 rfl) rfl rfl rfl ?_
                    exact V_end fun a ha => ⟨(), ha.sub ⟨rfl, rfl, rfl, rfl, rfl, rfl, rfl, (by rw [hc106]; rfl), trivial⟩, rfl⟩
                simp only [List.take, List.drop]
                rintro _ _ rfl
                refine V_y (Y_pick_fe rfl hc103 rfl) rfl rfl rfl ?_
                exact V_end fun a ha => ⟨(), ha.sub ⟨rfl, rfl, rfl, rfl, rfl, rfl, (by rw [hc103]; rfl), trivial⟩, rfl⟩
            simp only [List.take, List.drop]
            rintro _ _ rfl
            refine V_y (Y_assign rfl) rfl rfl rfl ?_
            refine V_to (fun _ _ => rfl) ?_
            refine C_cond rfl (fun hc113 => ?_) (fun hc113 => ?_)
            · rw [if_pos hc113] at h71
              refine C_seq ?_
              refine C_region ?_
              refine V_y (Y_assign rfl) rfl rfl rfl ?_
              refine V_to (fun _ _ => rfl) ?_
              obtain rfl := Option.some.inj h71
              obtain rfl := (h72 : Lp.rt _ = _)
              rw [Lp.andThen_rt] at hm
              obtain rfl := Option.some.inj hm
              refine C_ret ?_
              try simp only [↓inBlock_ret, ↓then_ret]
              exact retQ rfl (Res.one Try.results68 rfl) ⟨rfl, hK.kp⟩
            · rw [if_neg (nt hc113)] at h71
              refine C_seq ?_
              refine C_seq ?_
              refine C_region ?_
              have h114 := El_level_Piece_1 h89
              refine V_y (Y_fieldAddr Try.underlying64 rfl Try.sizeOf3 (by decide) rfl) rfl rfl rfl ?_
              refine V_y (Y_load (El.int h114) Try.isAgg3 rfl) rfl rfl rfl ?_
              refine V_y (Y_eql rfl rfl) rfl rfl rfl ?_
              refine V_y (Y_move rfl) rfl rfl rfl ?_
              refine V_cut 12 (fun _ : Unit => [(1, .pointer (some ⟨b3, 0, none⟩)), (3, .int .i64 (k60 : Int)), (4, .pointer (some ⟨b84, 0, none⟩)), (79, v54), (80, .int .i64 (c.pieces.length : Int)), (81, .int .i64 (k60 : Int)), (142, .bool ((x79.to_ == (-1)) && ((decide ((k60 : Int) < (w64 ((c.pieces.length : Int) - 1)))) || (c.stop != (-1)))))]) (fun _ w' => w87 = w') ?_ ?_
              · simp only [List.take, List.drop]
                rcases Bool.eq_false_or_eq_true (x79.to_ == (-1)) with hc115 | hc115
                · refine V_ge rfl rfl rfl hc115 ?_
                  refine V_y (Y_move rfl) rfl rfl rfl ?_
                  refine V_ge rfl rfl rfl hc115 ?_
                  have h117 := El_level_Clock_6 h6
                  refine V_y (Y_fieldAddr Try.underlying35 rfl Try.sizeOf33 (by decide) rfl) rfl rfl rfl ?_
                  refine V_ge rfl rfl rfl hc115 ?_
                  obtain ⟨v118, h119, h120⟩ := El.list h117
                  refine V_y (Y_load h119 Try.isAgg33 rfl) rfl rfl rfl ?_
                  refine V_ge rfl rfl rfl hc115 ?_
                  refine V_y (Y_lenSl h120 rfl Try.underlying33 rfl) rfl rfl rfl ?_
                  refine V_ge rfl rfl rfl hc115 ?_
                  refine V_y (Y_subI rfl rfl) rfl rfl rfl ?_
                  refine V_ge rfl rfl rfl hc115 ?_
                  refine V_y (Y_lss rfl rfl) rfl rfl rfl ?_
                  refine V_ge rfl rfl rfl hc115 ?_
                  refine V_y (Y_move rfl) rfl rfl rfl ?_
                  refine V_cut 4 (fun _ : Unit => [(1, .pointer (some ⟨b3, 0, none⟩)), (3, .int .i64 (k60 : Int)), (4, .pointer (some ⟨b84, 0, none⟩)), (79, v54), (80, .int .i64 (c.pieces.length : Int)), (81, .int .i64 (k60 : Int)), (130, .bool (x79.to_ == (-1))), (141, .bool ((decide ((k60 : Int) < (w64 ((c.pieces.length : Int) - 1)))) || (c.stop != (-1))))]) (fun _ w' => w87 = w') ?_ ?_
                  · simp only [List.take, List.drop]
                    rcases Bool.eq_false_or_eq_true (decide ((k60 : Int) < (w64 ((c.pieces.length : Int) - 1)))) with hc121 | hc121
                    · refine V_gn rfl rfl rfl hc121 rfl rfl rfl ?_
                      refine V_gn rfl rfl rfl hc121 rfl rfl rfl ?_
                      refine V_gn rfl rfl rfl hc121 rfl rfl rfl ?_
                      refine V_ge rfl rfl rfl hc115 ?_
                      refine V_y (Y_pick_te rfl hc121 rfl) rfl rfl rfl ?_
                      exact V_end fun a ha => ⟨(), ha.sub ⟨rfl, rfl, rfl, rfl, rfl, rfl, rfl, (by rw [hc121]; rfl), trivial⟩, rfl⟩
                    · refine V_ge rfl rfl rfl hc121 ?_
                      have h123 := El_level_Clock_4 h6
                      refine V_y (Y_fieldAddr Try.underlying35 rfl Try.sizeOf3 (by decide) rfl) rfl rfl rfl ?_
                      refine V_ge rfl rfl rfl hc121 ?_
                      refine V_y (Y_load (El.int h123) Try.isAgg3 rfl) rfl rfl rfl ?_
                      refine V_ge rfl rfl rfl hc121 ?_
                      refine V_y (Y_neq rfl rfl) rfl rfl rfl ?_
                      refine V_ge rfl rfl rfl hc115 ?_
                      refine V_y (Y_pick_fe rfl hc121 rfl) rfl rfl rfl ?_
                      exact V_end fun a ha => ⟨(), ha.sub ⟨rfl, rfl, rfl, rfl, rfl, rfl, rfl, (by rw [hc121]; rfl), trivial⟩, rfl⟩
                  simp only [List.take, List.drop]
                  rintro _ _ rfl
                  refine V_y (Y_pick_te rfl hc115 rfl) rfl rfl rfl ?_
                  exact V_end fun a ha => ⟨(), ha.sub ⟨rfl, rfl, rfl, rfl, rfl, rfl, (by rw [hc115]; rfl), trivial⟩, rfl⟩
                · refine V_gn rfl rfl rfl hc115 rfl rfl rfl ?_
                  refine V_gn rfl rfl rfl hc115 rfl rfl rfl ?_
                  refine V_gn rfl rfl rfl hc115 rfl rfl rfl ?_
                  refine V_gn rfl rfl rfl hc115 rfl rfl rfl ?_
                  refine V_gn rfl rfl rfl hc115 rfl rfl rfl ?_
                  refine V_gn rfl rfl rfl hc115 rfl rfl rfl ?_
                  refine V_gn rfl rfl rfl hc115 rfl rfl rfl ?_
                  refine V_gu rfl rfl rfl rfl rfl ?_
                  refine V_gu rfl rfl rfl rfl rfl ?_
                  refine V_gu rfl rfl rfl rfl rfl ?_
                  refine V_gn rfl rfl rfl hc115 rfl rfl rfl ?_
                  refine V_y (Y_pick_fe rfl hc115 rfl) rfl rfl rfl ?_
                  exact V_end fun a ha => ⟨(), ha.sub ⟨rfl, rfl, rfl, rfl, rfl, rfl, (by rw [hc115]; rfl), trivial⟩, rfl⟩
              simp only [List.take, List.drop]
              rintro _ _ rfl
              refine V_y (Y_assign rfl) rfl rfl rfl ?_
              refine V_to (fun _ _ => rfl) ?_
              obtain ⟨s125, ho124, h71⟩ := Option.bind_eq_some_iff.1 h71
              refine C_cutG (ι := Unit) (fun (_ : Unit) => [(1, .pointer (some ⟨b3, 0, none⟩)), (3, .int .i64 (k60 : Int)), (4, .pointer (some ⟨b84, 0, none⟩)), (79, v54), (80, .int .i64 (c.pieces.length : Int)), (81, .int .i64 (k60 : Int)), (126, .bool s125)]) (fun (_ : Unit) => fun w' => w87 = w') ?_ ?_
              · refine C_cond rfl (fun hc130 => ?_) (fun hc130 => ?_)
                · rw [if_pos hc130] at ho124
                  obtain rfl := Option.some.inj ho124
                  refine C_skip (fun a ha131 => ?_)
                  exact ⟨(), ha131.sub ⟨rfl, rfl, rfl, rfl, rfl, rfl, rfl, trivial⟩, rfl⟩
                · rw [if_neg (nt hc130)] at ho124
                  refine C_region ?_
                  have h132 := El_level_Clock_4 h6
                  refine V_y (Y_fieldAddr Try.underlying35 rfl Try.sizeOf3 (by decide) rfl) rfl rfl rfl ?_
                  refine V_y (Y_load (El.int h132) Try.isAgg3 rfl) rfl rfl rfl ?_
                  refine V_y (Y_neq rfl rfl) rfl rfl rfl ?_
                  refine V_y (Y_move rfl) rfl rfl rfl ?_
                  refine V_cut 6 (fun _ : Unit => [(1, .pointer (some ⟨b3, 0, none⟩)), (3, .int .i64 (k60 : Int)), (4, .pointer (some ⟨b84, 0, none⟩)), (79, v54), (80, .int .i64 (c.pieces.length : Int)), (81, .int .i64 (k60 : Int)), (152, .bool ((c.stop != (-1)) && (decide (c.stop < x79.to_))))]) (fun _ w' => w87 = w') ?_ ?_
                  · simp only [List.take, List.drop]
                    rcases Bool.eq_false_or_eq_true (c.stop != (-1)) with hc133 | hc133
                    · refine V_ge rfl rfl rfl hc133 ?_
                      have h135 := El_level_Piece_1 h89
                      refine V_y (Y_fieldAddr Try.underlying64 rfl Try.sizeOf3 (by decide) rfl) rfl rfl rfl ?_
                      refine V_ge rfl rfl rfl hc133 ?_
                      refine V_y (Y_load (El.int h135) Try.isAgg3 rfl) rfl rfl rfl ?_
                      refine V_ge rfl rfl rfl hc133 ?_
                      have h136 := El_level_Clock_4 h6
                      refine V_y (Y_fieldAddr Try.underlying35 rfl Try.sizeOf3 (by decide) rfl) rfl rfl rfl ?_
                      refine V_ge rfl rfl rfl hc133 ?_
                      refine V_y (Y_load (El.int h136) Try.isAgg3 rfl) rfl rfl rfl ?_
                      refine V_ge rfl rfl rfl hc133 ?_
                      refine V_y (Y_gtr rfl rfl) rfl rfl rfl ?_
                      refine V_y (Y_pick_te rfl hc133 rfl) rfl rfl rfl ?_
                      exact V_end fun a ha => ⟨(), ha.sub ⟨rfl, rfl, rfl, rfl, rfl, rfl, (by rw [hc133]; rfl), trivial⟩, rfl⟩
                    · refine V_gn rfl rfl rfl hc133 rfl rfl rfl ?_
                      refine V_gn rfl rfl rfl hc133 rfl rfl rfl ?_
                      refine V_gn rfl rfl rfl hc133 rfl rfl rfl ?_
                      refine V_gn rfl rfl rfl hc133 rfl rfl rfl ?_
                      refine V_gn rfl rfl rfl hc133 rfl rfl rfl ?_
                      refine V_y (Y_pick_fe rfl hc133 rfl) rfl rfl rfl ?_
                      exact V_end fun a ha => ⟨(), ha.sub ⟨rfl, rfl, rfl, rfl, rfl, rfl, (by rw [hc133]; rfl), trivial⟩, rfl⟩
                  simp only [List.take, List.drop]
                  rintro _ _ rfl
                  refine V_y (Y_assign rfl) rfl rfl rfl ?_
                  obtain rfl := Option.some.inj ho124
                  refine V_end (fun a ha137 => ?_)
                  exact ⟨(), ha137.sub ⟨rfl, rfl, rfl, rfl, rfl, rfl, rfl, trivial⟩, rfl⟩
              rintro _ _ rfl a ha129
              refine C_at (n := ⟨169, [], none⟩) (fun _ _ => rfl) ?_ ha129
              refine C_cond rfl (fun hc138 => ?_) (fun hc138 => ?_)
              · rw [if_pos hc138] at h71
                refine C_seq ?_
                refine C_region ?_
                refine V_y (Y_assign rfl) rfl rfl rfl ?_
                refine V_to (fun _ _ => rfl) ?_
                obtain rfl := Option.some.inj h71
                obtain rfl := (h72 : Lp.rt _ = _)
                rw [Lp.andThen_rt] at hm
                obtain rfl := Option.some.inj hm
                refine C_ret ?_
                try simp only [↓inBlock_ret, ↓then_ret]
                exact retQ rfl (Res.one Try.results68 rfl) ⟨rfl, hK.kp⟩
              · rw [if_neg (nt hc138)] at h71
                refine C_seq ?_
                refine C_region_q Try_mixed (by kernel_rfl) ?_
                refine VQ_y (fun w' hw' => Y_move rfl) rfl rfl rfl ?_
                refine VQ_y (fun w' hw' => Y_gtr rfl rfl) rfl rfl rfl ?_
                refine VQ_y (fun w' hw' => Y_move rfl) rfl rfl rfl ?_
                obtain ⟨s140, hs140, h71⟩ := Option.bind_eq_some_iff.1 h71
                refine VQ_cut 11 (fun _ : Unit => [(1, .pointer (some ⟨b3, 0, none⟩)), (79, v54), (80, .int .i64 (c.pieces.length : Int)), (81, .int .i64 (k60 : Int)), (167, .bool s140)]) (fun _ => True) ?_ ?_
                · simp only [List.take, List.drop]
                  rcases Bool.eq_false_or_eq_true (decide ((0 : Int) < (k60 : Int))) with hc139 | hc139
                  · rw [if_pos hc139] at hs140
                    refine VQ_ge rfl rfl rfl hc139 ?_
                    have h141 := El_level_Piece_0 h89
                    refine VQ_y (fun w' hw' => Y_fieldAddr Try.underlying64 rfl Try.sizeOf3 (by decide) rfl) rfl rfl rfl ?_
                    refine VQ_ge rfl rfl rfl hc139 ?_
                    refine VQ_y (fun w' hw' => Y_load (El.int (El.kp h141 hw')) Try.isAgg3 rfl) rfl rfl rfl ?_
                    refine VQ_ge rfl rfl rfl hc139 ?_
                    have h142 := El_level_Clock_6 h6
                    refine VQ_y (fun w' hw' => Y_fieldAddr Try.underlying35 rfl Try.sizeOf33 (by decide) rfl) rfl rfl rfl ?_
                    refine VQ_ge rfl rfl rfl hc139 ?_
                    obtain ⟨v143, h144, h145⟩ := El.list h142
                    refine VQ_y (fun w' hw' => Y_load ((World.cell?_of_block (hw'.block _ (World.block_lt_of_cell? _ _ h144))).trans h144) Try.isAgg33 rfl) rfl rfl rfl ?_
                    refine VQ_ge rfl rfl rfl hc139 ?_
                    refine VQ_y (fun w' hw' => Y_move rfl) rfl rfl rfl ?_
                    refine VQ_ge rfl rfl rfl hc139 ?_
                    refine VQ_y (fun w' hw' => Y_subI rfl rfl) rfl rfl rfl ?_
                    refine VQ_ge rfl rfl rfl hc139 ?_
                    obtain ⟨x146, hx146, hs140⟩ := Option.bind_eq_some_iff.1 hs140
                    refine VQ_indexAddr h145 hx146 Try.underlying33 Try.sizeOf64 rfl rfl rfl ?_
                    intro b147 o148 h149
                    refine VQ_ge rfl rfl rfl hc139 ?_
                    have h150 := El_level_Piece_1 h149
                    refine VQ_y (fun w' hw' => Y_fieldAddr Try.underlying64 rfl Try.sizeOf3 (by decide) rfl) rfl rfl rfl ?_
                    refine VQ_ge rfl rfl rfl hc139 ?_
                    refine VQ_y (fun w' hw' => Y_load (El.int (El.kp h150 hw')) Try.isAgg3 rfl) rfl rfl rfl ?_
                    refine VQ_ge rfl rfl rfl hc139 ?_
                    refine VQ_y (fun w' hw' => Y_lss rfl rfl) rfl rfl rfl ?_
                    refine VQ_y (fun _ _ => Y_pick_te rfl hc139 rfl) rfl rfl rfl ?_
                    obtain rfl := Option.some.inj hs140
                    exact VQ_end fun a ha => ⟨(), ha.sub ⟨rfl, rfl, rfl, rfl, rfl, trivial⟩, trivial⟩
                  · rw [if_neg (nt hc139)] at hs140
                    refine VQ_gn rfl rfl rfl hc139 rfl rfl rfl ?_
                    refine VQ_gn rfl rfl rfl hc139 rfl rfl rfl ?_
                    refine VQ_gn rfl rfl rfl hc139 rfl rfl rfl ?_
                    refine VQ_gn rfl rfl rfl hc139 rfl rfl rfl ?_
                    refine VQ_gn rfl rfl rfl hc139 rfl rfl rfl ?_
                    refine VQ_gn rfl rfl rfl hc139 rfl rfl rfl ?_
                    refine VQ_gn rfl rfl rfl hc139 rfl rfl rfl ?_
                    refine VQ_gn rfl rfl rfl hc139 rfl rfl rfl ?_
                    refine VQ_gn rfl rfl rfl hc139 rfl rfl rfl ?_
                    refine VQ_gn rfl rfl rfl hc139 rfl rfl rfl ?_
                    refine VQ_y (fun _ _ => Y_pick_fe rfl hc139 rfl) rfl rfl rfl ?_
                    obtain rfl := Option.some.inj hs140
                    exact VQ_end fun a ha => ⟨(), ha.sub ⟨rfl, rfl, rfl, rfl, rfl, trivial⟩, trivial⟩
                simp only [List.take, List.drop]
                rintro _ _
                refine VQ_y (fun w' hw' => Y_assign rfl) rfl rfl rfl ?_
                refine VQ_to (fun _ _ => rfl) (fun w151 hk152 => ?_)
                have ht153 := Kp.tr hk152 hA hB
                replace hH := Hp.kp hH hk152
                replace h6 := El.tr h6 ht153
                replace h56 := Sl.tr h56 ht153
                replace hK := Tr.trans hK ht153
                replace hr59 := Tr.trans hr59 ht153
                replace hB := Nat.le_trans hB ht153.ex.size
                replace hA := ht153.new
                refine C_cond rfl (fun hc154 => ?_) (fun hc154 => ?_)
                · rw [if_pos hc154] at h71
                  refine C_seq ?_
                  refine C_region ?_
                  refine V_y (Y_assign rfl) rfl rfl rfl ?_
                  refine V_to (fun _ _ => rfl) ?_
                  obtain rfl := Option.some.inj h71
                  obtain rfl := (h72 : Lp.rt _ = _)
                  rw [Lp.andThen_rt] at hm
                  obtain rfl := Option.some.inj hm
                  refine C_ret ?_
                  try simp only [↓inBlock_ret, ↓then_ret]
                  exact retQ rfl (Res.one Try.results68 rfl) ⟨rfl, hK.kp⟩
                · rw [if_neg (nt hc154)] at h71
                  refine C_skip_to (fun _ _ => rfl) ?_
                  refine C_region ?_
                  refine V_y (Y_addI rfl rfl) rfl rfl rfl ?_
                  refine V_y (Y_move rfl) rfl rfl rfl ?_
                  obtain rfl := Option.some.inj h71
                  refine V_end (fun a ha155 => ?_)
                  exact ⟨(), hlt74, h72, ⟨A68, ha155.sub ⟨rfl, rfl, rfl, (congrArg (fun z => some (Value.int .i64 z)) (w64_succ hlt74 hn77)), trivial⟩, ⟨hH, hr59⟩⟩⟩
          · refine C_exit (fun a ha156 => ?_)
            exact ⟨((), A68), ha156.sub trivial, ⟨(h75 (eq_of_dec hle73 hc78)).symm, hH, hr59⟩⟩
        rintro ⟨s58, A64⟩ w61 ⟨rfl, hH65, hk62⟩ a ha63
        rw [Lp.andThen_fin] at hm
        replace hK := Tr.trans hK hk62
        replace hB := Nat.le_trans hB hk62.ex.size
        replace hA := hk62.new
        replace hH : Hp w.heap.size A64 w61 ([]) := hH65
        refine C_at (n := ⟨169, [], none⟩) (fun _ _ => rfl) ?_ ha63
        refine C_seq ?_
        refine C_region ?_
        refine V_y (Y_assign rfl) rfl rfl rfl ?_
        refine V_to (fun _ _ => rfl) ?_
        obtain rfl := Option.some.inj hm
        refine C_ret ?_
        try simp only [↓inBlock_ret, ↓then_ret]
        exact retQ rfl (Res.one Try.results68 rfl) ⟨rfl, hK.kp⟩

set_option maxRecDepth 4000 in
set_option maxHeartbeats 4000000 in
theorem portref2_ZoneFault_1_c (w : World) (n : Int) : Ret Try.prog 84 #[.int .i64 n] w fun v w' => v = .bool (portref2_ZoneFault_1 n) ∧ w = w' := by
  generalize hm : portref2_ZoneFault_1 n = r
  unfold portref2_ZoneFault_1 at hm
  refine enter Try.func84 rfl Try.ntmps84 rfl ?_
  refine C_seq ?_
  refine C_region ?_
  refine V_y (Y_assign rfl) rfl rfl rfl ?_
  refine V_to (fun _ _ => rfl) ?_
  refine C_seq ?_
  refine C_region ?_
  refine V_y (Y_move rfl) rfl rfl rfl ?_
  refine V_y (Y_lss rfl rfl) rfl rfl rfl ?_
  refine V_y (Y_move rfl) rfl rfl rfl ?_
  refine V_cut 3 (fun _ : Unit => [(8, .bool ((decide (n < (-1440))) || (decide ((1440 : Int) < n))))]) (fun _ w' => w = w') ?_ ?_
  · simp only [List.take, List.drop]
    rcases Bool.eq_false_or_eq_true (decide (n < (-1440))) with hc1 | hc1
    · refine V_gn rfl rfl rfl hc1 rfl rfl rfl ?_
      refine V_gn rfl rfl rfl hc1 rfl rfl rfl ?_
      refine V_y (Y_pick_te rfl hc1 rfl) rfl rfl rfl ?_
      exact V_end fun a ha => ⟨(), ha.sub ⟨(by rw [hc1]; rfl), trivial⟩, rfl⟩
    · refine V_ge rfl rfl rfl hc1 ?_
      refine V_y (Y_move rfl) rfl rfl rfl ?_
      refine V_ge rfl rfl rfl hc1 ?_
      refine V_y (Y_gtr rfl rfl) rfl rfl rfl ?_
      refine V_y (Y_pick_fe rfl hc1 rfl) rfl rfl rfl ?_
      exact V_end fun a ha => ⟨(), ha.sub ⟨(by rw [hc1]; rfl), trivial⟩, rfl⟩
  simp only [List.take, List.drop]
  rintro _ _ rfl
  refine V_y (Y_assign rfl) rfl rfl rfl ?_
  refine V_to (fun _ _ => rfl) ?_
  obtain rfl := hm
  refine C_ret ?_
  try simp only [↓inBlock_ret, ↓then_ret]
  exact retQ rfl (Res.one Try.results84 rfl) ⟨rfl, rfl⟩

set_option maxRecDepth 4000 in
set_option maxHeartbeats 4000000 in
theorem portref2_ZoneFault_c (w : World) {A : Nat → Prop} (hA : ∀ b, w.heap.size ≤ b → A b) (z : cal_Zone) (v_z : Value) (h_z : Sl A w v_z z.changes) {r : Int} (hm : portref2_ZoneFault z = some r) : Ret Try.prog 61 #[.agg #[.int .i64 z.offset, v_z]] w fun v w' => v = .int .i64 r ∧ Kp w w' := by
  unfold portref2_ZoneFault at hm
  refine enter Try.func61 rfl Try.ntmps61 rfl ?_
  have hA0 := hA
  have hB := Nat.le_refl w.heap.size
  have hK : Tr w.heap.size A w A w := Tr.refl hA
  have hH : Hp w.heap.size A w [] := Hp.nil
  refine C_seq ?_
  refine C_region ?_
  refine V_box rfl rfl ?_
  intro b3 w4 h5
  have hk7 := h5.kp
  have h6 : El (α := cal_Zone) A w4 b3 0 z := h5.el hA ⟨[.int .i64 z.offset], _, rfl, rfl, ⟨_, rfl, h_z⟩⟩
  have ht8 := Kp.tr hk7 hA hB
  replace hH := Hp.kp hH hk7
  replace h_z := Sl.tr h_z ht8
  replace hK := Tr.trans hK ht8
  replace hB := Nat.le_trans hB ht8.ex.size
  replace hA := ht8.new
  refine V_y (Y_assign rfl) rfl rfl rfl ?_
  refine V_to (fun _ _ => rfl) ?_
  refine C_seq ?_
  refine C_region ?_
  refine V_y (Y_assign rfl) rfl rfl rfl ?_
  refine V_to (fun _ _ => rfl) ?_
  refine C_seq ?_
  refine C_seq ?_
  refine C_region ?_
  refine V_y (Y_move rfl) rfl rfl rfl ?_
  have h9 := El_cal_Zone_0 h6
  refine V_y (Y_fieldAddr Try.underlying24 rfl Try.sizeOf3 (by decide) rfl) rfl rfl rfl ?_
  refine V_y (Y_load (El.int h9) Try.isAgg3 rfl) rfl rfl rfl ?_
  refine V_call Try.call84 rfl rfl rfl rfl (portref2_ZoneFault_1_c w4 z.offset) ?_
  rintro _ _ ⟨rfl, rfl⟩
  refine V_to (fun _ _ => rfl) ?_
  refine C_cond rfl (fun hc10 => ?_) (fun hc10 => ?_)
  · rw [if_pos hc10] at hm
    refine C_seq ?_
    refine C_region ?_
    refine V_y (Y_assign rfl) rfl rfl rfl ?_
    refine V_to (fun _ _ => rfl) ?_
    obtain rfl := Option.some.inj hm
    refine C_ret ?_
    try simp only [↓inBlock_ret, ↓then_ret]
    exact retQ rfl (Res.one Try.results61 rfl) ⟨rfl, hK.kp⟩
  · rw [if_neg (nt hc10)] at hm
    refine C_skip_to (fun _ _ => rfl) ?_
    refine C_seq ?_
    refine C_seq ?_
    refine C_region ?_
    have h11 := El_cal_Zone_1 h6
    refine V_y (Y_fieldAddr Try.underlying24 rfl Try.sizeOf22 (by decide) rfl) rfl rfl rfl ?_
    obtain ⟨v12, h13, h14⟩ := El.list h11
    refine V_y (Y_load h13 Try.isAgg22 rfl) rfl rfl rfl ?_
    refine V_y (Y_lenSl h14 rfl Try.underlying22 rfl) rfl rfl rfl ?_
    refine V_y (Y_gtr rfl rfl) rfl rfl rfl ?_
    refine V_to (fun _ _ => rfl) ?_
    refine C_cond rfl (fun hc15 => ?_) (fun hc15 => ?_)
    · rw [if_pos hc15] at hm
      refine C_seq ?_
      refine C_region ?_
      refine V_y (Y_assign rfl) rfl rfl rfl ?_
      refine V_to (fun _ _ => rfl) ?_
      obtain rfl := Option.some.inj hm
      refine C_ret ?_
      try simp only [↓inBlock_ret, ↓then_ret]
      exact retQ rfl (Res.one Try.results61 rfl) ⟨rfl, hK.kp⟩
    · rw [if_neg (nt hc15)] at hm
      refine C_skip_to (fun _ _ => rfl) ?_
      refine C_seq ?_
      refine C_region ?_
      have h16 := El_cal_Zone_0 h6
      refine V_y (Y_fieldAddr Try.underlying24 rfl Try.sizeOf3 (by decide) rfl) rfl rfl rfl ?_
      refine V_y (Y_load (El.int h16) Try.isAgg3 rfl) rfl rfl rfl ?_
      refine V_y (Y_assign rfl) rfl rfl rfl ?_
      refine V_to (fun _ _ => rfl) ?_
      refine C_seq ?_
      refine C_seq ?_
      refine C_region ?_
      have h17 := El_cal_Zone_1 h6
      refine V_y (Y_fieldAddr Try.underlying24 rfl Try.sizeOf22 (by decide) rfl) rfl rfl rfl ?_
      obtain ⟨v18, h19, h20⟩ := El.list h17
      refine V_y (Y_load h19 Try.isAgg22 rfl) rfl rfl rfl ?_
      refine V_y (Y_lenSl h20 rfl Try.underlying22 rfl) rfl rfl rfl ?_
      refine V_y (Y_move rfl) rfl rfl rfl ?_
      refine V_to (fun _ _ => rfl) ?_
      have hn41 := Sl.le h20
      obtain ⟨o21, ho21, hm⟩ := Option.bind_eq_some_iff.1 hm
      refine C_cutG (ι := (Int × (Nat → Prop))) (fun ⟨s22, A28⟩ => []) (fun ⟨s22, A28⟩ => fun w' => o21 = .fin s22 ∧ Hp w.heap.size A28 w' ([]) ∧ Tr w.heap.size A w4 A28 w') ?_ ?_
      · refine C_block ?_
        refine C_range ho21 (fun k24 s30 a w' => ∃ i : (Nat → Prop), Has ⟨63, [], none⟩ a ([(1, .pointer (some ⟨b3, 0, none⟩)), (3, .func (.func 84) #[] #[]), (4, .int .i64 s30), (18, v18), (19, .int .i64 (z.changes.length : Int)), (20, .int .i64 (k24 : Int))]) ∧ Hp w.heap.size i w' ([]) ∧ Tr w.heap.size A w4 i w') (fun a ha => ⟨A, ha.sub ⟨rfl, rfl, rfl, rfl, rfl, rfl, trivial⟩, ⟨hH, Tr.refl hA⟩⟩) ?_
        rintro K k24 s30 a w31 ⟨A32, ha97, hH33, hr23⟩ hle37 K40 h39
        refine C_of ?_ ha97
        replace h6 := El.tr h6 hr23
        replace h20 := Sl.tr h20 hr23
        replace hK := Tr.trans hK hr23
        replace hB := Nat.le_trans hB hr23.ex.size
        replace hA := hr23.new
        replace hH : Hp w.heap.size A32 w31 ([]) := hH33
        refine C_seq (C_region (V_y (Y_lss rfl rfl) rfl rfl rfl (V_to (fun _ _ => rfl) ?_)))
        refine C_seq ?_
        refine C_cond rfl (fun hc42 => ?_) (fun hc42 => ?_)
        · have hlt38 := lt_of_dec hc42
          obtain ⟨x34, h35, h36⟩ := K40 hlt38
          refine C_skip_to (fun _ _ => rfl) ?_
          refine C_seq ?_
          refine C_block ?_
          refine C_seq ?_
          refine C_region ?_
          refine V_y (Y_move rfl) rfl rfl rfl ?_
          obtain ⟨x43, hx43, h35⟩ := Option.bind_eq_some_iff.1 h35
          refine V_indexAddr h20 hx43 Try.underlying22 Try.sizeOf116 rfl rfl rfl ?_
          intro b44 o45 h46
          obtain ⟨h47, _⟩ := El_cal_Change h46
          refine V_y (Y_loadA h47 Try.isAgg116 Try.sizeOf116 rfl) rfl rfl rfl ?_
          refine V_alloc Try.zeroValue116 rfl ?_
          intro b48 w49 h50
          refine V_y (Y_assign rfl) rfl rfl rfl ?_
          refine V_storeNew h50 Try.sizeOf116 rfl rfl rfl rfl (by exact (List.forall_mem_cons.2 ⟨rfl, (List.forall_mem_cons.2 ⟨rfl, (fun _ h => nomatch h)⟩)⟩)) ?_
          intro w51 h52
          have hk54 := h52.kp
          have h53 : El (α := cal_Change) A32 w51 b48 0 x43 := h52.el hA ⟨[.int .i64 x43.at_], _, rfl, rfl, rfl⟩
          have ht55 := Kp.tr hk54 hA hB
          replace hH := Hp.kp hH hk54
          replace h6 := El.tr h6 ht55
          replace h20 := Sl.tr h20 ht55
          replace h46 := El.tr h46 ht55
          replace hK := Tr.trans hK ht55
          replace hr23 := Tr.trans hr23 ht55
          replace hB := Nat.le_trans hB ht55.ex.size
          replace hA := ht55.new
          refine V_to (fun _ _ => rfl) ?_
          refine C_seq ?_
          refine C_block ?_
          refine C_seq ?_
          obtain ⟨s57, ho56, h35⟩ := Option.bind_eq_some_iff.1 h35
          refine C_cutG (ι := (Nat → Prop)) (fun (A62 : (Nat → Prop)) => [(1, .pointer (some ⟨b3, 0, none⟩)), (3, .func (.func 84) #[] #[]), (4, .int .i64 s30), (5, .int .i64 (k24 : Int)), (6, .pointer (some ⟨b48, 0, none⟩)), (18, v18), (19, .int .i64 (z.changes.length : Int)), (20, .int .i64 (k24 : Int)), (25, .bool s57)]) (fun (A62 : (Nat → Prop)) => fun w' => Hp w.heap.size A62 w' ([]) ∧ Tr w.heap.size A32 w51 A62 w') ?_ ?_
          · have hr58 : Tr w.heap.size A32 w51 A32 w51 := Tr.refl hA
            refine C_region ?_
            have h64 := El_cal_Change_0 h53
            refine V_y (Y_fieldAddr Try.underlying116 rfl Try.sizeOf3 (by decide) rfl) rfl rfl rfl ?_
            refine V_y (Y_load (El.int h64) Try.isAgg3 rfl) rfl rfl rfl ?_
            refine V_y (Y_lss rfl rfl) rfl rfl rfl ?_
            refine V_y (Y_move rfl) rfl rfl rfl ?_
            rcases Bool.eq_false_or_eq_true (decide (x43.at_ < 1)) with hc65 | hc65
            · rw [if_pos hc65] at ho56
              refine V_gn rfl rfl rfl hc65 rfl rfl rfl ?_
              refine V_gn rfl rfl rfl hc65 rfl rfl rfl ?_
              refine V_gn rfl rfl rfl hc65 rfl rfl rfl ?_
              refine V_y (Y_pick_te rfl hc65 rfl) rfl rfl rfl ?_
              refine V_y (Y_move rfl) rfl rfl rfl ?_
              rcases Bool.eq_false_or_eq_true (true) with hc66 | hc66
              · rw [if_pos hc66] at ho56
                refine V_gn rfl rfl rfl hc66 rfl rfl rfl ?_
                refine V_gn rfl rfl rfl hc66 rfl rfl rfl ?_
                refine V_gn rfl rfl rfl hc66 rfl rfl rfl ?_
                refine V_gn rfl rfl rfl hc66 rfl rfl rfl ?_
                refine V_y (Y_pick_te rfl hc66 rfl) rfl rfl rfl ?_
                refine V_y (Y_assign rfl) rfl rfl rfl ?_
                obtain rfl := Option.some.inj ho56
                refine V_end (fun a ha67 => ?_)
                exact ⟨A32, ha67.sub ⟨rfl, rfl, rfl, rfl, rfl, rfl, rfl, rfl, rfl, trivial⟩, ⟨hH, hr58⟩⟩
              · rw [if_neg (nt hc66)] at ho56
                refine V_ge rfl rfl rfl hc66 ?_
                refine V_y (Y_move rfl) rfl rfl rfl ?_
                refine V_ge rfl rfl rfl hc66 ?_
                have h68 := El_cal_Change_1 h53
                refine V_y (Y_fieldAddr Try.underlying116 rfl Try.sizeOf3 (by decide) rfl) rfl rfl rfl ?_
                refine V_ge rfl rfl rfl hc66 ?_
                refine V_y (Y_load (El.int h68) Try.isAgg3 rfl) rfl rfl rfl ?_
                refine V_ge rfl rfl rfl hc66 ?_
                refine V_call Try.call84 rfl rfl rfl rfl (portref2_ZoneFault_1_c w51 x43.offset) ?_
                rintro _ _ ⟨rfl, rfl⟩
                refine V_y (Y_pick_fe rfl hc66 rfl) rfl rfl rfl ?_
                refine V_y (Y_assign rfl) rfl rfl rfl ?_
                obtain rfl := Option.some.inj ho56
                refine V_end (fun a ha69 => ?_)
                exact ⟨A32, ha69.sub ⟨rfl, rfl, rfl, rfl, rfl, rfl, rfl, rfl, rfl, trivial⟩, ⟨hH, hr58⟩⟩
            · rw [if_neg (nt hc65)] at ho56
              refine V_ge rfl rfl rfl hc65 ?_
              have h70 := El_cal_Change_0 h53
              refine V_y (Y_fieldAddr Try.underlying116 rfl Try.sizeOf3 (by decide) rfl) rfl rfl rfl ?_
              refine V_ge rfl rfl rfl hc65 ?_
              refine V_y (Y_load (El.int h70) Try.isAgg3 rfl) rfl rfl rfl ?_
              refine V_ge rfl rfl rfl hc65 ?_
              refine V_y (Y_gtr rfl rfl) rfl rfl rfl ?_
              refine V_y (Y_pick_fe rfl hc65 rfl) rfl rfl rfl ?_
              refine V_y (Y_move rfl) rfl rfl rfl ?_
              rcases Bool.eq_false_or_eq_true (decide ((3000000 : Int) < x43.at_)) with hc71 | hc71
              · rw [if_pos hc71] at ho56
                refine V_gn rfl rfl rfl hc71 rfl rfl rfl ?_
                refine V_gn rfl rfl rfl hc71 rfl rfl rfl ?_
                refine V_gn rfl rfl rfl hc71 rfl rfl rfl ?_
                refine V_gn rfl rfl rfl hc71 rfl rfl rfl ?_
                refine V_y (Y_pick_te rfl hc71 rfl) rfl rfl rfl ?_
                refine V_y (Y_assign rfl) rfl rfl rfl ?_
                obtain rfl := Option.some.inj ho56
                refine V_end (fun a ha72 => ?_)
                exact ⟨A32, ha72.sub ⟨rfl, rfl, rfl, rfl, rfl, rfl, rfl, rfl, rfl, trivial⟩, ⟨hH, hr58⟩⟩
              · rw [if_neg (nt hc71)] at ho56
                refine V_ge rfl rfl rfl hc71 ?_
                refine V_y (Y_move rfl) rfl rfl rfl ?_
                refine V_ge rfl rfl rfl hc71 ?_
                have h73 := El_cal_Change_1 h53
                refine V_y (Y_fieldAddr Try.underlying116 rfl Try.sizeOf3 (by decide) rfl) rfl rfl rfl ?_
                refine V_ge rfl rfl rfl hc71 ?_
                refine V_y (Y_load (El.int h73) Try.isAgg3 rfl) rfl rfl rfl ?_
                refine V_ge rfl rfl rfl hc71 ?_
                refine V_call Try.call84 rfl rfl rfl rfl (portref2_ZoneFault_1_c w51 x43.offset) ?_
                rintro _ _ ⟨rfl, rfl⟩
                refine V_y (Y_pick_fe rfl hc71 rfl) rfl rfl rfl ?_
                refine V_y (Y_assign rfl) rfl rfl rfl ?_
                obtain rfl := Option.some.inj ho56
                refine V_end (fun a ha74 => ?_)
                exact ⟨A32, ha74.sub ⟨rfl, rfl, rfl, rfl, rfl, rfl, rfl, rfl, rfl, trivial⟩, ⟨hH, hr58⟩⟩
          rintro A62 w59 ⟨hH63, hk60⟩ a ha61
          replace h6 := El.tr h6 hk60
          replace h20 := Sl.tr h20 hk60
          replace h53 := El.tr h53 hk60
          replace hK := Tr.trans hK hk60
          replace hr23 := Tr.trans hr23 hk60
          replace hB := Nat.le_trans hB hk60.ex.size
          replace hA := hk60.new
          replace hH : Hp w.heap.size A62 w59 ([]) := hH63
          refine C_at (n := ⟨63, [], none⟩) (fun _ _ => rfl) ?_ ha61
          refine C_cond rfl (fun hc75 => ?_) (fun hc75 => ?_)
          · rw [if_pos hc75] at h35
            refine C_seq ?_
            refine C_region ?_
            refine V_y (Y_assign rfl) rfl rfl rfl ?_
            refine V_to (fun _ _ => rfl) ?_
            obtain rfl := Option.some.inj h35
            obtain rfl := (h36 : Lp.rt _ = _)
            rw [Lp.andThen_rt] at hm
            obtain rfl := Option.some.inj hm
            refine C_ret ?_
            try simp only [↓inBlock_ret, ↓then_ret]
            exact retQ rfl (Res.one Try.results61 rfl) ⟨rfl, hK.kp⟩
          · rw [if_neg (nt hc75)] at h35
            refine C_seq ?_
            refine C_region_q Try_mixed (by kernel_rfl) ?_
            refine VQ_y (fun w' hw' => Y_move rfl) rfl rfl rfl ?_
            refine VQ_y (fun w' hw' => Y_gtr rfl rfl) rfl rfl rfl ?_
            refine VQ_y (fun w' hw' => Y_move rfl) rfl rfl rfl ?_
            obtain ⟨s77, hs77, h35⟩ := Option.bind_eq_some_iff.1 h35
            refine VQ_cut 11 (fun _ : Unit => [(1, .pointer (some ⟨b3, 0, none⟩)), (3, .func (.func 84) #[] #[]), (4, .int .i64 s30), (6, .pointer (some ⟨b48, 0, none⟩)), (18, v18), (19, .int .i64 (z.changes.length : Int)), (20, .int .i64 (k24 : Int)), (54, .bool s77)]) (fun _ => True) ?_ ?_
            · simp only [List.take, List.drop]
              rcases Bool.eq_false_or_eq_true (decide ((0 : Int) < (k24 : Int))) with hc76 | hc76
              · rw [if_pos hc76] at hs77
                refine VQ_ge rfl rfl rfl hc76 ?_
                have h78 := El_cal_Change_0 h53
                refine VQ_y (fun w' hw' => Y_fieldAddr Try.underlying116 rfl Try.sizeOf3 (by decide) rfl) rfl rfl rfl ?_
                refine VQ_ge rfl rfl rfl hc76 ?_
                refine VQ_y (fun w' hw' => Y_load (El.int (El.kp h78 hw')) Try.isAgg3 rfl) rfl rfl rfl ?_
                refine VQ_ge rfl rfl rfl hc76 ?_
                have h79 := El_cal_Zone_1 h6
                refine VQ_y (fun w' hw' => Y_fieldAddr Try.underlying24 rfl Try.sizeOf22 (by decide) rfl) rfl rfl rfl ?_
                refine VQ_ge rfl rfl rfl hc76 ?_
                obtain ⟨v80, h81, h82⟩ := El.list h79
                refine VQ_y (fun w' hw' => Y_load ((World.cell?_of_block (hw'.block _ (World.block_lt_of_cell? _ _ h81))).trans h81) Try.isAgg22 rfl) rfl rfl rfl ?_
                refine VQ_ge rfl rfl rfl hc76 ?_
                refine VQ_y (fun w' hw' => Y_move rfl) rfl rfl rfl ?_
                refine VQ_ge rfl rfl rfl hc76 ?_
                refine VQ_y (fun w' hw' => Y_subI rfl rfl) rfl rfl rfl ?_
                refine VQ_ge rfl rfl rfl hc76 ?_
                obtain ⟨x83, hx83, hs77⟩ := Option.bind_eq_some_iff.1 hs77
                refine VQ_indexAddr h82 hx83 Try.underlying22 Try.sizeOf116 rfl rfl rfl ?_
                intro b84 o85 h86
                refine VQ_ge rfl rfl rfl hc76 ?_
                have h87 := El_cal_Change_0 h86
                refine VQ_y (fun w' hw' => Y_fieldAddr Try.underlying116 rfl Try.sizeOf3 (by decide) rfl) rfl rfl rfl ?_
                refine VQ_ge rfl rfl rfl hc76 ?_
                refine VQ_y (fun w' hw' => Y_load (El.int (El.kp h87 hw')) Try.isAgg3 rfl) rfl rfl rfl ?_
                refine VQ_ge rfl rfl rfl hc76 ?_
                refine VQ_y (fun w' hw' => Y_leq rfl rfl) rfl rfl rfl ?_
                refine VQ_y (fun _ _ => Y_pick_te rfl hc76 rfl) rfl rfl rfl ?_
                obtain rfl := Option.some.inj hs77
                exact VQ_end fun a ha => ⟨(), ha.sub ⟨rfl, rfl, rfl, rfl, rfl, rfl, rfl, rfl, trivial⟩, trivial⟩
              · rw [if_neg (nt hc76)] at hs77
                refine VQ_gn rfl rfl rfl hc76 rfl rfl rfl ?_
                refine VQ_gn rfl rfl rfl hc76 rfl rfl rfl ?_
                refine VQ_gn rfl rfl rfl hc76 rfl rfl rfl ?_
                refine VQ_gn rfl rfl rfl hc76 rfl rfl rfl ?_
                refine VQ_gn rfl rfl rfl hc76 rfl rfl rfl ?_
                refine VQ_gn rfl rfl rfl hc76 rfl rfl rfl ?_
                refine VQ_gn rfl rfl rfl hc76 rfl rfl rfl ?_
                refine VQ_gn rfl rfl rfl hc76 rfl rfl rfl ?_
                refine VQ_gn rfl rfl rfl hc76 rfl rfl rfl ?_
                refine VQ_gn rfl rfl rfl hc76 rfl rfl rfl ?_
                refine VQ_y (fun _ _ => Y_pick_fe rfl hc76 rfl) rfl rfl rfl ?_
                obtain rfl := Option.some.inj hs77
                exact VQ_end fun a ha => ⟨(), ha.sub ⟨rfl, rfl, rfl, rfl, rfl, rfl, rfl, rfl, trivial⟩, trivial⟩
            simp only [List.take, List.drop]
            rintro _ _
            refine VQ_y (fun w' hw' => Y_assign rfl) rfl rfl rfl ?_
            refine VQ_to (fun _ _ => rfl) (fun w88 hk89 => ?_)
            have ht90 := Kp.tr hk89 hA hB
            replace hH := Hp.kp hH hk89
            replace h6 := El.tr h6 ht90
            replace h20 := Sl.tr h20 ht90
            replace h53 := El.tr h53 ht90
            replace hK := Tr.trans hK ht90
            replace hr23 := Tr.trans hr23 ht90
            replace hB := Nat.le_trans hB ht90.ex.size
            replace hA := ht90.new
            refine C_cond rfl (fun hc91 => ?_) (fun hc91 => ?_)
            · rw [if_pos hc91] at h35
              refine C_seq ?_
              refine C_region ?_
              refine V_y (Y_assign rfl) rfl rfl rfl ?_
              refine V_to (fun _ _ => rfl) ?_
              obtain rfl := Option.some.inj h35
              obtain rfl := (h36 : Lp.rt _ = _)
              rw [Lp.andThen_rt] at hm
              obtain rfl := Option.some.inj hm
              refine C_ret ?_
              try simp only [↓inBlock_ret, ↓then_ret]
              exact retQ rfl (Res.one Try.results61 rfl) ⟨rfl, hK.kp⟩
            · rw [if_neg (nt hc91)] at h35
              refine C_seq ?_
              refine C_region ?_
              have h92 := El_cal_Change_1 h53
              refine V_y (Y_fieldAddr Try.underlying116 rfl Try.sizeOf3 (by decide) rfl) rfl rfl rfl ?_
              refine V_y (Y_load (El.int h92) Try.isAgg3 rfl) rfl rfl rfl ?_
              refine V_y (Y_move rfl) rfl rfl rfl ?_
              refine V_y (Y_eql rfl rfl) rfl rfl rfl ?_
              refine V_y (Y_assign rfl) rfl rfl rfl ?_
              refine V_to (fun _ _ => rfl) ?_
              refine C_cond rfl (fun hc93 => ?_) (fun hc93 => ?_)
              · rw [if_pos hc93] at h35
                refine C_seq ?_
                refine C_region ?_
                refine V_y (Y_assign rfl) rfl rfl rfl ?_
                refine V_to (fun _ _ => rfl) ?_
                obtain rfl := Option.some.inj h35
                obtain rfl := (h36 : Lp.rt _ = _)
                rw [Lp.andThen_rt] at hm
                obtain rfl := Option.some.inj hm
                refine C_ret ?_
                try simp only [↓inBlock_ret, ↓then_ret]
                exact retQ rfl (Res.one Try.results61 rfl) ⟨rfl, hK.kp⟩
              · rw [if_neg (nt hc93)] at h35
                refine C_skip_to (fun _ _ => rfl) ?_
                refine C_region ?_
                have h94 := El_cal_Change_1 h53
                refine V_y (Y_fieldAddr Try.underlying116 rfl Try.sizeOf3 (by decide) rfl) rfl rfl rfl ?_
                refine V_y (Y_load (El.int h94) Try.isAgg3 rfl) rfl rfl rfl ?_
                refine V_y (Y_assign rfl) rfl rfl rfl ?_
                refine V_to (fun _ _ => rfl) ?_
                refine C_region ?_
                refine V_y (Y_addI rfl rfl) rfl rfl rfl ?_
                refine V_y (Y_move rfl) rfl rfl rfl ?_
                obtain rfl := Option.some.inj h35
                refine V_end (fun a ha95 => ?_)
                exact ⟨x43.offset, hlt38, h36, ⟨A62, ha95.sub ⟨rfl, rfl, rfl, rfl, rfl, (congrArg (fun z => some (Value.int .i64 z)) (w64_succ hlt38 hn41)), trivial⟩, ⟨hH, hr23⟩⟩⟩
        · refine C_exit (fun a ha96 => ?_)
          exact ⟨(s30, A32), ha96.sub trivial, ⟨(h39 (eq_of_dec hle37 hc42)).symm, hH, hr23⟩⟩
      rintro ⟨s22, A28⟩ w25 ⟨rfl, hH29, hk26⟩ a ha27
      rw [Lp.andThen_fin] at hm
      replace hK := Tr.trans hK hk26
      replace hB := Nat.le_trans hB hk26.ex.size
      replace hA := hk26.new
      replace hH : Hp w.heap.size A28 w25 ([]) := hH29
      refine C_at (n := ⟨63, [], none⟩) (fun _ _ => rfl) ?_ ha27
      refine C_seq ?_
      refine C_region ?_
      refine V_y (Y_assign rfl) rfl rfl rfl ?_
      refine V_to (fun _ _ => rfl) ?_
      obtain rfl := Option.some.inj hm
      refine C_ret ?_
      try simp only [↓inBlock_ret, ↓then_ret]
      exact retQ rfl (Res.one Try.results61 rfl) ⟨rfl, hK.kp⟩

set_option maxRecDepth 4000 in
set_option maxHeartbeats 4000000 in
theorem portref2_shiftFault_c (w : World) {A : Nat → Prop} (hA : ∀ b, w.heap.size ≤ b → A b) (l : (List cal_Shift)) (v_l : Value) (h_l : Sl A w v_l l) (week : Bool) {r : Int} (hm : portref2_shiftFault l week = some r) : Ret Try.prog 62 #[v_l, .bool week] w fun v w' => v = .int .i64 r ∧ Kp w w' := by
  unfold portref2_shiftFault at hm
  refine enter Try.func62 rfl Try.ntmps62 rfl ?_
  have hA0 := hA
  have hB := Nat.le_refl w.heap.size
  have hK : Tr w.heap.size A w A w := Tr.refl hA
  have hH : Hp w.heap.size A w [] := Hp.nil
  refine C_seq ?_
  refine C_region ?_
  refine V_y (Y_assign rfl) rfl rfl rfl ?_
  refine V_to (fun _ _ => rfl) ?_
  refine C_seq ?_
  refine C_seq ?_
  refine C_region ?_
  refine V_y (Y_move rfl) rfl rfl rfl ?_
  refine V_y (Y_lenSl h_l rfl Try.underlying25 rfl) rfl rfl rfl ?_
  refine V_y (Y_move rfl) rfl rfl rfl ?_
  refine V_to (fun _ _ => rfl) ?_
  have hn23 := Sl.le h_l
  obtain ⟨o3, ho3, hm⟩ := Option.bind_eq_some_iff.1 hm
  refine C_cutG (ι := (Unit × (Nat → Prop))) (fun ⟨s4, A10⟩ => []) (fun ⟨s4, A10⟩ => fun w' => o3 = .fin s4 ∧ Hp w.heap.size A10 w' ([]) ∧ Tr w.heap.size A w A10 w') ?_ ?_
  · refine C_block ?_
    refine C_range ho3 (fun k6 _ a w' => ∃ i : (Nat → Prop), Has ⟨81, [], none⟩ a ([(0, v_l), (1, .bool week), (8, v_l), (9, .int .i64 (l.length : Int)), (10, .int .i64 (k6 : Int))]) ∧ Hp w.heap.size i w' ([]) ∧ Tr w.heap.size A w i w') (fun a ha => ⟨A, ha.sub ⟨rfl, rfl, rfl, rfl, rfl, trivial⟩, ⟨hH, Tr.refl hA⟩⟩) ?_
    rintro K k6 _ a w13 ⟨A14, ha112, hH15, hr5⟩ hle19 K22 h21
    refine C_of ?_ ha112
    replace h_l := Sl.tr h_l hr5
    replace hK := Tr.trans hK hr5
    replace hB := Nat.le_trans hB hr5.ex.size
    replace hA := hr5.new
    replace hH : Hp w.heap.size A14 w13 ([]) := hH15
    refine C_seq (C_region (V_y (Y_lss rfl rfl) rfl rfl rfl (V_to (fun _ _ => rfl) ?_)))
    refine C_seq ?_
    refine C_cond rfl (fun hc24 => ?_) (fun hc24 => ?_)
    · have hlt20 := lt_of_dec hc24
      obtain ⟨x16, h17, h18⟩ := K22 hlt20
      refine C_skip_to (fun _ _ => rfl) ?_
      refine C_seq ?_
      obtain ⟨o25, ho25, h17⟩ := Option.bind_eq_some_iff.1 h17
      refine C_cutG (ι := (Unit × (Nat → Prop))) (fun ⟨s26, A31⟩ => [(0, v_l), (1, .bool week), (8, v_l), (9, .int .i64 (l.length : Int)), (10, .int .i64 (k6 : Int))]) (fun ⟨s26, A31⟩ => fun w' => o25 = .fin s26 ∧ Hp w.heap.size A31 w' ([]) ∧ Tr w.heap.size A14 w13 A31 w') ?_ ?_
      · have hr27 : Tr w.heap.size A14 w13 A14 w13 := Tr.refl hA
        refine C_block ?_
        refine C_seq ?_
        refine C_region ?_
        refine V_y (Y_move rfl) rfl rfl rfl ?_
        obtain ⟨x33, hx33, ho25⟩ := Option.bind_eq_some_iff.1 ho25
        refine V_indexAddr h_l hx33 Try.underlying25 Try.sizeOf110 rfl rfl rfl ?_
        intro b34 o35 h36
        obtain ⟨h37, _⟩ := El_cal_Shift h36
        refine V_y (Y_loadA h37 Try.isAgg110 Try.sizeOf110 rfl) rfl rfl rfl ?_
        refine V_alloc Try.zeroValue110 rfl ?_
        intro b38 w39 h40
        refine V_y (Y_assign rfl) rfl rfl rfl ?_
        refine V_storeNew h40 Try.sizeOf110 rfl rfl rfl rfl (by exact (List.forall_mem_cons.2 ⟨rfl, (List.forall_mem_cons.2 ⟨rfl, (List.forall_mem_cons.2 ⟨rfl, (fun _ h => nomatch h)⟩)⟩)⟩)) ?_
        intro w41 h42
        have hk44 := h42.kp
        have h43 : El (α := cal_Shift) A14 w41 b38 0 x33 := h42.el hA ⟨[.int .i64 x33.day], _, rfl, rfl, ⟨[.int .i64 x33.from_], _, rfl, rfl, rfl⟩⟩
        have ht45 := Kp.tr hk44 hA hB
        replace hH := Hp.kp hH hk44
        replace h_l := Sl.tr h_l ht45
        replace h36 := El.tr h36 ht45
        replace hK := Tr.trans hK ht45
        replace hr5 := Tr.trans hr5 ht45
        replace hr27 := Tr.trans hr27 ht45
        replace hB := Nat.le_trans hB ht45.ex.size
        replace hA := ht45.new
        refine V_to (fun _ _ => rfl) ?_
        refine C_seq ?_
        refine C_seq ?_
        refine C_region ?_
        refine V_y (Y_move rfl) rfl rfl rfl ?_
        refine V_y (Y_not rfl) rfl rfl rfl ?_
        refine V_y (Y_move rfl) rfl rfl rfl ?_
        refine V_cut 4 (fun _ : Unit => [(0, v_l), (1, .bool week), (5, .int .i64 (k6 : Int)), (6, .pointer (some ⟨b38, 0, none⟩)), (8, v_l), (9, .int .i64 (l.length : Int)), (10, .int .i64 (k6 : Int)), (21, .bool ((!week) && (x33.day != 0)))]) (fun _ w' => w41 = w') ?_ ?_
        · simp only [List.take, List.drop]
          rcases Bool.eq_false_or_eq_true (!week) with hc46 | hc46
          · refine V_ge rfl rfl rfl hc46 ?_
            have h48 := El_cal_Shift_0 h43
            refine V_y (Y_fieldAddr Try.underlying110 rfl Try.sizeOf3 (by decide) rfl) rfl rfl rfl ?_
            refine V_ge rfl rfl rfl hc46 ?_
            refine V_y (Y_load (El.int h48) Try.isAgg3 rfl) rfl rfl rfl ?_
            refine V_ge rfl rfl rfl hc46 ?_
            refine V_y (Y_neq rfl rfl) rfl rfl rfl ?_
            refine V_y (Y_pick_te rfl hc46 rfl) rfl rfl rfl ?_
            exact V_end fun a ha => ⟨(), ha.sub ⟨rfl, rfl, rfl, rfl, rfl, rfl, rfl, (by rw [hc46]; rfl), trivial⟩, rfl⟩
          · refine V_gn rfl rfl rfl hc46 rfl rfl rfl ?_
            refine V_gn rfl rfl rfl hc46 rfl rfl rfl ?_
            refine V_gn rfl rfl rfl hc46 rfl rfl rfl ?_
            refine V_y (Y_pick_fe rfl hc46 rfl) rfl rfl rfl ?_
            exact V_end fun a ha => ⟨(), ha.sub ⟨rfl, rfl, rfl, rfl, rfl, rfl, rfl, (by rw [hc46]; rfl), trivial⟩, rfl⟩
        simp only [List.take, List.drop]
        rintro _ _ rfl
        refine V_to (fun _ _ => rfl) ?_
        refine C_cond rfl (fun hc49 => ?_) (fun hc49 => ?_)
        · rw [if_pos hc49] at ho25
          refine C_seq ?_
          refine C_region ?_
          refine V_y (Y_assign rfl) rfl rfl rfl ?_
          refine V_to (fun _ _ => rfl) ?_
          obtain rfl := Option.some.inj ho25
          rw [Lp.andThen_rt] at h17
          obtain rfl := Option.some.inj h17
          obtain rfl := (h18 : Lp.rt _ = _)
          rw [Lp.andThen_rt] at hm
          obtain rfl := Option.some.inj hm
          refine C_ret ?_
          try simp only [↓inBlock_ret, ↓then_ret]
          exact retQ rfl (Res.one Try.results62 rfl) ⟨rfl, hK.kp⟩
        · rw [if_neg (nt hc49)] at ho25
          refine C_skip_to (fun _ _ => rfl) ?_
          refine C_seq ?_
          refine C_seq ?_
          refine C_region ?_
          have h50 := El_cal_Shift_0 h43
          refine V_y (Y_fieldAddr Try.underlying110 rfl Try.sizeOf3 (by decide) rfl) rfl rfl rfl ?_
          refine V_y (Y_load (El.int h50) Try.isAgg3 rfl) rfl rfl rfl ?_
          refine V_y (Y_lss rfl rfl) rfl rfl rfl ?_
          refine V_y (Y_move rfl) rfl rfl rfl ?_
          refine V_cut 4 (fun _ : Unit => [(0, v_l), (1, .bool week), (5, .int .i64 (k6 : Int)), (6, .pointer (some ⟨b38, 0, none⟩)), (8, v_l), (9, .int .i64 (l.length : Int)), (10, .int .i64 (k6 : Int)), (29, .bool ((decide (x33.day < 0)) || (decide ((6 : Int) < x33.day))))]) (fun _ w' => w41 = w') ?_ ?_
          · simp only [List.take, List.drop]
            rcases Bool.eq_false_or_eq_true (decide (x33.day < 0)) with hc51 | hc51
            · refine V_gn rfl rfl rfl hc51 rfl rfl rfl ?_
              refine V_gn rfl rfl rfl hc51 rfl rfl rfl ?_
              refine V_gn rfl rfl rfl hc51 rfl rfl rfl ?_
              refine V_y (Y_pick_te rfl hc51 rfl) rfl rfl rfl ?_
              exact V_end fun a ha => ⟨(), ha.sub ⟨rfl, rfl, rfl, rfl, rfl, rfl, rfl, (by rw [hc51]; rfl), trivial⟩, rfl⟩
            · refine V_ge rfl rfl rfl hc51 ?_
              have h53 := El_cal_Shift_0 h43
              refine V_y (Y_fieldAddr Try.underlying110 rfl Try.sizeOf3 (by decide) rfl) rfl rfl rfl ?_
              refine V_ge rfl rfl rfl hc51 ?_
              refine V_y (Y_load (El.int h53) Try.isAgg3 rfl) rfl rfl rfl ?_
              refine V_ge rfl rfl rfl hc51 ?_
              refine V_y (Y_gtr rfl rfl) rfl rfl rfl ?_
              refine V_y (Y_pick_fe rfl hc51 rfl) rfl rfl rfl ?_
              exact V_end fun a ha => ⟨(), ha.sub ⟨rfl, rfl, rfl, rfl, rfl, rfl, rfl, (by rw [hc51]; rfl), trivial⟩, rfl⟩
          simp only [List.take, List.drop]
          rintro _ _ rfl
          refine V_y (Y_move rfl) rfl rfl rfl ?_
          refine V_cut 4 (fun _ : Unit => [(0, v_l), (1, .bool week), (5, .int .i64 (k6 : Int)), (6, .pointer (some ⟨b38, 0, none⟩)), (8, v_l), (9, .int .i64 (l.length : Int)), (10, .int .i64 (k6 : Int)), (34, .bool (((decide (x33.day < 0)) || (decide ((6 : Int) < x33.day))) || (decide (x33.from_ < 0))))]) (fun _ w' => w41 = w') ?_ ?_
          · simp only [List.take, List.drop]
            rcases Bool.eq_false_or_eq_true (((decide (x33.day < 0)) || (decide ((6 : Int) < x33.day)))) with hc54 | hc54
            · refine V_gn rfl rfl rfl hc54 rfl rfl rfl ?_
              refine V_gn rfl rfl rfl hc54 rfl rfl rfl ?_
              refine V_gn rfl rfl rfl hc54 rfl rfl rfl ?_
              refine V_y (Y_pick_te rfl hc54 rfl) rfl rfl rfl ?_
              exact V_end fun a ha => ⟨(), ha.sub ⟨rfl, rfl, rfl, rfl, rfl, rfl, rfl, (by rw [hc54]; rfl), trivial⟩, rfl⟩
            · refine V_ge rfl rfl rfl hc54 ?_
              have h56 := El_cal_Shift_1 h43
              refine V_y (Y_fieldAddr Try.underlying110 rfl Try.sizeOf3 (by decide) rfl) rfl rfl rfl ?_
              refine V_ge rfl rfl rfl hc54 ?_
              refine V_y (Y_load (El.int h56) Try.isAgg3 rfl) rfl rfl rfl ?_
              refine V_ge rfl rfl rfl hc54 ?_
              refine V_y (Y_lss rfl rfl) rfl rfl rfl ?_
              refine V_y (Y_pick_fe rfl hc54 rfl) rfl rfl rfl ?_
              exact V_end fun a ha => ⟨(), ha.sub ⟨rfl, rfl, rfl, rfl, rfl, rfl, rfl, (by rw [hc54]; rfl), trivial⟩, rfl⟩
          simp only [List.take, List.drop]
          rintro _ _ rfl
          refine V_y (Y_move rfl) rfl rfl rfl ?_
          refine V_cut 4 (fun _ : Unit => [(0, v_l), (1, .bool week), (5, .int .i64 (k6 : Int)), (6, .pointer (some ⟨b38, 0, none⟩)), (8, v_l), (9, .int .i64 (l.length : Int)), (10, .int .i64 (k6 : Int)), (39, .bool ((((decide (x33.day < 0)) || (decide ((6 : Int) < x33.day))) || (decide (x33.from_ < 0))) || (decide ((1440 : Int) ≤ x33.from_))))]) (fun _ w' => w41 = w') ?_ ?_
          · simp only [List.take, List.drop]
            rcases Bool.eq_false_or_eq_true ((((decide (x33.day < 0)) || (decide ((6 : Int) < x33.day))) || (decide (x33.from_ < 0)))) with hc57 | hc57
            · refine V_gn rfl rfl rfl hc57 rfl rfl rfl ?_
              refine V_gn rfl rfl rfl hc57 rfl rfl rfl ?_
              refine V_gn rfl rfl rfl hc57 rfl rfl rfl ?_
              refine V_y (Y_pick_te rfl hc57 rfl) rfl rfl rfl ?_
              exact V_end fun a ha => ⟨(), ha.sub ⟨rfl, rfl, rfl, rfl, rfl, rfl, rfl, (by rw [hc57]; rfl), trivial⟩, rfl⟩
            · refine V_ge rfl rfl rfl hc57 ?_
              have h59 := El_cal_Shift_1 h43
              refine V_y (Y_fieldAddr Try.underlying110 rfl Try.sizeOf3 (by decide) rfl) rfl rfl rfl ?_
              refine V_ge rfl rfl rfl hc57 ?_
              refine V_y (Y_load (El.int h59) Try.isAgg3 rfl) rfl rfl rfl ?_
              refine V_ge rfl rfl rfl hc57 ?_
              refine V_y (Y_geq rfl rfl) rfl rfl rfl ?_
              refine V_y (Y_pick_fe rfl hc57 rfl) rfl rfl rfl ?_
              exact V_end fun a ha => ⟨(), ha.sub ⟨rfl, rfl, rfl, rfl, rfl, rfl, rfl, (by rw [hc57]; rfl), trivial⟩, rfl⟩
          simp only [List.take, List.drop]
          rintro _ _ rfl
          refine V_y (Y_move rfl) rfl rfl rfl ?_
          refine V_cut 6 (fun _ : Unit => [(0, v_l), (1, .bool week), (5, .int .i64 (k6 : Int)), (6, .pointer (some ⟨b38, 0, none⟩)), (8, v_l), (9, .int .i64 (l.length : Int)), (10, .int .i64 (k6 : Int)), (46, .bool (((((decide (x33.day < 0)) || (decide ((6 : Int) < x33.day))) || (decide (x33.from_ < 0))) || (decide ((1440 : Int) ≤ x33.from_))) || (decide (x33.to_ ≤ x33.from_))))]) (fun _ w' => w41 = w') ?_ ?_
          · simp only [List.take, List.drop]
            rcases Bool.eq_false_or_eq_true (((((decide (x33.day < 0)) || (decide ((6 : Int) < x33.day))) || (decide (x33.from_ < 0))) || (decide ((1440 : Int) ≤ x33.from_)))) with hc60 | hc60
            · refine V_gn rfl rfl rfl hc60 rfl rfl rfl ?_
              refine V_gn rfl rfl rfl hc60 rfl rfl rfl ?_
              refine V_gn rfl rfl rfl hc60 rfl rfl rfl ?_
              refine V_gn rfl rfl rfl hc60 rfl rfl rfl ?_
              refine V_gn rfl rfl rfl hc60 rfl rfl rfl ?_
              refine V_y (Y_pick_te rfl hc60 rfl) rfl rfl rfl ?_
              exact V_end fun a ha => ⟨(), ha.sub ⟨rfl, rfl, rfl, rfl, rfl, rfl, rfl, (by rw [hc60]; rfl), trivial⟩, rfl⟩
            · refine V_ge rfl rfl rfl hc60 ?_
              have h62 := El_cal_Shift_2 h43
              refine V_y (Y_fieldAddr Try.underlying110 rfl Try.sizeOf3 (by decide) rfl) rfl rfl rfl ?_
              refine V_ge rfl rfl rfl hc60 ?_
              refine V_y (Y_load (El.int h62) Try.isAgg3 rfl) rfl rfl rfl ?_
              refine V_ge rfl rfl rfl hc60 ?_
              have h63 := El_cal_Shift_1 h43
              refine V_y (Y_fieldAddr Try.underlying110 rfl Try.sizeOf3 (by decide) rfl) rfl rfl rfl ?_
              refine V_ge rfl rfl rfl hc60 ?_
              refine V_y (Y_load (El.int h63) Try.isAgg3 rfl) rfl rfl rfl ?_
              refine V_ge rfl rfl rfl hc60 ?_
              refine V_y (Y_leq rfl rfl) rfl rfl rfl ?_
              refine V_y (Y_pick_fe rfl hc60 rfl) rfl rfl rfl ?_
              exact V_end fun a ha => ⟨(), ha.sub ⟨rfl, rfl, rfl, rfl, rfl, rfl, rfl, (by rw [hc60]; rfl), trivial⟩, rfl⟩
          simp only [List.take, List.drop]
          rintro _ _ rfl
          refine V_y (Y_move rfl) rfl rfl rfl ?_
          refine V_cut 7 (fun _ : Unit => [(0, v_l), (1, .bool week), (5, .int .i64 (k6 : Int)), (6, .pointer (some ⟨b38, 0, none⟩)), (8, v_l), (9, .int .i64 (l.length : Int)), (10, .int .i64 (k6 : Int)), (54, .bool ((((((decide (x33.day < 0)) || (decide ((6 : Int) < x33.day))) || (decide (x33.from_ < 0))) || (decide ((1440 : Int) ≤ x33.from_))) || (decide (x33.to_ ≤ x33.from_))) || (decide ((w64 (x33.from_ + 1440)) < x33.to_))))]) (fun _ w' => w41 = w') ?_ ?_
          · simp only [List.take, List.drop]
            rcases Bool.eq_false_or_eq_true ((((((decide (x33.day < 0)) || (decide ((6 : Int) < x33.day))) || (decide (x33.from_ < 0))) || (decide ((1440 : Int) ≤ x33.from_))) || (decide (x33.to_ ≤ x33.from_)))) with hc64 | hc64
            · refine V_gn rfl rfl rfl hc64 rfl rfl rfl ?_
              refine V_gn rfl rfl rfl hc64 rfl rfl rfl ?_
              refine V_gn rfl rfl rfl hc64 rfl rfl rfl ?_
              refine V_gn rfl rfl rfl hc64 rfl rfl rfl ?_
              refine V_gn rfl rfl rfl hc64 rfl rfl rfl ?_
              refine V_gn rfl rfl rfl hc64 rfl rfl rfl ?_
              refine V_y (Y_pick_te rfl hc64 rfl) rfl rfl rfl ?_
              exact V_end fun a ha => ⟨(), ha.sub ⟨rfl, rfl, rfl, rfl, rfl, rfl, rfl, (by rw [hc64]; rfl), trivial⟩, rfl⟩
            · refine V_ge rfl rfl rfl hc64 ?_
              have h66 := El_cal_Shift_2 h43
              refine V_y (Y_fieldAddr Try.underlying110 rfl Try.sizeOf3 (by decide) rfl) rfl rfl rfl ?_
              refine V_ge rfl rfl rfl hc64 ?_
              refine V_y (Y_load (El.int h66) Try.isAgg3 rfl) rfl rfl rfl ?_
              refine V_ge rfl rfl rfl hc64 ?_
              have h67 := El_cal_Shift_1 h43
              refine V_y (Y_fieldAddr Try.underlying110 rfl Try.sizeOf3 (by decide) rfl) rfl rfl rfl ?_
              refine V_ge rfl rfl rfl hc64 ?_
              refine V_y (Y_load (El.int h67) Try.isAgg3 rfl) rfl rfl rfl ?_
              refine V_ge rfl rfl rfl hc64 ?_
              refine V_y (Y_addI rfl rfl) rfl rfl rfl ?_
              refine V_ge rfl rfl rfl hc64 ?_
              refine V_y (Y_gtr rfl rfl) rfl rfl rfl ?_
              refine V_y (Y_pick_fe rfl hc64 rfl) rfl rfl rfl ?_
              exact V_end fun a ha => ⟨(), ha.sub ⟨rfl, rfl, rfl, rfl, rfl, rfl, rfl, (by rw [hc64]; rfl), trivial⟩, rfl⟩
          simp only [List.take, List.drop]
          rintro _ _ rfl
          refine V_to (fun _ _ => rfl) ?_
          refine C_cond rfl (fun hc68 => ?_) (fun hc68 => ?_)
          · rw [if_pos hc68] at ho25
            refine C_seq ?_
            refine C_region ?_
            refine V_y (Y_assign rfl) rfl rfl rfl ?_
            refine V_to (fun _ _ => rfl) ?_
            obtain rfl := Option.some.inj ho25
            rw [Lp.andThen_rt] at h17
            obtain rfl := Option.some.inj h17
            obtain rfl := (h18 : Lp.rt _ = _)
            rw [Lp.andThen_rt] at hm
            obtain rfl := Option.some.inj hm
            refine C_ret ?_
            try simp only [↓inBlock_ret, ↓then_ret]
            exact retQ rfl (Res.one Try.results62 rfl) ⟨rfl, hK.kp⟩
          · rw [if_neg (nt hc68)] at ho25
            refine C_skip_to (fun _ _ => rfl) ?_
            refine C_seq ?_
            refine C_region ?_
            refine V_y (Y_move rfl) rfl rfl rfl ?_
            refine V_y (Y_gtr rfl rfl) rfl rfl rfl ?_
            refine V_to (fun _ _ => rfl) ?_
            obtain ⟨o69, ho69, ho25⟩ := Option.bind_eq_some_iff.1 ho25
            refine C_cutG (ι := (Unit × (Nat → Prop))) (fun ⟨s70, A75⟩ => [(0, v_l), (1, .bool week), (8, v_l), (9, .int .i64 (l.length : Int)), (10, .int .i64 (k6 : Int))]) (fun ⟨s70, A75⟩ => fun w' => o69 = .fin s70 ∧ Hp w.heap.size A75 w' ([]) ∧ Tr w.heap.size A14 w41 A75 w') ?_ ?_
            · have hr71 : Tr w.heap.size A14 w41 A14 w41 := Tr.refl hA
              refine C_cond rfl (fun hc77 => ?_) (fun hc77 => ?_)
              · rw [if_pos hc77] at ho69
                refine C_seq ?_
                refine C_region ?_
                refine V_y (Y_move rfl) rfl rfl rfl ?_
                refine V_y (Y_move rfl) rfl rfl rfl ?_
                refine V_y (Y_subI rfl rfl) rfl rfl rfl ?_
                obtain ⟨x78, hx78, ho69⟩ := Option.bind_eq_some_iff.1 ho69
                refine V_indexAddr h_l hx78 Try.underlying25 Try.sizeOf110 rfl rfl rfl ?_
                intro b79 o80 h81
                obtain ⟨h82, _⟩ := El_cal_Shift h81
                refine V_y (Y_loadA h82 Try.isAgg110 Try.sizeOf110 rfl) rfl rfl rfl ?_
                refine V_alloc Try.zeroValue110 rfl ?_
                intro b83 w84 h85
                refine V_storeNew h85 Try.sizeOf110 rfl rfl rfl rfl (by exact (List.forall_mem_cons.2 ⟨rfl, (List.forall_mem_cons.2 ⟨rfl, (List.forall_mem_cons.2 ⟨rfl, (fun _ h => nomatch h)⟩)⟩)⟩)) ?_
                intro w86 h87
                have hk89 := h87.kp
                have h88 : El (α := cal_Shift) A14 w86 b83 0 x78 := h87.el hA ⟨[.int .i64 x78.day], _, rfl, rfl, ⟨[.int .i64 x78.from_], _, rfl, rfl, rfl⟩⟩
                have ht90 := Kp.tr hk89 hA hB
                replace hH := Hp.kp hH hk89
                replace h_l := Sl.tr h_l ht90
                replace h43 := El.tr h43 ht90
                replace h81 := El.tr h81 ht90
                replace hK := Tr.trans hK ht90
                replace hr5 := Tr.trans hr5 ht90
                replace hr27 := Tr.trans hr27 ht90
                replace hr71 := Tr.trans hr71 ht90
                replace hB := Nat.le_trans hB ht90.ex.size
                replace hA := ht90.new
                refine V_to (fun _ _ => rfl) ?_
                refine C_seq ?_
                refine C_region_qt 15 Try_mixed (by kernel_rfl) ?_
                simp only [List.take, List.drop]
                have h91 := El_cal_Shift_0 h88
                refine VQ_y (fun w' hw' => Y_fieldAddr Try.underlying110 rfl Try.sizeOf3 (by decide) rfl) rfl rfl rfl ?_
                refine VQ_y (fun w' hw' => Y_load (El.int (El.kp h91 hw')) Try.isAgg3 rfl) rfl rfl rfl ?_
                have h92 := El_cal_Shift_0 h43
                refine VQ_y (fun w' hw' => Y_fieldAddr Try.underlying110 rfl Try.sizeOf3 (by decide) rfl) rfl rfl rfl ?_
                refine VQ_y (fun w' hw' => Y_load (El.int (El.kp h92 hw')) Try.isAgg3 rfl) rfl rfl rfl ?_
                refine VQ_call (.int .i64 (cmp_Compare_int x78.day x33.day)) Try.call54 rfl rfl rfl rfl (fun w' hw' => (cmp_Compare_int_c w' x78.day x33.day).mono (fun _ _ h => ⟨h.1, h.2 ▸ hw'⟩)) ?_
                have h93 := El_cal_Shift_1 h88
                refine VQ_y (fun w' hw' => Y_fieldAddr Try.underlying110 rfl Try.sizeOf3 (by decide) rfl) rfl rfl rfl ?_
                refine VQ_y (fun w' hw' => Y_load (El.int (El.kp h93 hw')) Try.isAgg3 rfl) rfl rfl rfl ?_
                have h94 := El_cal_Shift_1 h43
                refine VQ_y (fun w' hw' => Y_fieldAddr Try.underlying110 rfl Try.sizeOf3 (by decide) rfl) rfl rfl rfl ?_
                refine VQ_y (fun w' hw' => Y_load (El.int (El.kp h94 hw')) Try.isAgg3 rfl) rfl rfl rfl ?_
                refine VQ_call (.int .i64 (cmp_Compare_int x78.from_ x33.from_)) Try.call54 rfl rfl rfl rfl (fun w' hw' => (cmp_Compare_int_c w' x78.from_ x33.from_).mono (fun _ _ h => ⟨h.1, h.2 ▸ hw'⟩)) ?_
                have h95 := El_cal_Shift_2 h88
                refine VQ_y (fun w' hw' => Y_fieldAddr Try.underlying110 rfl Try.sizeOf3 (by decide) rfl) rfl rfl rfl ?_
                refine VQ_y (fun w' hw' => Y_load (El.int (El.kp h95 hw')) Try.isAgg3 rfl) rfl rfl rfl ?_
                have h96 := El_cal_Shift_2 h43
                refine VQ_y (fun w' hw' => Y_fieldAddr Try.underlying110 rfl Try.sizeOf3 (by decide) rfl) rfl rfl rfl ?_
                refine VQ_y (fun w' hw' => Y_load (El.int (El.kp h96 hw')) Try.isAgg3 rfl) rfl rfl rfl ?_
                refine VQ_call (.int .i64 (cmp_Compare_int x78.to_ x33.to_)) Try.call54 rfl rfl rfl rfl (fun w' hw' => (cmp_Compare_int_c w' x78.to_ x33.to_).mono (fun _ _ h => ⟨h.1, h.2 ▸ hw'⟩)) ?_
                refine VQ_tail (fun w97 hk98 => ?_)
                try simp only [List.take, List.drop]
                have ht99 := Kp.tr hk98 hA hB
                replace hH := Hp.kp hH hk98
                replace h_l := Sl.tr h_l ht99
                replace h43 := El.tr h43 ht99
                replace h88 := El.tr h88 ht99
                replace h91 := El.tr h91 ht99
                replace h92 := El.tr h92 ht99
                replace h93 := El.tr h93 ht99
                replace h94 := El.tr h94 ht99
                replace h95 := El.tr h95 ht99
                replace h96 := El.tr h96 ht99
                replace hK := Tr.trans hK ht99
                replace hr5 := Tr.trans hr5 ht99
                replace hr27 := Tr.trans hr27 ht99
                replace hr71 := Tr.trans hr71 ht99
                replace hB := Nat.le_trans hB ht99.ex.size
                replace hA := ht99.new
                refine V_buildSlice (l := ([(cmp_Compare_int x78.day x33.day), (cmp_Compare_int x78.from_ x33.from_), (cmp_Compare_int x78.to_ x33.to_)] : List Int)) (len := 3) Try.underlying51 Try.sizeOf3 Try.zeroValue3 rfl (by with_unfolding_all rfl) (by decide) (by decide) hA ⟨[.int .i64 (cmp_Compare_int x78.day x33.day)], _, rfl, rfl, ⟨[.int .i64 (cmp_Compare_int x78.from_ x33.from_)], _, rfl, rfl, ⟨[.int .i64 (cmp_Compare_int x78.to_ x33.to_)], _, rfl, rfl, rfl⟩⟩⟩ rfl rfl ?_
                intro v100 w101 hk103 h102
                have ht104 := Kp.tr hk103 hA hB
                replace hH := Hp.kp hH hk103
                replace h_l := Sl.tr h_l ht104
                replace h43 := El.tr h43 ht104
                replace h88 := El.tr h88 ht104
                replace h91 := El.tr h91 ht104
                replace h92 := El.tr h92 ht104
                replace h93 := El.tr h93 ht104
                replace h94 := El.tr h94 ht104
                replace h95 := El.tr h95 ht104
                replace h96 := El.tr h96 ht104
                replace hK := Tr.trans hK ht104
                replace hr5 := Tr.trans hr5 ht104
                replace hr27 := Tr.trans hr27 ht104
                replace hr71 := Tr.trans hr71 ht104
                replace hB := Nat.le_trans hB ht104.ex.size
                replace hA := ht104.new
                obtain ⟨x105, hx105, ho69⟩ := Option.bind_eq_some_iff.1 ho69
                refine V_call Try.call53 rfl rfl rfl rfl (cmp_Or_int_c w101 ([(cmp_Compare_int x78.day x33.day), (cmp_Compare_int x78.from_ x33.from_), (cmp_Compare_int x78.to_ x33.to_)] : List Int) v100 h102 hx105) ?_
                rintro _ _ ⟨rfl, rfl⟩
                refine V_y (Y_geq rfl rfl) rfl rfl rfl ?_
                refine V_to (fun _ _ => rfl) ?_
                refine C_cond rfl (fun hc106 => ?_) (fun hc106 => ?_)
                · rw [if_pos hc106] at ho69
                  refine C_seq ?_
                  refine C_region ?_
                  refine V_y (Y_assign rfl) rfl rfl rfl ?_
                  refine V_to (fun _ _ => rfl) ?_
                  obtain rfl := Option.some.inj ho69
                  rw [Lp.andThen_rt] at ho25
                  obtain rfl := Option.some.inj ho25
                  rw [Lp.andThen_rt] at h17
                  obtain rfl := Option.some.inj h17
                  obtain rfl := (h18 : Lp.rt _ = _)
                  rw [Lp.andThen_rt] at hm
                  obtain rfl := Option.some.inj hm
                  refine C_ret ?_
                  try simp only [↓inBlock_ret, ↓then_ret]
                  exact retQ rfl (Res.one Try.results62 rfl) ⟨rfl, hK.kp⟩
                · rw [if_neg (nt hc106)] at ho69
                  obtain rfl := Option.some.inj ho69
                  refine C_skip (fun a ha107 => ?_)
                  exact ⟨((), A14), ha107.sub ⟨rfl, rfl, rfl, rfl, rfl, trivial⟩, ⟨rfl, hH, hr71⟩⟩
              · rw [if_neg (nt hc77)] at ho69
                obtain rfl := Option.some.inj ho69
                refine C_skip (fun a ha108 => ?_)
                exact ⟨((), A14), ha108.sub ⟨rfl, rfl, rfl, rfl, rfl, trivial⟩, ⟨rfl, hH, hr71⟩⟩
            rintro ⟨s70, A75⟩ w72 ⟨rfl, hH76, hk73⟩ a ha74
            rw [Lp.andThen_fin] at ho25
            replace h_l := Sl.tr h_l hk73
            replace hK := Tr.trans hK hk73
            replace hr5 := Tr.trans hr5 hk73
            replace hr27 := Tr.trans hr27 hk73
            replace hB := Nat.le_trans hB hk73.ex.size
            replace hA := hk73.new
            replace hH : Hp w.heap.size A75 w72 ([]) := hH76
            obtain rfl := Option.some.inj ho25
            exact ⟨((), A75), ha74.sub ⟨rfl, rfl, rfl, rfl, rfl, trivial⟩, ⟨rfl, hH, hr27⟩⟩
      rintro ⟨s26, A31⟩ w28 ⟨rfl, hH32, hk29⟩ a ha30
      rw [Lp.andThen_fin] at h17
      replace h_l := Sl.tr h_l hk29
      replace hK := Tr.trans hK hk29
      replace hr5 := Tr.trans hr5 hk29
      replace hB := Nat.le_trans hB hk29.ex.size
      replace hA := hk29.new
      replace hH : Hp w.heap.size A31 w28 ([]) := hH32
      refine C_at (n := ⟨81, [], none⟩) (fun _ _ => rfl) ?_ ha30
      refine C_region ?_
      refine V_y (Y_addI rfl rfl) rfl rfl rfl ?_
      refine V_y (Y_move rfl) rfl rfl rfl ?_
      obtain rfl := Option.some.inj h17
      refine V_end (fun a ha110 => ?_)
      exact ⟨(), hlt20, h18, ⟨A31, ha110.sub ⟨rfl, rfl, rfl, rfl, (congrArg (fun z => some (Value.int .i64 z)) (w64_succ hlt20 hn23)), trivial⟩, ⟨hH, hr5⟩⟩⟩
    · refine C_exit (fun a ha111 => ?_)
      exact ⟨((), A14), ha111.sub trivial, ⟨(h21 (eq_of_dec hle19 hc24)).symm, hH, hr5⟩⟩
  rintro ⟨s4, A10⟩ w7 ⟨rfl, hH11, hk8⟩ a ha9
  rw [Lp.andThen_fin] at hm
  replace hK := Tr.trans hK hk8
  replace hB := Nat.le_trans hB hk8.ex.size
  replace hA := hk8.new
  replace hH : Hp w.heap.size A10 w7 ([]) := hH11
  refine C_at (n := ⟨81, [], none⟩) (fun _ _ => rfl) ?_ ha9
  refine C_seq ?_
  refine C_region ?_
  refine V_y (Y_assign rfl) rfl rfl rfl ?_
  refine V_to (fun _ _ => rfl) ?_
  obtain rfl := Option.some.inj hm
  refine C_ret ?_
  try simp only [↓inBlock_ret, ↓then_ret]
  exact retQ rfl (Res.one Try.results62 rfl) ⟨rfl, hK.kp⟩

end Go.Proofs.Ytpfoimbklbkcpaa.W
