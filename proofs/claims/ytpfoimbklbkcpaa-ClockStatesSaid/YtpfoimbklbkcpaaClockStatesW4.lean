/-
  Written by program (gen.py) from the IR of the dump: each function computes its model.
-/
import Derived.Test.YtpfoimbklbkcpaaClockStatesW3
namespace Go.Proofs.Ytpfoimbklbkcpaa.W
open Go Go.RowKit Go.Pu Go.Gw Go.Proofs Go.Proofs.Ytpfoimbklbkcpaa.M
set_option linter.unusedVariables false
set_option linter.unusedSimpArgs false

set_option maxRecDepth 4000 in
set_option maxHeartbeats 4000000 in
theorem portref2_Clock_Worked_c (w : World) {A : Nat → Prop} {B : Nat} (hB : B ≤ w.heap.size) (hA : ∀ b, w.heap.size ≤ b → A b) (k_ : cal_Calendar) (b_k_ : Nat) (from_ : Int) (to_ : Int) {L : List Ob} (hH : Hp B A w (obCk 107 portref2_ShiftsIn b_k_ k_ :: L)) {r : Int} (hm : portref2_Clock_Worked k_ from_ to_ = some r) : Ret Try.prog 71 #[.pointer (some ⟨b_k_, 0, none⟩), .int .i64 from_, .int .i64 to_] w fun v w' => ∃ A1 : Nat → Prop, v = .int .i64 r ∧ Hp B A1 w' (obCk 107 portref2_ShiftsIn b_k_ k_ :: L) ∧ Tr B A w A1 w' := by
  unfold portref2_Clock_Worked at hm
  refine enter Try.func71 rfl Try.ntmps71 rfl ?_
  have hK : Tr B A w A w := Tr.refl hA
  refine C_seq ?_
  refine C_region ?_
  refine V_y (Y_assign rfl) rfl rfl rfl ?_
  refine V_to (fun _ _ => rfl) ?_
  refine C_seq ?_
  refine C_region ?_
  refine V_y (Y_assign rfl) rfl rfl rfl ?_
  refine V_to (fun _ _ => rfl) ?_
  refine C_seq ?_
  refine C_seq ?_
  refine C_region ?_
  refine V_y (Y_move rfl) rfl rfl rfl ?_
  refine V_y (Y_assign rfl) rfl rfl rfl ?_
  refine V_to (fun _ _ => rfl) ?_
  obtain ⟨o1, ho1, hm⟩ := Option.bind_eq_some_iff.1 hm
  refine C_cutG (ι := ((Int × Int) × (Nat → Prop))) (fun ⟨s2, A8⟩ => [(7, .int .i64 s2.1)]) (fun ⟨s2, A8⟩ => fun w' => o1 = .fin s2 ∧ Hp B A8 w' (obCk 107 portref2_ShiftsIn b_k_ k_ :: L) ∧ Tr B A w A8 w') ?_ ?_
  · refine C_block ?_
    refine C_while ho1 (fun s10 a w' => ∃ i : (Nat → Prop), Has ⟨21, [], none⟩ a ([(0, .pointer (some ⟨b_k_, 0, none⟩)), (2, .int .i64 to_), (7, .int .i64 s10.1), (8, .int .i64 s10.2)]) ∧ Hp B i w' (obCk 107 portref2_ShiftsIn b_k_ k_ :: L) ∧ Tr B A w i w') (fun a ha => ⟨A, ha.sub ⟨rfl, rfl, rfl, rfl, trivial⟩, ⟨hH, Tr.refl hA⟩⟩) ?_
    rintro K s10 a w11 ⟨A12, ha47, hH13, hr3⟩ K20
    refine C_of ?_ ha47
    replace hK := Tr.trans hK hr3
    replace hB := Nat.le_trans hB hr3.ex.size
    replace hA := hr3.new
    replace hH : Hp B A12 w11 (obCk 107 portref2_ShiftsIn b_k_ k_ :: L) := hH13
    obtain ⟨x14, h15, h16⟩ := K20
    refine C_seq ?_
    refine C_seq ?_
    refine C_region ?_
    refine V_y (Y_move rfl) rfl rfl rfl ?_
    refine V_y (Y_move rfl) rfl rfl rfl ?_
    refine V_y (Y_lss rfl rfl) rfl rfl rfl ?_
    refine V_to (fun _ _ => rfl) ?_
    refine C_cond rfl (fun hc21 => ?_) (fun hc21 => ?_)
    · rw [if_pos hc21] at h15
      refine C_skip_to (fun _ _ => rfl) ?_
      refine C_seq ?_
      obtain ⟨s23, ho22, h15⟩ := Option.bind_eq_some_iff.1 h15
      refine C_cutG (ι := (Nat → Prop)) (fun (A28 : (Nat → Prop)) => [(0, .pointer (some ⟨b_k_, 0, none⟩)), (2, .int .i64 to_), (7, .int .i64 s23), (8, .int .i64 s10.2)]) (fun (A28 : (Nat → Prop)) => fun w' => Hp B A28 w' (obCk 107 portref2_ShiftsIn b_k_ k_ :: L) ∧ Tr B A12 w11 A28 w') ?_ ?_
      · have hr24 : Tr B A12 w11 A12 w11 := Tr.refl hA
        refine C_block ?_
        refine C_seq ?_
        refine C_region ?_
        refine V_y (Y_move rfl) rfl rfl rfl ?_
        refine V_y (Y_move rfl) rfl rfl rfl ?_
        obtain ⟨x30, hx30, ho22⟩ := Option.bind_eq_some_iff.1 ho22
        refine V_call Try.call48 rfl rfl rfl rfl (portref2_Clock_Open_c w11 hB hA k_ b_k_ s10.2 hH hx30) ?_
        rintro _ w31 ⟨A32, rfl, hH33, ht34⟩
        replace hK := Tr.trans hK ht34
        replace hr3 := Tr.trans hr3 ht34
        replace hr24 := Tr.trans hr24 ht34
        replace hB := Nat.le_trans hB ht34.ex.size
        replace hA := ht34.new
        replace hH : Hp B A32 w31 (obCk 107 portref2_ShiftsIn b_k_ k_ :: L) := hH33
        refine V_to (fun _ _ => rfl) ?_
        obtain ⟨s36, ho35, ho22⟩ := Option.bind_eq_some_iff.1 ho22
        refine C_cutG (ι := Unit) (fun (_ : Unit) => [(0, .pointer (some ⟨b_k_, 0, none⟩)), (2, .int .i64 to_), (7, .int .i64 s36), (8, .int .i64 s10.2)]) (fun (_ : Unit) => fun w' => w31 = w') ?_ ?_
        · refine C_cond rfl (fun hc41 => ?_) (fun hc41 => ?_)
          · rw [if_pos hc41] at ho35
            refine C_region ?_
            refine V_y (Y_move rfl) rfl rfl rfl ?_
            refine V_y (Y_addI rfl rfl) rfl rfl rfl ?_
            refine V_y (Y_assign rfl) rfl rfl rfl ?_
            obtain rfl := Option.some.inj ho35
            refine V_end (fun a ha42 => ?_)
            exact ⟨(), ha42.sub ⟨rfl, rfl, rfl, rfl, trivial⟩, rfl⟩
          · rw [if_neg (nt hc41)] at ho35
            obtain rfl := Option.some.inj ho35
            refine C_skip (fun a ha43 => ?_)
            exact ⟨(), ha43.sub ⟨rfl, rfl, rfl, rfl, trivial⟩, rfl⟩
        rintro _ _ rfl a ha40
        obtain rfl := Option.some.inj ho22
        exact ⟨A32, ha40.sub ⟨rfl, rfl, rfl, rfl, trivial⟩, ⟨hH, hr24⟩⟩
      rintro A28 w25 ⟨hH29, hk26⟩ a ha27
      replace hK := Tr.trans hK hk26
      replace hr3 := Tr.trans hr3 hk26
      replace hB := Nat.le_trans hB hk26.ex.size
      replace hA := hk26.new
      replace hH : Hp B A28 w25 (obCk 107 portref2_ShiftsIn b_k_ k_ :: L) := hH29
      refine C_at (n := ⟨21, [], none⟩) (fun _ _ => rfl) ?_ ha27
      refine C_region ?_
      refine V_y (Y_move rfl) rfl rfl rfl ?_
      refine V_y (Y_addI rfl rfl) rfl rfl rfl ?_
      refine V_y (Y_assign rfl) rfl rfl rfl ?_
      obtain rfl := Option.some.inj h15
      refine V_end (fun a ha45 => ?_)
      exact ⟨(s23, w64 (s10.2 + 1)), h16, ⟨A28, ha45.sub ⟨rfl, rfl, rfl, rfl, trivial⟩, ⟨hH, hr3⟩⟩⟩
    · rw [if_neg (nt hc21)] at h15
      obtain rfl := Option.some.inj h15
      refine C_exit (fun a ha46 => ?_)
      exact ⟨((s10.1, s10.2), A12), ha46.sub ⟨rfl, trivial⟩, ⟨h16.symm, hH, hr3⟩⟩
  rintro ⟨s2, A8⟩ w5 ⟨rfl, hH9, hk6⟩ a ha7
  rw [Lp.andThen_fin] at hm
  replace hK := Tr.trans hK hk6
  replace hB := Nat.le_trans hB hk6.ex.size
  replace hA := hk6.new
  replace hH : Hp B A8 w5 (obCk 107 portref2_ShiftsIn b_k_ k_ :: L) := hH9
  refine C_at (n := ⟨21, [], none⟩) (fun _ _ => rfl) ?_ ha7
  refine C_seq ?_
  refine C_region ?_
  refine V_y (Y_move rfl) rfl rfl rfl ?_
  refine V_y (Y_assign rfl) rfl rfl rfl ?_
  refine V_to (fun _ _ => rfl) ?_
  obtain rfl := Option.some.inj hm
  refine C_ret ?_
  try simp only [↓inBlock_ret, ↓then_ret]
  exact retQ rfl (Res.one Try.results71 rfl) ⟨A8, rfl, hH, hK⟩

set_option maxRecDepth 4000 in
set_option maxHeartbeats 4000000 in
theorem portref2_meter_elapsed_c (w : World) {A : Nat → Prop} {B : Nat} (hB : B ≤ w.heap.size) (hA : ∀ b, w.heap.size ≤ b → A b) (x : portref2_meter) (b_x : Nat) (v_x : Value) (c : level_Clock) (v_c : Value) (h_c : Sl A w v_c c.pieces) (m : Int) {L : List Ob} (hH : Hp B A w (obC b_x [v_x] 82 :: obPS (obCk 107 portref2_ShiftsIn) 79 v_x x.clocks :: L)) {r : Int} (hm : portref2_meter_elapsed x c m = some r) : Ret Try.prog 41 #[.pointer (some ⟨b_x, 0, none⟩), .agg #[.int .i64 c.kind, .int .i64 c.level, .int .i64 c.minutes, .int .i64 c.start, .int .i64 c.stop, .int .i64 c.end_, v_c], .int .i64 m] w fun v w' => ∃ A1 : Nat → Prop, v = .int .i64 r ∧ Hp B A1 w' (obC b_x [v_x] 82 :: obPS (obCk 107 portref2_ShiftsIn) 79 v_x x.clocks :: L) ∧ Tr B A w A1 w' := by
  unfold portref2_meter_elapsed at hm
  refine enter Try.func41 rfl Try.ntmps41 rfl ?_
  have hK : Tr B A w A w := Tr.refl hA
  refine C_seq ?_
  refine C_region ?_
  refine V_box rfl rfl ?_
  intro b5 w6 h7
  have hk9 := h7.kp
  have h8 : El (α := level_Clock) A w6 b5 0 c := h7.el hA ⟨[.int .i64 c.kind], _, rfl, rfl, ⟨[.int .i64 c.level], _, rfl, rfl, ⟨[.int .i64 c.minutes], _, rfl, rfl, ⟨[.int .i64 c.start], _, rfl, rfl, ⟨[.int .i64 c.stop], _, rfl, rfl, ⟨[.int .i64 c.end_], _, rfl, rfl, ⟨_, rfl, h_c⟩⟩⟩⟩⟩⟩⟩
  have ht10 := Kp.tr hk9 hA hB
  replace hH := Hp.kp hH hk9
  replace h_c := Sl.tr h_c ht10
  replace hK := Tr.trans hK ht10
  replace hB := Nat.le_trans hB ht10.ex.size
  replace hA := ht10.new
  refine V_y (Y_assign rfl) rfl rfl rfl ?_
  refine V_to (fun _ _ => rfl) ?_
  refine C_seq ?_
  refine C_region ?_
  refine V_y (Y_assign rfl) rfl rfl rfl ?_
  refine V_to (fun _ _ => rfl) ?_
  refine C_seq ?_
  refine C_seq ?_
  refine C_region ?_
  have h11 := El_level_Clock_6 h8
  refine V_y (Y_fieldAddr Try.underlying35 rfl Try.sizeOf33 (by decide) rfl) rfl rfl rfl ?_
  obtain ⟨v12, h13, h14⟩ := El.list h11
  refine V_y (Y_load h13 Try.isAgg33 rfl) rfl rfl rfl ?_
  refine V_y (Y_lenSl h14 rfl Try.underlying33 rfl) rfl rfl rfl ?_
  refine V_y (Y_move rfl) rfl rfl rfl ?_
  refine V_to (fun _ _ => rfl) ?_
  have hn35 := Sl.le h14
  obtain ⟨o15, ho15, hm⟩ := Option.bind_eq_some_iff.1 hm
  refine C_cutG (ι := (Int × (Nat → Prop))) (fun ⟨s16, A22⟩ => [(7, .int .i64 s16)]) (fun ⟨s16, A22⟩ => fun w' => o15 = .fin s16 ∧ Hp B A22 w' (obC b_x [v_x] 82 :: obPS (obCk 107 portref2_ShiftsIn) 79 v_x x.clocks :: L) ∧ Tr B A w6 A22 w') ?_ ?_
  · refine C_block ?_
    refine C_range ho15 (fun k18 s24 a w' => ∃ i : (Nat → Prop), Has ⟨42, [], none⟩ a ([(0, .pointer (some ⟨b_x, 0, none⟩)), (2, .int .i64 m), (7, .int .i64 s24), (12, v12), (13, .int .i64 (c.pieces.length : Int)), (14, .int .i64 (k18 : Int))]) ∧ Hp B i w' (obC b_x [v_x] 82 :: obPS (obCk 107 portref2_ShiftsIn) 79 v_x x.clocks :: L) ∧ Tr B A w6 i w') (fun a ha => ⟨A, ha.sub ⟨rfl, rfl, rfl, rfl, rfl, rfl, trivial⟩, ⟨hH, Tr.refl hA⟩⟩) ?_
    rintro K k18 s24 a w25 ⟨A26, ha79, hH27, hr17⟩ hle31 K34 h33
    refine C_of ?_ ha79
    replace h14 := Sl.tr h14 hr17
    replace hK := Tr.trans hK hr17
    replace hB := Nat.le_trans hB hr17.ex.size
    replace hA := hr17.new
    replace hH : Hp B A26 w25 (obC b_x [v_x] 82 :: obPS (obCk 107 portref2_ShiftsIn) 79 v_x x.clocks :: L) := hH27
    refine C_seq (C_region (V_y (Y_lss rfl rfl) rfl rfl rfl (V_to (fun _ _ => rfl) ?_)))
    refine C_seq ?_
    refine C_cond rfl (fun hc36 => ?_) (fun hc36 => ?_)
    · have hlt32 := lt_of_dec hc36
      obtain ⟨x28, h29, h30⟩ := K34 hlt32
      refine C_skip_to (fun _ _ => rfl) ?_
      refine C_seq ?_
      refine C_block ?_
      refine C_seq ?_
      refine C_region ?_
      obtain ⟨x37, hx37, h29⟩ := Option.bind_eq_some_iff.1 h29
      refine V_indexAddr h14 hx37 Try.underlying33 Try.sizeOf64 rfl rfl rfl ?_
      intro b38 o39 h40
      obtain ⟨h41, _⟩ := El_level_Piece h40
      refine V_y (Y_loadA h41 Try.isAgg64 Try.sizeOf64 rfl) rfl rfl rfl ?_
      refine V_alloc Try.zeroValue64 rfl ?_
      intro b42 w43 h44
      refine V_storeNew h44 Try.sizeOf64 rfl rfl rfl rfl (by exact (List.forall_mem_cons.2 ⟨rfl, (List.forall_mem_cons.2 ⟨rfl, (List.forall_mem_cons.2 ⟨rfl, (fun _ h => nomatch h)⟩)⟩)⟩)) ?_
      intro w45 h46
      have hk48 := h46.kp
      have h47 : El (α := level_Piece) A26 w45 b42 0 x37 := h46.el hA ⟨[.int .i64 x37.from_], _, rfl, rfl, ⟨[.int .i64 x37.to_], _, rfl, rfl, rfl⟩⟩
      have ht49 := Kp.tr hk48 hA hB
      replace hH := Hp.kp hH hk48
      replace h14 := Sl.tr h14 ht49
      replace h40 := El.tr h40 ht49
      replace hK := Tr.trans hK ht49
      replace hr17 := Tr.trans hr17 ht49
      replace hB := Nat.le_trans hB ht49.ex.size
      replace hA := ht49.new
      refine V_to (fun _ _ => rfl) ?_
      refine C_seq ?_
      refine C_region ?_
      refine V_y (Y_move rfl) rfl rfl rfl ?_
      refine V_y (Y_assign rfl) rfl rfl rfl ?_
      refine V_to (fun _ _ => rfl) ?_
      refine C_seq ?_
      refine C_seq ?_
      refine C_region ?_
      have h50 := El_level_Piece_1 h47
      refine V_y (Y_fieldAddr Try.underlying64 rfl Try.sizeOf3 (by decide) rfl) rfl rfl rfl ?_
      refine V_y (Y_load (El.int h50) Try.isAgg3 rfl) rfl rfl rfl ?_
      refine V_y (Y_geq rfl rfl) rfl rfl rfl ?_
      refine V_to (fun _ _ => rfl) ?_
      obtain ⟨s52, ho51, h29⟩ := Option.bind_eq_some_iff.1 h29
      refine C_cutG (ι := Unit) (fun (_ : Unit) => [(0, .pointer (some ⟨b_x, 0, none⟩)), (2, .int .i64 m), (7, .int .i64 s24), (9, .pointer (some ⟨b42, 0, none⟩)), (10, .int .i64 s52), (12, v12), (13, .int .i64 (c.pieces.length : Int)), (14, .int .i64 (k18 : Int))]) (fun (_ : Unit) => fun w' => w45 = w') ?_ ?_
      · refine C_cond rfl (fun hc57 => ?_) (fun hc57 => ?_)
        · rw [if_pos hc57] at ho51
          refine C_region ?_
          refine V_y (Y_move rfl) rfl rfl rfl ?_
          have h58 := El_level_Piece_1 h47
          refine V_y (Y_fieldAddr Try.underlying64 rfl Try.sizeOf3 (by decide) rfl) rfl rfl rfl ?_
          refine V_y (Y_load (El.int h58) Try.isAgg3 rfl) rfl rfl rfl ?_
          refine V_y (Y_min2 rfl rfl) rfl rfl rfl ?_
          refine V_y (Y_assign rfl) rfl rfl rfl ?_
          obtain rfl := Option.some.inj ho51
          refine V_end (fun a ha59 => ?_)
          exact ⟨(), ha59.sub ⟨rfl, rfl, rfl, rfl, rfl, rfl, rfl, rfl, trivial⟩, rfl⟩
        · rw [if_neg (nt hc57)] at ho51
          obtain rfl := Option.some.inj ho51
          refine C_skip (fun a ha60 => ?_)
          exact ⟨(), ha60.sub ⟨rfl, rfl, rfl, rfl, rfl, rfl, rfl, rfl, trivial⟩, rfl⟩
      rintro _ _ rfl a ha56
      refine C_at (n := ⟨42, [], none⟩) (fun _ _ => rfl) ?_ ha56
      refine C_region_ch A26 15 [(1, 0), (1, 1), (1, 2), (1, 3), (0, 4), (1, 5), (1, 6), (0, 7), (0, 8), (1, 9), (1, 10), (1, 11), (3, 12), (1, 13), (1, 14)] Try_mixed (by kernel_rfl) (fun w61 hk62 => ?_)
      have ht63 := Kp.tr hk62 hA hB
      replace hH := Hp.kp hH hk62
      replace h14 := Sl.tr h14 ht63
      replace h47 := El.tr h47 ht63
      replace hK := Tr.trans hK ht63
      replace hr17 := Tr.trans hr17 ht63
      replace hB := Nat.le_trans hB ht63.ex.size
      replace hA := ht63.new
      refine CH_q2 rfl ?_
      refine VQ_y (fun w' hw' => Y_move rfl) rfl rfl rfl ?_
      refine VQ_CH ?_
      refine CH_q2 rfl ?_
      refine VQ_y (fun w' hw' => Y_move rfl) rfl rfl rfl ?_
      refine VQ_CH ?_
      refine CH_q2 rfl ?_
      refine VQ_y (fun w' hw' => Y_nilCheck rfl) rfl rfl rfl ?_
      refine VQ_CH ?_
      refine CH_q2 rfl ?_
      refine VQ_y (fun w' hw' => Y_fieldAddrC (off2 := 0) Try.underlying82 rfl Try.sizeOf80 (by decide) rfl rfl) rfl rfl rfl ?_
      refine VQ_CH ?_
      refine CH_q1 rfl ?_
      refine VQ_y (fun w' hw' => Y_load ((World.cell?_of_block (hw'.block _ (World.block_lt_of_cell? _ _ (Hp.cell (j := 0) hH (i := 0) rfl rfl)))).trans (Hp.cell (j := 0) hH (i := 0) rfl rfl)) Try.isAgg80 rfl) rfl rfl rfl ?_
      refine VQ_CH ?_
      refine CH_q2 rfl ?_
      have h64 := El_level_Piece_2 h47
      refine VQ_y (fun w' hw' => Y_fieldAddr Try.underlying64 rfl Try.sizeOf3 (by decide) rfl) rfl rfl rfl ?_
      refine VQ_CH ?_
      refine CH_q2 rfl ?_
      refine VQ_y (fun w' hw' => Y_load (El.int (El.keep h64 (XA.ex hw'))) Try.isAgg3 rfl) rfl rfl rfl ?_
      refine VQ_CH ?_
      refine CH_q1 rfl ?_
      obtain ⟨x65, hx65, h29⟩ := Option.bind_eq_some_iff.1 h29
      refine VQ_indexAddrPS (f := obCk 107 portref2_ShiftsIn) (e := 79) (v := v_x) (cs := x.clocks) hH (i := 1) rfl hx65 Try.underlying80 Try.sizeOf79 rfl rfl rfl ?_
      intro b66 o67 b69 hk70 h68 hH
      replace hH : Hp B A26 w61 (obCk 107 portref2_ShiftsIn b69 x65 :: obC b_x [v_x] 82 :: obPX (obCk 107 portref2_ShiftsIn) 79 v_x x.clocks (Int.toNat x37.calendar) b69 :: L) := hH
      refine VQ_CH ?_
      refine CH_q1 rfl ?_
      refine VQ_y (fun w' hw' => Y_load ((World.cell?_of_block (hw'.block _ (World.block_lt_of_cell? _ _ (h68)))).trans (h68)) Try.isAgg79 rfl) rfl rfl rfl ?_
      refine VQ_CH ?_
      refine CH_q2 rfl ?_
      have h71 := El_level_Piece_0 h47
      refine VQ_y (fun w' hw' => Y_fieldAddr Try.underlying64 rfl Try.sizeOf3 (by decide) rfl) rfl rfl rfl ?_
      refine VQ_CH ?_
      refine CH_q2 rfl ?_
      refine VQ_y (fun w' hw' => Y_load (El.int (El.keep h71 (XA.ex hw'))) Try.isAgg3 rfl) rfl rfl rfl ?_
      refine VQ_CH ?_
      refine CH_q2 rfl ?_
      refine VQ_y (fun w' hw' => Y_move rfl) rfl rfl rfl ?_
      refine VQ_CH ?_
      refine CH_l1 (k := 1) rfl ?_
      obtain ⟨x72, hx72, h29⟩ := Option.bind_eq_some_iff.1 h29
      refine V_call Try.call71 rfl rfl rfl rfl (portref2_Clock_Worked_c w61 hB hA x65 b69 x37.from_ s52 hH hx72) ?_
      rintro _ w73 ⟨A74, rfl, hH75, ht76⟩
      replace h14 := Sl.tr h14 ht76
      replace h47 := El.tr h47 ht76
      replace h64 := El.tr h64 ht76
      replace h71 := El.tr h71 ht76
      replace hK := Tr.trans hK ht76
      replace hr17 := Tr.trans hr17 ht76
      replace hB := Nat.le_trans hB ht76.ex.size
      replace hA := ht76.new
      replace hH : Hp B A74 w73 (obCk 107 portref2_ShiftsIn b69 x65 :: obC b_x [v_x] 82 :: obPX (obCk 107 portref2_ShiftsIn) 79 v_x x.clocks (Int.toNat x37.calendar) b69 :: L) := hH75
      replace hH : Hp B A74 w73 (obC b_x [v_x] 82 :: obPS (obCk 107 portref2_ShiftsIn) 79 v_x x.clocks :: L) := Hp.psBack hH (i := 1) rfl hk70
      refine V_CHx (XA.tr ht76) ?_
      refine CH_q2 rfl ?_
      refine VQ_y (fun w' hw' => Y_addI rfl rfl) rfl rfl rfl ?_
      refine VQ_CH ?_
      refine CH_q2 rfl ?_
      refine VQ_y (fun w' hw' => Y_assign rfl) rfl rfl rfl ?_
      refine VQ_CH ?_
      refine CH_tail ?_
      show V _ _ _ _ [] _ _
      refine V_to (fun _ _ => rfl) ?_
      refine C_region ?_
      refine V_y (Y_addI rfl rfl) rfl rfl rfl ?_
      refine V_y (Y_move rfl) rfl rfl rfl ?_
      obtain rfl := Option.some.inj h29
      refine V_end (fun a ha77 => ?_)
      exact ⟨w64 (s24 + x72), hlt32, h30, ⟨A74, ha77.sub ⟨rfl, rfl, rfl, rfl, rfl, (congrArg (fun z => some (Value.int .i64 z)) (w64_succ hlt32 hn35)), trivial⟩, ⟨hH, hr17⟩⟩⟩
    · refine C_exit (fun a ha78 => ?_)
      exact ⟨(s24, A26), ha78.sub ⟨rfl, trivial⟩, ⟨(h33 (eq_of_dec hle31 hc36)).symm, hH, hr17⟩⟩
  rintro ⟨s16, A22⟩ w19 ⟨rfl, hH23, hk20⟩ a ha21
  rw [Lp.andThen_fin] at hm
  replace hK := Tr.trans hK hk20
  replace hB := Nat.le_trans hB hk20.ex.size
  replace hA := hk20.new
  replace hH : Hp B A22 w19 (obC b_x [v_x] 82 :: obPS (obCk 107 portref2_ShiftsIn) 79 v_x x.clocks :: L) := hH23
  refine C_at (n := ⟨42, [], none⟩) (fun _ _ => rfl) ?_ ha21
  refine C_seq ?_
  refine C_region ?_
  refine V_y (Y_move rfl) rfl rfl rfl ?_
  refine V_y (Y_assign rfl) rfl rfl rfl ?_
  refine V_to (fun _ _ => rfl) ?_
  obtain rfl := Option.some.inj hm
  refine C_ret ?_
  try simp only [↓inBlock_ret, ↓then_ret]
  exact retQ rfl (Res.one Try.results41 rfl) ⟨A22, rfl, hH, hK⟩

set_option maxRecDepth 4000 in
set_option maxHeartbeats 4000000 in
theorem portref2_meter_state_1_c (w : World) {A : Nat → Prop} (hA : ∀ b, w.heap.size ≤ b → A b) (p : level_Piece) (p1 : Int) (b_p1 : Nat) (h_p1 : El A w b_p1 0 p1) {r : Bool} (hm : portref2_meter_state_1 p p1 = some r) : Ret Try.prog 73 #[.agg #[.int .i64 p.from_, .int .i64 p.to_, .int .i64 p.calendar], .pointer (some ⟨b_p1, 0, none⟩)] w fun v w' => v = .bool r ∧ Kp w w' := by
  unfold portref2_meter_state_1 at hm
  refine enter Try.func73 rfl Try.ntmps73 rfl ?_
  have hA0 := hA
  have hB := Nat.le_refl w.heap.size
  have hK : Tr w.heap.size A w A w := Tr.refl hA
  have hH : Hp w.heap.size A w [] := Hp.nil
  refine C_seq ?_
  refine C_region ?_
  refine V_box rfl rfl ?_
  intro b1 w2 h3
  have hk5 := h3.kp
  have h4 : El (α := level_Piece) A w2 b1 0 p := h3.el hA ⟨[.int .i64 p.from_], _, rfl, rfl, ⟨[.int .i64 p.to_], _, rfl, rfl, rfl⟩⟩
  have ht6 := Kp.tr hk5 hA hB
  replace hH := Hp.kp hH hk5
  replace h_p1 := El.tr h_p1 ht6
  replace hK := Tr.trans hK ht6
  replace hB := Nat.le_trans hB ht6.ex.size
  replace hA := ht6.new
  refine V_y (Y_assign rfl) rfl rfl rfl ?_
  refine V_to (fun _ _ => rfl) ?_
  refine C_seq ?_
  refine C_region ?_
  have h7 := El_level_Piece_0 h4
  refine V_y (Y_fieldAddr Try.underlying64 rfl Try.sizeOf3 (by decide) rfl) rfl rfl rfl ?_
  refine V_y (Y_load (El.int h7) Try.isAgg3 rfl) rfl rfl rfl ?_
  refine V_y (Y_load (El.int h_p1) Try.isAgg3 rfl) rfl rfl rfl ?_
  refine V_y (Y_leq rfl rfl) rfl rfl rfl ?_
  refine V_y (Y_move rfl) rfl rfl rfl ?_
  refine V_cut 10 (fun _ : Unit => [(18, .bool ((decide (p.from_ ≤ p1)) && ((decide (p.to_ < 0)) || (decide (p1 < p.to_)))))]) (fun _ w' => w2 = w') ?_ ?_
  · simp only [List.take, List.drop]
    rcases Bool.eq_false_or_eq_true (decide (p.from_ ≤ p1)) with hc8 | hc8
    · refine V_ge rfl rfl rfl hc8 ?_
      have h10 := El_level_Piece_1 h4
      refine V_y (Y_fieldAddr Try.underlying64 rfl Try.sizeOf3 (by decide) rfl) rfl rfl rfl ?_
      refine V_ge rfl rfl rfl hc8 ?_
      refine V_y (Y_load (El.int h10) Try.isAgg3 rfl) rfl rfl rfl ?_
      refine V_ge rfl rfl rfl hc8 ?_
      refine V_y (Y_lss rfl rfl) rfl rfl rfl ?_
      refine V_ge rfl rfl rfl hc8 ?_
      refine V_y (Y_move rfl) rfl rfl rfl ?_
      refine V_cut 5 (fun _ : Unit => [(8, .bool (decide (p.from_ ≤ p1))), (17, .bool ((decide (p.to_ < 0)) || (decide (p1 < p.to_))))]) (fun _ w' => w2 = w') ?_ ?_
      · simp only [List.take, List.drop]
        rcases Bool.eq_false_or_eq_true (decide (p.to_ < 0)) with hc11 | hc11
        · refine V_gn rfl rfl rfl hc11 rfl rfl rfl ?_
          refine V_gn rfl rfl rfl hc11 rfl rfl rfl ?_
          refine V_gn rfl rfl rfl hc11 rfl rfl rfl ?_
          refine V_gn rfl rfl rfl hc11 rfl rfl rfl ?_
          refine V_ge rfl rfl rfl hc8 ?_
          refine V_y (Y_pick_te rfl hc11 rfl) rfl rfl rfl ?_
          exact V_end fun a ha => ⟨(), ha.sub ⟨rfl, (by rw [hc11]; rfl), trivial⟩, rfl⟩
        · refine V_ge rfl rfl rfl hc11 ?_
          refine V_y (Y_load (El.int h_p1) Try.isAgg3 rfl) rfl rfl rfl ?_
          refine V_ge rfl rfl rfl hc11 ?_
          have h13 := El_level_Piece_1 h4
          refine V_y (Y_fieldAddr Try.underlying64 rfl Try.sizeOf3 (by decide) rfl) rfl rfl rfl ?_
          refine V_ge rfl rfl rfl hc11 ?_
          refine V_y (Y_load (El.int h13) Try.isAgg3 rfl) rfl rfl rfl ?_
          refine V_ge rfl rfl rfl hc11 ?_
          refine V_y (Y_lss rfl rfl) rfl rfl rfl ?_
          refine V_ge rfl rfl rfl hc8 ?_
          refine V_y (Y_pick_fe rfl hc11 rfl) rfl rfl rfl ?_
          exact V_end fun a ha => ⟨(), ha.sub ⟨rfl, (by rw [hc11]; rfl), trivial⟩, rfl⟩
      simp only [List.take, List.drop]
      rintro _ _ rfl
      refine V_y (Y_pick_te rfl hc8 rfl) rfl rfl rfl ?_
      exact V_end fun a ha => ⟨(), ha.sub ⟨(by rw [hc8]; rfl), trivial⟩, rfl⟩
    · refine V_gn rfl rfl rfl hc8 rfl rfl rfl ?_
      refine V_gn rfl rfl rfl hc8 rfl rfl rfl ?_
      refine V_gn rfl rfl rfl hc8 rfl rfl rfl ?_
      refine V_gn rfl rfl rfl hc8 rfl rfl rfl ?_
      refine V_gu rfl rfl rfl rfl rfl ?_
      refine V_gu rfl rfl rfl rfl rfl ?_
      refine V_gu rfl rfl rfl rfl rfl ?_
      refine V_gu rfl rfl rfl rfl rfl ?_
      refine V_gn rfl rfl rfl hc8 rfl rfl rfl ?_
      refine V_y (Y_pick_fe rfl hc8 rfl) rfl rfl rfl ?_
      exact V_end fun a ha => ⟨(), ha.sub ⟨(by rw [hc8]; rfl), trivial⟩, rfl⟩
  simp only [List.take, List.drop]
  rintro _ _ rfl
  refine V_y (Y_assign rfl) rfl rfl rfl ?_
  refine V_to (fun _ _ => rfl) ?_
  obtain rfl := Option.some.inj hm
  refine C_ret ?_
  try simp only [↓inBlock_ret, ↓then_ret]
  exact retQ rfl (Res.one Try.results73 rfl) ⟨rfl, hK.kp⟩

set_option maxRecDepth 4000 in
set_option maxHeartbeats 4000000 in
theorem portref2_meter_state_c (w : World) {A : Nat → Prop} {B : Nat} (hB : B ≤ w.heap.size) (hA : ∀ b, w.heap.size ≤ b → A b) (x : portref2_meter) (b_x : Nat) (v_x : Value) (c : level_Clock) (v_c : Value) (h_c : Sl A w v_c c.pieces) (m : Int) {L : List Ob} (hH : Hp B A w (obC b_x [v_x] 82 :: obPS (obCk 107 portref2_ShiftsIn) 79 v_x x.clocks :: L)) {r : Int} (hm : portref2_meter_state x c m = some r) : Ret Try.prog 43 #[.pointer (some ⟨b_x, 0, none⟩), .agg #[.int .i64 c.kind, .int .i64 c.level, .int .i64 c.minutes, .int .i64 c.start, .int .i64 c.stop, .int .i64 c.end_, v_c], .int .i64 m] w fun v w' => ∃ A1 : Nat → Prop, v = .int .i64 r ∧ Hp B A1 w' (obC b_x [v_x] 82 :: obPS (obCk 107 portref2_ShiftsIn) 79 v_x x.clocks :: L) ∧ Tr B A w A1 w' := by
  unfold portref2_meter_state at hm
  refine enter Try.func43 rfl Try.ntmps43 rfl ?_
  have hK : Tr B A w A w := Tr.refl hA
  refine C_seq ?_
  refine C_region ?_
  refine V_box rfl rfl ?_
  intro b5 w6 h7
  have hk9 := h7.kp
  have h8 : El (α := level_Clock) A w6 b5 0 c := h7.el hA ⟨[.int .i64 c.kind], _, rfl, rfl, ⟨[.int .i64 c.level], _, rfl, rfl, ⟨[.int .i64 c.minutes], _, rfl, rfl, ⟨[.int .i64 c.start], _, rfl, rfl, ⟨[.int .i64 c.stop], _, rfl, rfl, ⟨[.int .i64 c.end_], _, rfl, rfl, ⟨_, rfl, h_c⟩⟩⟩⟩⟩⟩⟩
  have ht10 := Kp.tr hk9 hA hB
  replace hH := Hp.kp hH hk9
  replace h_c := Sl.tr h_c ht10
  replace hK := Tr.trans hK ht10
  replace hB := Nat.le_trans hB ht10.ex.size
  replace hA := ht10.new
  refine V_box rfl rfl ?_
  intro b11 w12 h13
  have hk15 := h13.kp
  have h14 : El (α := Int) A w12 b11 0 m := h13.el hA rfl
  have ht16 := Kp.tr hk15 hA hB
  replace hH := Hp.kp hH hk15
  replace h_c := Sl.tr h_c ht16
  replace h8 := El.tr h8 ht16
  replace hK := Tr.trans hK ht16
  replace hB := Nat.le_trans hB ht16.ex.size
  replace hA := ht16.new
  refine V_y (Y_assign rfl) rfl rfl rfl ?_
  refine V_to (fun _ _ => rfl) ?_
  refine C_seq ?_
  refine C_seq ?_
  refine C_region ?_
  have h17 := El_level_Clock_4 h8
  refine V_y (Y_fieldAddr Try.underlying35 rfl Try.sizeOf3 (by decide) rfl) rfl rfl rfl ?_
  refine V_y (Y_load (El.int h17) Try.isAgg3 rfl) rfl rfl rfl ?_
  refine V_y (Y_geq rfl rfl) rfl rfl rfl ?_
  refine V_y (Y_move rfl) rfl rfl rfl ?_
  refine V_cut 5 (fun _ : Unit => [(0, .pointer (some ⟨b_x, 0, none⟩)), (4, .pointer (some ⟨b5, 0, none⟩)), (5, .pointer (some ⟨b11, 0, none⟩)), (15, .bool ((decide ((0 : Int) ≤ c.stop)) && (decide (c.stop ≤ m))))]) (fun _ w' => w12 = w') ?_ ?_
  · simp only [List.take, List.drop]
    rcases Bool.eq_false_or_eq_true (decide ((0 : Int) ≤ c.stop)) with hc18 | hc18
    · refine V_ge rfl rfl rfl hc18 ?_
      refine V_y (Y_load (El.int h14) Try.isAgg3 rfl) rfl rfl rfl ?_
      refine V_ge rfl rfl rfl hc18 ?_
      have h20 := El_level_Clock_4 h8
      refine V_y (Y_fieldAddr Try.underlying35 rfl Try.sizeOf3 (by decide) rfl) rfl rfl rfl ?_
      refine V_ge rfl rfl rfl hc18 ?_
      refine V_y (Y_load (El.int h20) Try.isAgg3 rfl) rfl rfl rfl ?_
      refine V_ge rfl rfl rfl hc18 ?_
      refine V_y (Y_geq rfl rfl) rfl rfl rfl ?_
      refine V_y (Y_pick_te rfl hc18 rfl) rfl rfl rfl ?_
      exact V_end fun a ha => ⟨(), ha.sub ⟨rfl, rfl, rfl, (by rw [hc18]; rfl), trivial⟩, rfl⟩
    · refine V_gn rfl rfl rfl hc18 rfl rfl rfl ?_
      refine V_gn rfl rfl rfl hc18 rfl rfl rfl ?_
      refine V_gn rfl rfl rfl hc18 rfl rfl rfl ?_
      refine V_gn rfl rfl rfl hc18 rfl rfl rfl ?_
      refine V_y (Y_pick_fe rfl hc18 rfl) rfl rfl rfl ?_
      exact V_end fun a ha => ⟨(), ha.sub ⟨rfl, rfl, rfl, (by rw [hc18]; rfl), trivial⟩, rfl⟩
  simp only [List.take, List.drop]
  rintro _ _ rfl
  refine V_to (fun _ _ => rfl) ?_
  refine C_cond rfl (fun hc21 => ?_) (fun hc21 => ?_)
  · rw [if_pos hc21] at hm
    refine C_seq ?_
    refine C_seq ?_
    refine C_region ?_
    have h22 := El_level_Clock_5 h8
    refine V_y (Y_fieldAddr Try.underlying35 rfl Try.sizeOf3 (by decide) rfl) rfl rfl rfl ?_
    refine V_y (Y_load (El.int h22) Try.isAgg3 rfl) rfl rfl rfl ?_
    refine V_y (Y_eql rfl rfl) rfl rfl rfl ?_
    refine V_to (fun _ _ => rfl) ?_
    refine C_cond rfl (fun hc23 => ?_) (fun hc23 => ?_)
    · rw [if_pos hc23] at hm
      refine C_seq ?_
      refine C_region ?_
      refine V_y (Y_assign rfl) rfl rfl rfl ?_
      refine V_to (fun _ _ => rfl) ?_
      obtain rfl := Option.some.inj hm
      refine C_ret ?_
      try simp only [↓inBlock_ret, ↓then_ret]
      exact retQ rfl (Res.one Try.results43 rfl) ⟨A, rfl, hH, hK⟩
    · rw [if_neg (nt hc23)] at hm
      refine C_skip_to (fun _ _ => rfl) ?_
      refine C_seq ?_
      refine C_seq ?_
      refine C_region_ch A 8 [(1, 0), (1, 1), (1, 2), (1, 3), (1, 5), (1, 6), (3, 4), (1, 7)] Try_mixed (by kernel_rfl) (fun w24 hk25 => ?_)
      have ht26 := Kp.tr hk25 hA hB
      replace hH := Hp.kp hH hk25
      replace h8 := El.tr h8 ht26
      replace hK := Tr.trans hK ht26
      replace hB := Nat.le_trans hB ht26.ex.size
      replace hA := ht26.new
      refine CH_q2 rfl ?_
      refine VQ_y (fun w' hw' => Y_move rfl) rfl rfl rfl ?_
      refine VQ_CH ?_
      refine CH_q2 rfl ?_
      obtain ⟨v27, h29, h28⟩ := El_level_Clock h8
      refine VQ_y (fun w' hw' => Y_loadA (At.same h29 (hw'.2 _ h8.2.1 h8.1)) Try.isAgg35 Try.sizeOf35 rfl) rfl rfl rfl ?_
      refine VQ_CH ?_
      refine CH_q2 rfl ?_
      have h30 := El_level_Clock_4 h8
      refine VQ_y (fun w' hw' => Y_fieldAddr Try.underlying35 rfl Try.sizeOf3 (by decide) rfl) rfl rfl rfl ?_
      refine VQ_CH ?_
      refine CH_q2 rfl ?_
      refine VQ_y (fun w' hw' => Y_load (El.int (El.keep h30 (XA.ex hw'))) Try.isAgg3 rfl) rfl rfl rfl ?_
      refine VQ_CH ?_
      refine CH_q2 rfl ?_
      have h31 := El_level_Clock_2 h8
      refine VQ_y (fun w' hw' => Y_fieldAddr Try.underlying35 rfl Try.sizeOf3 (by decide) rfl) rfl rfl rfl ?_
      refine VQ_CH ?_
      refine CH_q2 rfl ?_
      refine VQ_y (fun w' hw' => Y_load (El.int (El.keep h31 (XA.ex hw'))) Try.isAgg3 rfl) rfl rfl rfl ?_
      refine VQ_CH ?_
      refine CH_l1 (k := 1) rfl ?_
      replace hH : Hp B A w24 (obPS (obCk 107 portref2_ShiftsIn) 79 v_x x.clocks :: obC b_x [v_x] 82 :: L) := Hp.front hH (i := 1) rfl
      replace hH : Hp B A w24 (obC b_x [v_x] 82 :: obPS (obCk 107 portref2_ShiftsIn) 79 v_x x.clocks :: L) := Hp.front hH (i := 1) rfl
      obtain ⟨x32, hx32, hm⟩ := Option.bind_eq_some_iff.1 hm
      refine V_call Try.call41 rfl rfl rfl rfl (portref2_meter_elapsed_c w24 hB hA x b_x v_x c v27 h28 c.stop hH hx32) ?_
      rintro _ w33 ⟨A34, rfl, hH35, ht36⟩
      replace h8 := El.tr h8 ht36
      replace h28 := Sl.tr h28 ht36
      replace h30 := El.tr h30 ht36
      replace h31 := El.tr h31 ht36
      replace hK := Tr.trans hK ht36
      replace hB := Nat.le_trans hB ht36.ex.size
      replace hA := ht36.new
      replace hH : Hp B A34 w33 (obC b_x [v_x] 82 :: obPS (obCk 107 portref2_ShiftsIn) 79 v_x x.clocks :: L) := hH35
      refine V_CHx (XA.tr ht36) ?_
      refine CH_q2 rfl ?_
      refine VQ_y (fun w' hw' => Y_leq rfl rfl) rfl rfl rfl ?_
      refine VQ_CH ?_
      refine CH_tail ?_
      show V _ _ _ _ [] _ _
      refine V_to (fun _ _ => rfl) ?_
      refine C_cond rfl (fun hc37 => ?_) (fun hc37 => ?_)
      · rw [if_pos hc37] at hm
        refine C_seq ?_
        refine C_region ?_
        refine V_y (Y_assign rfl) rfl rfl rfl ?_
        refine V_to (fun _ _ => rfl) ?_
        obtain rfl := Option.some.inj hm
        refine C_ret ?_
        try simp only [↓inBlock_ret, ↓then_ret]
        exact retQ rfl (Res.one Try.results43 rfl) ⟨A34, rfl, hH, hK⟩
      · rw [if_neg (nt hc37)] at hm
        refine C_skip_to (fun _ _ => rfl) ?_
        refine C_seq ?_
        refine C_region ?_
        refine V_y (Y_assign rfl) rfl rfl rfl ?_
        refine V_to (fun _ _ => rfl) ?_
        obtain rfl := Option.some.inj hm
        refine C_ret ?_
        try simp only [↓inBlock_ret, ↓then_ret]
        exact retQ rfl (Res.one Try.results43 rfl) ⟨A34, rfl, hH, hK⟩
  · rw [if_neg (nt hc21)] at hm
    refine C_skip_to (fun _ _ => rfl) ?_
    refine C_seq ?_
    refine C_seq ?_
    refine C_region_ch A 7 [(1, 0), (1, 1), (1, 2), (1, 4), (1, 5), (3, 3), (1, 6)] Try_mixed (by kernel_rfl) (fun w38 hk39 => ?_)
    have ht40 := Kp.tr hk39 hA hB
    replace hH := Hp.kp hH hk39
    replace h8 := El.tr h8 ht40
    replace h14 := El.tr h14 ht40
    replace hK := Tr.trans hK ht40
    replace hB := Nat.le_trans hB ht40.ex.size
    replace hA := ht40.new
    refine CH_q2 rfl ?_
    refine VQ_y (fun w' hw' => Y_move rfl) rfl rfl rfl ?_
    refine VQ_CH ?_
    refine CH_q2 rfl ?_
    obtain ⟨v41, h43, h42⟩ := El_level_Clock h8
    refine VQ_y (fun w' hw' => Y_loadA (At.same h43 (hw'.2 _ h8.2.1 h8.1)) Try.isAgg35 Try.sizeOf35 rfl) rfl rfl rfl ?_
    refine VQ_CH ?_
    refine CH_q2 rfl ?_
    refine VQ_y (fun w' hw' => Y_load (El.int (El.keep h14 (XA.ex hw'))) Try.isAgg3 rfl) rfl rfl rfl ?_
    refine VQ_CH ?_
    refine CH_q2 rfl ?_
    have h44 := El_level_Clock_2 h8
    refine VQ_y (fun w' hw' => Y_fieldAddr Try.underlying35 rfl Try.sizeOf3 (by decide) rfl) rfl rfl rfl ?_
    refine VQ_CH ?_
    refine CH_q2 rfl ?_
    refine VQ_y (fun w' hw' => Y_load (El.int (El.keep h44 (XA.ex hw'))) Try.isAgg3 rfl) rfl rfl rfl ?_
    refine VQ_CH ?_
    refine CH_l1 (k := 1) rfl ?_
    replace hH : Hp B A w38 (obPS (obCk 107 portref2_ShiftsIn) 79 v_x x.clocks :: obC b_x [v_x] 82 :: L) := Hp.front hH (i := 1) rfl
    replace hH : Hp B A w38 (obC b_x [v_x] 82 :: obPS (obCk 107 portref2_ShiftsIn) 79 v_x x.clocks :: L) := Hp.front hH (i := 1) rfl
    obtain ⟨x45, hx45, hm⟩ := Option.bind_eq_some_iff.1 hm
    refine V_call Try.call41 rfl rfl rfl rfl (portref2_meter_elapsed_c w38 hB hA x b_x v_x c v41 h42 m hH hx45) ?_
    rintro _ w46 ⟨A47, rfl, hH48, ht49⟩
    replace h8 := El.tr h8 ht49
    replace h14 := El.tr h14 ht49
    replace h42 := Sl.tr h42 ht49
    replace h44 := El.tr h44 ht49
    replace hK := Tr.trans hK ht49
    replace hB := Nat.le_trans hB ht49.ex.size
    replace hA := ht49.new
    replace hH : Hp B A47 w46 (obC b_x [v_x] 82 :: obPS (obCk 107 portref2_ShiftsIn) 79 v_x x.clocks :: L) := hH48
    refine V_CHx (XA.tr ht49) ?_
    refine CH_q2 rfl ?_
    refine VQ_y (fun w' hw' => Y_gtr rfl rfl) rfl rfl rfl ?_
    refine VQ_CH ?_
    refine CH_tail ?_
    show V _ _ _ _ [] _ _
    refine V_to (fun _ _ => rfl) ?_
    refine C_cond rfl (fun hc50 => ?_) (fun hc50 => ?_)
    · rw [if_pos hc50] at hm
      refine C_seq ?_
      refine C_region ?_
      refine V_y (Y_assign rfl) rfl rfl rfl ?_
      refine V_to (fun _ _ => rfl) ?_
      obtain rfl := Option.some.inj hm
      refine C_ret ?_
      try simp only [↓inBlock_ret, ↓then_ret]
      exact retQ rfl (Res.one Try.results43 rfl) ⟨A47, rfl, hH, hK⟩
    · rw [if_neg (nt hc50)] at hm
      refine C_skip_to (fun _ _ => rfl) ?_
      refine C_seq ?_
      refine C_seq ?_
      refine C_region ?_
      have h51 := El_level_Clock_6 h8
      refine V_y (Y_fieldAddr Try.underlying35 rfl Try.sizeOf33 (by decide) rfl) rfl rfl rfl ?_
      obtain ⟨v52, h53, h54⟩ := El.list h51
      refine V_y (Y_load h53 Try.isAgg33 rfl) rfl rfl rfl ?_
      refine V_y (Y_makeFunc rfl rfl) rfl rfl rfl ?_
      obtain ⟨x56, hx56, hm⟩ := Option.bind_eq_some_iff.1 hm
      refine V_call Try.call65 rfl rfl rfl rfl (slices_ContainsFunc_Llevel_Piece_level_Piece_c w46 hA c.pieces v52 h54 (fun y64 => portref2_meter_state_1 y64 m) 73 #[] #[.pointer (some ⟨b11, 0, none⟩)] Try.call73 (fun w60 A61 ht62 h63 y57 r58 h59 => (portref2_meter_state_1_c w60 h63 y57 m b11 (El.tr h14 ht62) h59).mono (fun _ _ h => ⟨h.1, h.2⟩)) hx56) ?_
      rintro _ w65 ⟨rfl, hk66⟩
      have ht67 := Kp.tr hk66 hA hB
      replace hH := Hp.kp hH hk66
      replace h8 := El.tr h8 ht67
      replace h14 := El.tr h14 ht67
      replace h51 := El.tr h51 ht67
      replace h54 := Sl.tr h54 ht67
      replace hK := Tr.trans hK ht67
      replace hB := Nat.le_trans hB ht67.ex.size
      replace hA := ht67.new
      refine V_to (fun _ _ => rfl) ?_
      refine C_cond rfl (fun hc68 => ?_) (fun hc68 => ?_)
      · rw [if_pos hc68] at hm
        refine C_seq ?_
        refine C_region ?_
        refine V_y (Y_assign rfl) rfl rfl rfl ?_
        refine V_to (fun _ _ => rfl) ?_
        obtain rfl := Option.some.inj hm
        refine C_ret ?_
        try simp only [↓inBlock_ret, ↓then_ret]
        exact retQ rfl (Res.one Try.results43 rfl) ⟨A47, rfl, hH, hK⟩
      · rw [if_neg (nt hc68)] at hm
        refine C_skip_to (fun _ _ => rfl) ?_
        refine C_seq ?_
        refine C_region ?_
        refine V_y (Y_assign rfl) rfl rfl rfl ?_
        refine V_to (fun _ _ => rfl) ?_
        obtain rfl := Option.some.inj hm
        refine C_ret ?_
        try simp only [↓inBlock_ret, ↓then_ret]
        exact retQ rfl (Res.one Try.results43 rfl) ⟨A47, rfl, hH, hK⟩

set_option maxRecDepth 4000 in
set_option maxHeartbeats 4000000 in
theorem portref2_StateOf_c (w : World) {A : Nat → Prop} (hA : ∀ b, w.heap.size ≤ b → A b) (c : level_Clock) (v_c : Value) (h_c : Sl A w v_c c.pieces) (cals : (List cal_Calendar)) (v_cals : Value) (h_cals : Sl A w v_cals cals) (m : Int) {r : (Int × Int)} (hm : portref2_StateOf c cals m = some r) : Ret Try.prog 16 #[.agg #[.int .i64 c.kind, .int .i64 c.level, .int .i64 c.minutes, .int .i64 c.start, .int .i64 c.stop, .int .i64 c.end_, v_c], v_cals, .int .i64 m] w fun v w' => v = .tuple #[.int .i64 r.1, .int .i64 r.2] ∧ Kp w w' := by
  unfold portref2_StateOf at hm
  refine enter Try.func16 rfl Try.ntmps16 rfl ?_
  have hA0 := hA
  have hB := Nat.le_refl w.heap.size
  have hK : Tr w.heap.size A w A w := Tr.refl hA
  have hH : Hp w.heap.size A w [] := Hp.nil
  refine C_seq ?_
  refine C_region ?_
  refine V_box rfl rfl ?_
  intro b5 w6 h7
  have hk9 := h7.kp
  have h8 : El (α := level_Clock) A w6 b5 0 c := h7.el hA ⟨[.int .i64 c.kind], _, rfl, rfl, ⟨[.int .i64 c.level], _, rfl, rfl, ⟨[.int .i64 c.minutes], _, rfl, rfl, ⟨[.int .i64 c.start], _, rfl, rfl, ⟨[.int .i64 c.stop], _, rfl, rfl, ⟨[.int .i64 c.end_], _, rfl, rfl, ⟨_, rfl, h_c⟩⟩⟩⟩⟩⟩⟩
  have ht10 := Kp.tr hk9 hA hB
  replace hH := Hp.kp hH hk9
  replace h_c := Sl.tr h_c ht10
  replace h_cals := Sl.tr h_cals ht10
  replace hK := Tr.trans hK ht10
  replace hB := Nat.le_trans hB ht10.ex.size
  replace hA := ht10.new
  refine V_y (Y_assign rfl) rfl rfl rfl ?_
  refine V_y (Y_assign rfl) rfl rfl rfl ?_
  refine V_to (fun _ _ => rfl) ?_
  refine C_seq ?_
  refine C_seq ?_
  refine C_region ?_
  obtain ⟨v11, h13, h12⟩ := El_level_Clock h8
  refine V_y (Y_loadA h13 Try.isAgg35 Try.sizeOf35 rfl) rfl rfl rfl ?_
  refine V_buildSlice (l := ([c] : List level_Clock)) (len := 1) Try.underlying56 Try.sizeOf35 Try.zeroValue35 rfl (by with_unfolding_all rfl) (by decide) (by decide) hA ⟨[.int .i64 c.kind, .int .i64 c.level, .int .i64 c.minutes, .int .i64 c.start, .int .i64 c.stop, .int .i64 c.end_, v11], _, rfl, ⟨[.int .i64 c.kind], _, rfl, rfl, ⟨[.int .i64 c.level], _, rfl, rfl, ⟨[.int .i64 c.minutes], _, rfl, rfl, ⟨[.int .i64 c.start], _, rfl, rfl, ⟨[.int .i64 c.stop], _, rfl, rfl, ⟨[.int .i64 c.end_], _, rfl, rfl, ⟨_, rfl, h12⟩⟩⟩⟩⟩⟩⟩, rfl⟩ rfl rfl ?_
  intro v14 w15 hk17 h16
  have ht18 := Kp.tr hk17 hA hB
  replace hH := Hp.kp hH hk17
  replace h_cals := Sl.tr h_cals ht18
  replace h8 := El.tr h8 ht18
  replace h12 := Sl.tr h12 ht18
  replace hK := Tr.trans hK ht18
  replace hB := Nat.le_trans hB ht18.ex.size
  replace hA := ht18.new
  refine V_y (Y_move rfl) rfl rfl rfl ?_
  obtain ⟨x19, hx19, hm⟩ := Option.bind_eq_some_iff.1 hm
  refine V_call Try.call40 rfl rfl rfl rfl (portref2_clocksFault_c w15 hA ([c] : List level_Clock) v14 h16 cals v_cals h_cals hx19) ?_
  rintro _ w20 ⟨rfl, hk21⟩
  have ht22 := Kp.tr hk21 hA hB
  replace hH := Hp.kp hH hk21
  replace h_cals := Sl.tr h_cals ht22
  replace h8 := El.tr h8 ht22
  replace h12 := Sl.tr h12 ht22
  replace h16 := Sl.tr h16 ht22
  replace hK := Tr.trans hK ht22
  replace hB := Nat.le_trans hB ht22.ex.size
  replace hA := ht22.new
  refine V_y (Y_assign rfl) rfl rfl rfl ?_
  refine V_to (fun _ _ => rfl) ?_
  refine C_seq ?_
  refine C_region ?_
  refine V_y (Y_move rfl) rfl rfl rfl ?_
  refine V_y (Y_neq rfl rfl) rfl rfl rfl ?_
  refine V_to (fun _ _ => rfl) ?_
  refine C_cond rfl (fun hc23 => ?_) (fun hc23 => ?_)
  · rw [if_pos hc23] at hm
    refine C_seq ?_
    refine C_region ?_
    refine V_y (Y_move rfl) rfl rfl rfl ?_
    refine V_y (Y_assign rfl) rfl rfl rfl ?_
    refine V_y (Y_assign rfl) rfl rfl rfl ?_
    refine V_to (fun _ _ => rfl) ?_
    obtain rfl := Option.some.inj hm
    refine C_ret ?_
    try simp only [↓inBlock_ret, ↓then_ret]
    exact retQ rfl (Res.two Try.results16 rfl rfl) ⟨rfl, hK.kp⟩
  · rw [if_neg (nt hc23)] at hm
    refine C_skip_to (fun _ _ => rfl) ?_
    refine C_seq ?_
    refine C_seq ?_
    refine C_region ?_
    refine V_y (Y_move rfl) rfl rfl rfl ?_
    refine V_call Try.call33 rfl rfl rfl rfl (portref2_IsMoment_c w20 m) ?_
    rintro _ _ ⟨rfl, rfl⟩
    refine V_y (Y_not rfl) rfl rfl rfl ?_
    refine V_y (Y_move rfl) rfl rfl rfl ?_
    refine V_cut 5 (fun _ : Unit => [(1, v_cals), (2, .int .i64 m), (3, .pointer (some ⟨b5, 0, none⟩)), (24, .bool ((!(portref2_IsMoment m)) || (decide (m < c.start))))]) (fun _ w' => w20 = w') ?_ ?_
    · simp only [List.take, List.drop]
      rcases Bool.eq_false_or_eq_true (!(portref2_IsMoment m)) with hc24 | hc24
      · refine V_gn rfl rfl rfl hc24 rfl rfl rfl ?_
        refine V_gn rfl rfl rfl hc24 rfl rfl rfl ?_
        refine V_gn rfl rfl rfl hc24 rfl rfl rfl ?_
        refine V_gn rfl rfl rfl hc24 rfl rfl rfl ?_
        refine V_y (Y_pick_te rfl hc24 rfl) rfl rfl rfl ?_
        exact V_end fun a ha => ⟨(), ha.sub ⟨rfl, rfl, rfl, (by rw [hc24]; rfl), trivial⟩, rfl⟩
      · refine V_ge rfl rfl rfl hc24 ?_
        refine V_y (Y_move rfl) rfl rfl rfl ?_
        refine V_ge rfl rfl rfl hc24 ?_
        have h26 := El_level_Clock_3 h8
        refine V_y (Y_fieldAddr Try.underlying35 rfl Try.sizeOf3 (by decide) rfl) rfl rfl rfl ?_
        refine V_ge rfl rfl rfl hc24 ?_
        refine V_y (Y_load (El.int h26) Try.isAgg3 rfl) rfl rfl rfl ?_
        refine V_ge rfl rfl rfl hc24 ?_
        refine V_y (Y_lss rfl rfl) rfl rfl rfl ?_
        refine V_y (Y_pick_fe rfl hc24 rfl) rfl rfl rfl ?_
        exact V_end fun a ha => ⟨(), ha.sub ⟨rfl, rfl, rfl, (by rw [hc24]; rfl), trivial⟩, rfl⟩
    simp only [List.take, List.drop]
    rintro _ _ rfl
    refine V_to (fun _ _ => rfl) ?_
    refine C_cond rfl (fun hc27 => ?_) (fun hc27 => ?_)
    · rw [if_pos hc27] at hm
      refine C_seq ?_
      refine C_region ?_
      refine V_y (Y_assign rfl) rfl rfl rfl ?_
      refine V_y (Y_assign rfl) rfl rfl rfl ?_
      refine V_to (fun _ _ => rfl) ?_
      obtain rfl := Option.some.inj hm
      refine C_ret ?_
      try simp only [↓inBlock_ret, ↓then_ret]
      exact retQ rfl (Res.two Try.results16 rfl rfl) ⟨rfl, hK.kp⟩
    · rw [if_neg (nt hc27)] at hm
      refine C_skip_to (fun _ _ => rfl) ?_
      refine C_seq ?_
      refine C_region_ch A 7 [(1, 0), (1, 2), (1, 3), (2, 1), (4, 4), (1, 5), (1, 6)] Try_mixed (by kernel_rfl) (fun w28 hk29 => ?_)
      have ht30 := Kp.tr hk29 hA hB
      replace hH := Hp.kp hH hk29
      replace h_cals := Sl.tr h_cals ht30
      replace h8 := El.tr h8 ht30
      replace hK := Tr.trans hK ht30
      replace hB := Nat.le_trans hB ht30.ex.size
      replace hA := ht30.new
      refine CH_q2 rfl ?_
      refine VQ_y (fun w' hw' => Y_move rfl) rfl rfl rfl ?_
      refine VQ_CH ?_
      refine CH_q2 rfl ?_
      obtain ⟨v31, h33, h32⟩ := El_level_Clock h8
      refine VQ_y (fun w' hw' => Y_loadA (At.same h33 (hw'.2 _ h8.2.1 h8.1)) Try.isAgg35 Try.sizeOf35 rfl) rfl rfl rfl ?_
      refine VQ_CH ?_
      refine CH_q2 rfl ?_
      refine VQ_y (fun w' hw' => Y_move rfl) rfl rfl rfl ?_
      refine VQ_CH ?_
      refine CH_l1 (k := 0) rfl ?_
      obtain ⟨x34, hx34, hm⟩ := Option.bind_eq_some_iff.1 hm
      refine V_call Try.call34 rfl rfl rfl rfl (portref2_newMeter_c w28 (B := w28.heap.size) (Nat.le_refl _) hA cals v_cals h_cals Hp.nil hx34) ?_
      rintro _ w38 ⟨b35, v36, A39, rfl, hH40, ht41⟩
      have hk42 : Kp w28 w38 := ht41.below
      have hH43 := Hp.join hH hB ht41 hH40
      have ht44 := Tr.lower ht41 hB
      replace h_cals := Sl.tr h_cals ht44
      replace h8 := El.tr h8 ht44
      replace h32 := Sl.tr h32 ht44
      replace hK := Tr.trans hK ht44
      replace hB := Nat.le_trans hB ht44.ex.size
      replace hA := ht44.new
      replace hH : Hp w.heap.size A39 w38 (obC b35 [v36] 82 :: obPS (obCk 107 portref2_ShiftsIn) 79 v36 x34.clocks :: []) := hH43
      refine V_CH (hk42) ?_
      refine CH_l1 (k := 2) rfl ?_
      replace hH : Hp w.heap.size A39 w38 (obPS (obCk 107 portref2_ShiftsIn) 79 v36 x34.clocks :: obC b35 [v36] 82 :: []) := Hp.front hH (i := 1) rfl
      replace hH : Hp w.heap.size A39 w38 (obC b35 [v36] 82 :: obPS (obCk 107 portref2_ShiftsIn) 79 v36 x34.clocks :: []) := Hp.front hH (i := 1) rfl
      obtain ⟨x45, hx45, hm⟩ := Option.bind_eq_some_iff.1 hm
      refine V_call Try.call43 rfl rfl rfl rfl (portref2_meter_state_c w38 hB hA x34 b35 v36 c v31 h32 m hH hx45) ?_
      rintro _ w46 ⟨A47, rfl, hH48, ht49⟩
      replace h_cals := Sl.tr h_cals ht49
      replace h8 := El.tr h8 ht49
      replace h32 := Sl.tr h32 ht49
      replace hK := Tr.trans hK ht49
      replace hB := Nat.le_trans hB ht49.ex.size
      replace hA := ht49.new
      replace hH : Hp w.heap.size A47 w46 (obC b35 [v36] 82 :: obPS (obCk 107 portref2_ShiftsIn) 79 v36 x34.clocks :: []) := hH48
      refine V_CHw ?_
      refine CH_q2 rfl ?_
      refine VQ_y (fun w' hw' => Y_assign rfl) rfl rfl rfl ?_
      refine VQ_CH ?_
      refine CH_q2 rfl ?_
      refine VQ_y (fun w' hw' => Y_assign rfl) rfl rfl rfl ?_
      refine VQ_CH ?_
      refine CH_tail ?_
      show V _ _ _ _ [] _ _
      refine V_to (fun _ _ => rfl) ?_
      obtain rfl := Option.some.inj hm
      refine C_ret ?_
      try simp only [↓inBlock_ret, ↓then_ret]
      exact retQ rfl (Res.two Try.results16 rfl rfl) ⟨rfl, hK.kp⟩

set_option maxRecDepth 4000 in
set_option maxHeartbeats 4000000 in
theorem portlaw2_ClockStates_c (w : World) {A : Nat → Prop} (hA : ∀ b, w.heap.size ≤ b → A b) (c : level_Clock) (v_c : Value) (h_c : Sl A w v_c c.pieces) (cals : (List cal_Calendar)) (v_cals : Value) (h_cals : Sl A w v_cals cals) (m : Int) {r : Bool} (hm : portlaw2_ClockStates c cals m = some r) : Ret Try.prog 5 #[.agg #[.int .i64 c.kind, .int .i64 c.level, .int .i64 c.minutes, .int .i64 c.start, .int .i64 c.stop, .int .i64 c.end_, v_c], v_cals, .int .i64 m] w fun v w' => v = .bool r ∧ Kp w w' := by
  unfold portlaw2_ClockStates at hm
  refine enter Try.func5 rfl Try.ntmps5 rfl ?_
  have hA0 := hA
  have hB := Nat.le_refl w.heap.size
  have hK : Tr w.heap.size A w A w := Tr.refl hA
  have hH : Hp w.heap.size A w [] := Hp.nil
  refine C_seq ?_
  refine C_region ?_
  refine V_box rfl rfl ?_
  intro b5 w6 h7
  have hk9 := h7.kp
  have h8 : El (α := level_Clock) A w6 b5 0 c := h7.el hA ⟨[.int .i64 c.kind], _, rfl, rfl, ⟨[.int .i64 c.level], _, rfl, rfl, ⟨[.int .i64 c.minutes], _, rfl, rfl, ⟨[.int .i64 c.start], _, rfl, rfl, ⟨[.int .i64 c.stop], _, rfl, rfl, ⟨[.int .i64 c.end_], _, rfl, rfl, ⟨_, rfl, h_c⟩⟩⟩⟩⟩⟩⟩
  have ht10 := Kp.tr hk9 hA hB
  replace hH := Hp.kp hH hk9
  replace h_c := Sl.tr h_c ht10
  replace h_cals := Sl.tr h_cals ht10
  replace hK := Tr.trans hK ht10
  replace hB := Nat.le_trans hB ht10.ex.size
  replace hA := ht10.new
  refine V_y (Y_assign rfl) rfl rfl rfl ?_
  refine V_to (fun _ _ => rfl) ?_
  refine C_seq ?_
  refine C_region ?_
  obtain ⟨v11, h13, h12⟩ := El_level_Clock h8
  refine V_y (Y_loadA h13 Try.isAgg35 Try.sizeOf35 rfl) rfl rfl rfl ?_
  refine V_y (Y_move rfl) rfl rfl rfl ?_
  refine V_y (Y_move rfl) rfl rfl rfl ?_
  obtain ⟨x14, hx14, hm⟩ := Option.bind_eq_some_iff.1 hm
  refine V_call Try.call15 rfl rfl rfl rfl (level_StateAt_c w6 hA c v11 h12 cals v_cals h_cals m hx14) ?_
  rintro _ w15 ⟨rfl, hk16⟩
  have ht17 := Kp.tr hk16 hA hB
  replace hH := Hp.kp hH hk16
  replace h_cals := Sl.tr h_cals ht17
  replace h8 := El.tr h8 ht17
  replace h12 := Sl.tr h12 ht17
  replace hK := Tr.trans hK ht17
  replace hB := Nat.le_trans hB ht17.ex.size
  replace hA := ht17.new
  refine V_y (Y_move rfl) rfl rfl rfl ?_
  refine V_y (Y_extract rfl rfl) rfl rfl rfl ?_
  refine V_y (Y_extract rfl rfl) rfl rfl rfl ?_
  refine V_y (Y_assign rfl) rfl rfl rfl ?_
  refine V_y (Y_assign rfl) rfl rfl rfl ?_
  refine V_to (fun _ _ => rfl) ?_
  refine C_seq ?_
  refine C_region ?_
  obtain ⟨v18, h20, h19⟩ := El_level_Clock h8
  refine V_y (Y_loadA h20 Try.isAgg35 Try.sizeOf35 rfl) rfl rfl rfl ?_
  refine V_y (Y_move rfl) rfl rfl rfl ?_
  refine V_y (Y_move rfl) rfl rfl rfl ?_
  obtain ⟨x21, hx21, hm⟩ := Option.bind_eq_some_iff.1 hm
  refine V_call Try.call16 rfl rfl rfl rfl (portref2_StateOf_c w15 hA c v18 h19 cals v_cals h_cals m hx21) ?_
  rintro _ w22 ⟨rfl, hk23⟩
  have ht24 := Kp.tr hk23 hA hB
  replace hH := Hp.kp hH hk23
  replace h_cals := Sl.tr h_cals ht24
  replace h8 := El.tr h8 ht24
  replace h19 := Sl.tr h19 ht24
  replace hK := Tr.trans hK ht24
  replace hB := Nat.le_trans hB ht24.ex.size
  replace hA := ht24.new
  refine V_y (Y_move rfl) rfl rfl rfl ?_
  refine V_y (Y_extract rfl rfl) rfl rfl rfl ?_
  refine V_y (Y_extract rfl rfl) rfl rfl rfl ?_
  refine V_y (Y_assign rfl) rfl rfl rfl ?_
  refine V_y (Y_assign rfl) rfl rfl rfl ?_
  refine V_to (fun _ _ => rfl) ?_
  refine C_seq ?_
  refine C_region ?_
  refine V_y (Y_move rfl) rfl rfl rfl ?_
  refine V_y (Y_move rfl) rfl rfl rfl ?_
  refine V_y (Y_eql rfl rfl) rfl rfl rfl ?_
  refine V_y (Y_move rfl) rfl rfl rfl ?_
  refine V_cut 4 (fun _ : Unit => [(32, .bool ((x14.1 == x21.1) && (x14.2 == x21.2)))]) (fun _ w' => w22 = w') ?_ ?_
  · simp only [List.take, List.drop]
    rcases Bool.eq_false_or_eq_true (x14.1 == x21.1) with hc25 | hc25
    · refine V_ge rfl rfl rfl hc25 ?_
      refine V_y (Y_move rfl) rfl rfl rfl ?_
      refine V_ge rfl rfl rfl hc25 ?_
      refine V_y (Y_move rfl) rfl rfl rfl ?_
      refine V_ge rfl rfl rfl hc25 ?_
      refine V_y (Y_eql rfl rfl) rfl rfl rfl ?_
      refine V_y (Y_pick_te rfl hc25 rfl) rfl rfl rfl ?_
      exact V_end fun a ha => ⟨(), ha.sub ⟨(by rw [hc25]; rfl), trivial⟩, rfl⟩
    · refine V_gn rfl rfl rfl hc25 rfl rfl rfl ?_
      refine V_gn rfl rfl rfl hc25 rfl rfl rfl ?_
      refine V_gn rfl rfl rfl hc25 rfl rfl rfl ?_
      refine V_y (Y_pick_fe rfl hc25 rfl) rfl rfl rfl ?_
      exact V_end fun a ha => ⟨(), ha.sub ⟨(by rw [hc25]; rfl), trivial⟩, rfl⟩
  simp only [List.take, List.drop]
  rintro _ _ rfl
  refine V_y (Y_assign rfl) rfl rfl rfl ?_
  refine V_to (fun _ _ => rfl) ?_
  obtain rfl := Option.some.inj hm
  refine C_ret ?_
  try simp only [↓inBlock_ret, ↓then_ret]
  exact retQ rfl (Res.one Try.results5 rfl) ⟨rfl, hK.kp⟩

end Go.Proofs.Ytpfoimbklbkcpaa.W
