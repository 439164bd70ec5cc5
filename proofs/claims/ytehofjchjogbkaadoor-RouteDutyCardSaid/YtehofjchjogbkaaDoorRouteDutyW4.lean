/-
  Written by program (gen.py) from the IR of the dump: each function computes its model.
-/
import Derived.Test.YtehofjchjogbkaaDoorRouteDutyW3
namespace Go.Proofs.YtehofjchjogbkaaDoor.W
open Go Go.RowKit Go.Pu Go.Gw Go.Proofs Go.Proofs.YtehofjchjogbkaaDoor.M
set_option linter.unusedVariables false
set_option linter.unusedSimpArgs false
variable {Dw : Prop}

set_option maxRecDepth 4000 in
set_option maxHeartbeats 4000000 in
theorem cal_NextOpen_c (w : World) {A : Nat → Prop} (hA : ∀ b, w.heap.size ≤ b → A b) (c : cal_Calendar) (v_c0 : Value) (h_c0 : Sl A w v_c0 c.zone.changes) (v_c1 : Value) (h_c1 : Sl A w v_c1 c.week) (v_c2 : Value) (h_c2 : Sl A w v_c2 c.specials) (m : Int) {r : (Int × Int)} (hm : cal_NextOpen c m = some r) : Ret Tryd.prog 33 #[.agg #[.int .i64 c.zone.offset, v_c0, v_c1, v_c2], .int .i64 m] w fun v w' => v = .tuple #[.int .i64 r.1, .int .i64 r.2] ∧ Kp Dw w w' := by
  unfold cal_NextOpen at hm
  refine enterM Tryd.func33 rfl Tryd.ntmps33 rfl ?_
  have hA0 := hA
  have hB := Nat.le_refl w.heap.size
  have hK : Tr Dw w.heap.size A w A w := Tr.refl (Dw := Dw) hA
  have hH : Hp w.heap.size A w [] := Hp.nil
  refine C_seq ?_
  refine C_region ?_
  refine V_box rfl rfl ?_
  intro b7 w9 h10
  have hk12 := h10.kp (Dw := Dw)
  have h11 : El (α := cal_Calendar) A w9 b7 0 c := h10.el hA ⟨[.int .i64 c.zone.offset, v_c0], _, rfl, ⟨[.int .i64 c.zone.offset], _, rfl, rfl, ⟨_, rfl, h_c0⟩⟩, ⟨[v_c1], _, rfl, ⟨_, rfl, h_c1⟩, ⟨_, rfl, h_c2⟩⟩⟩
  have ht13 := Kp.tr (Dw := Dw) hk12 hA hB
  replace hH := Hp.kp (Dw := Dw) hH hk12
  replace h_c0 := Sl.tr (Dw := Dw) h_c0 ht13
  replace h_c1 := Sl.tr (Dw := Dw) h_c1 ht13
  replace h_c2 := Sl.tr (Dw := Dw) h_c2 ht13
  replace hK := Tr.trans (Dw := Dw) hK ht13
  replace hB := Nat.le_trans hB ht13.ex.size
  replace hA := ht13.new
  refine V_allocH (Dw := Dw) (B := w.heap.size) hH Tryd.zeroValue3 hB hA rfl ?_
  intro b14 w15 A16 hH17 ht18
  replace h_c0 := Sl.tr (Dw := Dw) h_c0 ht18
  replace h_c1 := Sl.tr (Dw := Dw) h_c1 ht18
  replace h_c2 := Sl.tr (Dw := Dw) h_c2 ht18
  replace h11 := El.tr (Dw := Dw) h11 ht18
  replace hK := Tr.trans (Dw := Dw) hK ht18
  replace hB := Nat.le_trans hB ht18.ex.size
  replace hA := ht18.new
  replace hH : Hp w.heap.size A16 w15 (obC b14 [.int .i64 0] 3 :: []) := hH17
  refine V_allocH (Dw := Dw) (B := w.heap.size) hH Tryd.zeroValue25 hB hA rfl ?_
  intro b19 w20 A21 hH22 ht23
  replace h_c0 := Sl.tr (Dw := Dw) h_c0 ht23
  replace h_c1 := Sl.tr (Dw := Dw) h_c1 ht23
  replace h_c2 := Sl.tr (Dw := Dw) h_c2 ht23
  replace h11 := El.tr (Dw := Dw) h11 ht23
  replace hK := Tr.trans (Dw := Dw) hK ht23
  replace hB := Nat.le_trans hB ht23.ex.size
  replace hA := ht23.new
  replace hH : Hp w.heap.size A21 w20 (obC b19 [.int .i64 0] 25 :: obC b14 [.int .i64 0] 3 :: []) := hH22
  refine V_to (fun _ _ => rfl) ?_
  refine C_seq ?_
  refine C_seq ?_
  refine C_region ?_
  obtain ⟨v24, v26, v28, h30, h25, h27, h29⟩ := El_cal_Calendar h11
  refine V_y (Y_loadA h30 Tryd.isAgg46 Tryd.sizeOf46 rfl) rfl rfl rfl ?_
  obtain ⟨x31, hx31, hm⟩ := Option.bind_eq_some_iff.1 hm
  refine V_call Tryd.call22 rfl rfl rfl rfl (cal_CheckCalendar_c (Dw := Dw) w20 hA c v24 h25 v26 h27 v28 h29 hx31) ?_
  rintro _ w33 ⟨rfl, hk34⟩
  have ht35 := Kp.tr (Dw := Dw) hk34 hA hB
  replace hH := Hp.kp (Dw := Dw) hH hk34
  replace h11 := El.tr (Dw := Dw) h11 ht35
  replace h25 := Sl.tr (Dw := Dw) h25 ht35
  replace h27 := Sl.tr (Dw := Dw) h27 ht35
  replace h29 := Sl.tr (Dw := Dw) h29 ht35
  replace hK := Tr.trans (Dw := Dw) hK ht35
  replace hB := Nat.le_trans hB ht35.ex.size
  replace hA := ht35.new
  refine V_y (Y_move rfl) rfl rfl rfl ?_
  refine V_call Tryd.call24 rfl rfl rfl rfl (cal_moment_c w33 m) ?_
  rintro _ _ ⟨rfl, rfl⟩
  refine V_buildSlice (Dw := Dw) (cells := #[.int .i64 x31, .int .i64 (cal_moment m)]) (l := ([x31, (cal_moment m)] : List Int)) (len := 2) Tryd.underlying55 Tryd.sizeOf25 Tryd.zeroValue25 rfl (by generalize ((cal_moment m) : Int) = z40; kernel_rfl) (show (2 * 1 : Nat) ≠ 0 by decide) (show (2 * 1 : Nat) ≤ 2 ^ 24 by decide) hA ⟨[.int .i64 x31], _, rfl, rfl, ⟨[.int .i64 (cal_moment m)], _, rfl, rfl, rfl⟩⟩ rfl rfl ?_
  intro v36 w37 hk39 h38
  have ht41 := Kp.tr (Dw := Dw) hk39 hA hB
  replace hH := Hp.kp (Dw := Dw) hH hk39
  replace h11 := El.tr (Dw := Dw) h11 ht41
  replace h25 := Sl.tr (Dw := Dw) h25 ht41
  replace h27 := Sl.tr (Dw := Dw) h27 ht41
  replace h29 := Sl.tr (Dw := Dw) h29 ht41
  replace hK := Tr.trans (Dw := Dw) hK ht41
  replace hB := Nat.le_trans hB ht41.ex.size
  replace hA := ht41.new
  obtain ⟨x42, hx42, hm⟩ := Option.bind_eq_some_iff.1 hm
  refine V_call Tryd.call9 rfl rfl rfl rfl (cmp_Or_api_Errno_c w37 ([x31, (cal_moment m)] : List Int) v36 h38 hx42) ?_
  rintro _ _ ⟨rfl, rfl⟩
  refine V_y (Y_assign rfl) rfl rfl rfl ?_
  refine V_to (fun _ _ => rfl) ?_
  refine C_seq ?_
  refine C_region ?_
  refine V_y (Y_move rfl) rfl rfl rfl ?_
  refine V_y (Y_neq rfl rfl) rfl rfl rfl ?_
  refine V_to (fun _ _ => rfl) ?_
  refine C_cond rfl (fun hc43 => ?_) (fun hc43 => ?_)
  · rw [if_pos hc43] at hm
    refine C_seq ?_
    refine C_region ?_
    refine V_y (Y_move rfl) rfl rfl rfl ?_
    refine V_storeC (Dw := Dw) (off := 0) (ds := [.int .i64 0]) hH (i := 1) rfl Tryd.sizeOf3 rfl (Nat.le_of_ble_eq_true rfl) (by simp [Value.cells, Value.oneCell']) rfl hB hA rfl rfl ?_
    intro w44 hH45 ht46
    replace h11 := El.tr (Dw := Dw) h11 ht46
    replace hK := Tr.trans (Dw := Dw) hK ht46
    replace hB := Nat.le_trans hB ht46.ex.size
    replace hA := ht46.new
    replace hH : Hp w.heap.size A21 w44 (obC b19 [.int .i64 0] 25 :: obC b14 [.int .i64 0] 3 :: []) := hH45
    refine V_storeC (Dw := Dw) (off := 0) (ds := [.int .i64 x42]) hH (i := 0) rfl Tryd.sizeOf25 rfl (Nat.le_of_ble_eq_true rfl) (by simp [Value.cells, Value.oneCell']) rfl hB hA rfl rfl ?_
    intro w47 hH48 ht49
    replace h11 := El.tr (Dw := Dw) h11 ht49
    replace hK := Tr.trans (Dw := Dw) hK ht49
    replace hB := Nat.le_trans hB ht49.ex.size
    replace hA := ht49.new
    replace hH : Hp w.heap.size A21 w47 (obC b19 [.int .i64 x42] 25 :: obC b14 [.int .i64 0] 3 :: []) := hH48
    refine V_to (fun _ _ => rfl) ?_
    obtain rfl := Option.some.inj hm
    refine C_ret ?_
    try simp only [↓inBlock_ret, ↓then_ret]
    exact retM rfl (Res.l2 Tryd.results33 (RL.cell rfl (loadVar_one (Hp.cell (j := 0) hH (i := 1) rfl rfl) Tryd.isAgg3)) (RL.cell rfl (loadVar_one (Hp.cell (j := 0) hH (i := 0) rfl rfl) Tryd.isAgg25))) ⟨rfl, hK.kp⟩
  · rw [if_neg (nt hc43)] at hm
    refine C_skip_to (fun _ _ => rfl) ?_
    refine C_seq ?_
    refine C_seq ?_
    refine C_region ?_
    obtain ⟨v50, v52, v54, h56, h51, h53, h55⟩ := El_cal_Calendar h11
    refine V_y (Y_loadA h56 Tryd.isAgg46 Tryd.sizeOf46 rfl) rfl rfl rfl ?_
    refine V_y (Y_move rfl) rfl rfl rfl ?_
    obtain ⟨x57, hx57, hm⟩ := Option.bind_eq_some_iff.1 hm
    refine V_call Tryd.call25 rfl rfl rfl rfl (cal_Calendar_open_c (Dw := Dw) w37 hA c v50 h51 v52 h53 v54 h55 m 3000001 hx57) ?_
    rintro _ w65 ⟨b58, b60, b62, rfl, h59, h61, h63, hk66⟩
    have ht67 := Kp.tr (Dw := Dw) hk66 hA hB
    replace hH := Hp.kp (Dw := Dw) hH hk66
    replace h11 := El.tr (Dw := Dw) h11 ht67
    replace h51 := Sl.tr (Dw := Dw) h51 ht67
    replace h53 := Sl.tr (Dw := Dw) h53 ht67
    replace h55 := Sl.tr (Dw := Dw) h55 ht67
    replace hK := Tr.trans (Dw := Dw) hK ht67
    replace hB := Nat.le_trans hB ht67.ex.size
    replace hA := ht67.new
    refine V_to (fun _ _ => rfl) ?_
    have hH72 : Hp w.heap.size A21 w65 ((fun (s69 : (Int × Int)) => obE (fun (i : Unit) => [obC b19 [.int .i64 s69.1] 25, obC b14 [.int .i64 s69.2] 3])) (0, 0) :: []) := Hp.pack (F := fun (i : Unit) => [obC b19 [.int .i64 (0, 0).1] 25, obC b14 [.int .i64 (0, 0).2] 3]) () hH
    obtain ⟨z68, hz68, hm⟩ := Option.bind_eq_some_iff.1 hm
    refine C_cutN (ι := Nat × (Nat → Prop)) (fun i => ⟨23, [{ target := .collected i.1, args := #[] }], none⟩) (fun i => [(4, .pointer (some ⟨b14, 0, none⟩)), (5, .pointer (some ⟨b19, 0, none⟩))]) (fun i w' => z68.2 ≠ some 0 ∧ Hp w.heap.size i.2 w' ((fun (s69 : (Int × Int)) => obE (fun (i : Unit) => [obC b19 [.int .i64 s69.1] 25, obC b14 [.int .i64 s69.2] 3])) z68.1 :: obO i.1 (.deferred (some [])) :: []) ∧ Tr Dw w.heap.size A21 w65 i.2 w') ?_ ?_
    · refine C_block ?_
      refine C_rangeFunc (Dw := Dw) (B := w.heap.size) (A := A21) (L := []) (X := cal_Span) (fun (x78 : cal_Span) => [.agg #[.int .i64 x78.from_, .int .i64 x78.to_]]) (fun (s69 : (Int × Int)) => obE (fun (i : Unit) => [obC b19 [.int .i64 s69.1] 25, obC b14 [.int .i64 s69.2] 3])) (fun (x78 : cal_Span) (s70 : (Int × Int)) => some ((0, x78.from_), some 0)) (fun k => if k = 0 then .ret else .exit 0) (s0 := (0, 0)) (zf := z68) rfl rfl rfl (by decide) (fun _ => rfl) hB hA hH72 38 _ rfl Tryd.call38 ?_ ?_ ?_ ?_
      · intro Ys yv w1 A1 L1 h1 h2 h3 h4 h0 h5
        exact (cal_Calendar_open_1_c (Dw := Dw) w1 h1 h2 (yieldB (fun (x78 : cal_Span) (s70 : (Int × Int)) => some ((0, x78.from_), some 0))) Ys yv h0 ((0, 0), none) h5 x57.1 b58 (El.tr (Dw := Dw) h59 h3) x57.2.1 b60 (El.tr (Dw := Dw) h61 h3) x57.2.2 b62 (El.tr (Dw := Dw) h63 h3) h4 hz68).mono fun _ _ ⟨A3, _, hh, tt⟩ => ⟨A3, tt, hh⟩
      · intro l73 rc74 w75 A76 L77 x78 s70 s71 j79 hst80 hB81 hA82 ht83 hH84 h85
        obtain ⟨_, hH84⟩ := Hp.open hH84
        replace h59 := El.tr (Dw := Dw) h59 ht83
        replace h61 := El.tr (Dw := Dw) h61 ht83
        replace h63 := El.tr (Dw := Dw) h63 ht83
        replace hK := Tr.trans (Dw := Dw) hK ht83
        replace hB := Nat.le_trans hB ht83.ex.size
        replace hA := ht83.new
        replace hH : Hp w.heap.size A76 w75 (obC b19 [.int .i64 s70.1] 25 :: obC b14 [.int .i64 s70.2] 3 :: obO l73 (.loop rc74) :: L77) := hH84
        have hr86 : Tr Dw w.heap.size A76 w75 A76 w75 := Tr.refl (Dw := Dw) hA
        show C _ _ _ _ _ _
        refine C_region ?_
        refine V_alloc Tryd.zeroValue80 rfl ?_
        intro b88 w89 h90
        refine V_storeNew h90 Tryd.sizeOf80 rfl rfl rfl rfl (by exact (List.forall_mem_cons.2 ⟨rfl, (List.forall_mem_cons.2 ⟨rfl, (fun _ h => nomatch h)⟩)⟩)) ?_
        intro w91 h92
        have hk94 := h92.kp (Dw := Dw)
        have h93 : El (α := cal_Span) A76 w91 b88 0 x78 := h92.el hA ⟨[.int .i64 x78.from_], _, rfl, rfl, rfl⟩
        have ht95 := Kp.tr (Dw := Dw) hk94 hA hB
        replace hH := Hp.kp (Dw := Dw) hH hk94
        replace h59 := El.tr (Dw := Dw) h59 ht95
        replace h61 := El.tr (Dw := Dw) h61 ht95
        replace h63 := El.tr (Dw := Dw) h63 ht95
        replace hK := Tr.trans (Dw := Dw) hK ht95
        replace hr86 := Tr.trans (Dw := Dw) hr86 ht95
        replace hB := Nat.le_trans hB ht95.ex.size
        replace hA := ht95.new
        refine V_end (fun a ha96 => ?_)
        refine begin_at (Dw := Dw) hH (i := 2) rfl hst80 hB hA (fun w97 hH98 ht99 => ?_) ha96
        replace h93 := El.tr (Dw := Dw) h93 ht99
        replace hK := Tr.trans (Dw := Dw) hK ht99
        replace hr86 := Tr.trans (Dw := Dw) hr86 ht99
        replace hB := Nat.le_trans hB ht99.ex.size
        replace hA := ht99.new
        replace hH : Hp w.heap.size A76 w97 (obC b19 [.int .i64 s70.1] 25 :: obC b14 [.int .i64 s70.2] 3 :: obO l73 (.loop { rc74 with state := .busy }) :: L77) := hH98
        refine C_block ?_
        refine C_seq ?_
        refine C_region ?_
        have h100 := El_cal_Span_0 h93
        refine V_y (Y_fieldAddr Tryd.underlying80 rfl Tryd.sizeOf3 (by decide) rfl) rfl rfl rfl ?_
        refine V_y (Y_load (El.int h100) Tryd.isAgg3 rfl) rfl rfl rfl ?_
        refine V_storeC (Dw := Dw) (off := 0) (ds := [.int .i64 x78.from_]) hH (i := 1) rfl Tryd.sizeOf3 rfl (Nat.le_of_ble_eq_true rfl) (by simp [Value.cells, Value.oneCell']) rfl hB hA rfl rfl ?_
        intro w101 hH102 ht103
        replace h93 := El.tr (Dw := Dw) h93 ht103
        replace h100 := El.tr (Dw := Dw) h100 ht103
        replace hK := Tr.trans (Dw := Dw) hK ht103
        replace hr86 := Tr.trans (Dw := Dw) hr86 ht103
        replace hB := Nat.le_trans hB ht103.ex.size
        replace hA := ht103.new
        replace hH : Hp w.heap.size A76 w101 (obC b19 [.int .i64 s70.1] 25 :: obC b14 [.int .i64 x78.from_] 3 :: obO l73 (.loop { rc74 with state := .busy }) :: L77) := hH102
        refine V_storeC (Dw := Dw) (off := 0) (ds := [.int .i64 0]) hH (i := 0) rfl Tryd.sizeOf25 rfl (Nat.le_of_ble_eq_true rfl) (by simp [Value.cells, Value.oneCell']) rfl hB hA rfl rfl ?_
        intro w104 hH105 ht106
        replace h93 := El.tr (Dw := Dw) h93 ht106
        replace h100 := El.tr (Dw := Dw) h100 ht106
        replace hK := Tr.trans (Dw := Dw) hK ht106
        replace hr86 := Tr.trans (Dw := Dw) hr86 ht106
        replace hB := Nat.le_trans hB ht106.ex.size
        replace hA := ht106.new
        replace hH : Hp w.heap.size A76 w104 (obC b19 [.int .i64 0] 25 :: obC b14 [.int .i64 x78.from_] 3 :: obO l73 (.loop { rc74 with state := .busy }) :: L77) := hH105
        refine V_to (fun _ _ => rfl) ?_
        obtain ⟨rfl, rfl⟩ := Prod.mk.inj (Option.some.inj h85)
        refine C_ret (fun a ha107 => ?_)
        exact ⟨rfl, A76, hr86, Hp.pack (F := fun (i : Unit) => [obC b19 [.int .i64 (0, x78.from_).1] 25, obC b14 [.int .i64 (0, x78.from_).2] 3]) () hH⟩
      · intro hc113 D108 w109 A110 ht111 hH112 a ha114
        exact ⟨(D108, A110), ha114.sub ⟨rfl, rfl, trivial⟩, (by rw [hc113]; simp), hH112, ht111⟩
      · intro k115 hc113 D108 w109 A110 ht111 hH112
        by_cases hc116 : k115 = 0
        · subst hc116
          rw [if_pos hc113] at hm
          obtain ⟨_, hH112⟩ := Hp.open hH112
          replace hK := Tr.trans (Dw := Dw) hK ht111
          replace hB := Nat.le_trans hB ht111.ex.size
          replace hA := ht111.new
          replace hH : Hp w.heap.size A110 w109 (obC b19 [.int .i64 z68.1.1] 25 :: obC b14 [.int .i64 z68.1.2] 3 :: obO D108 (.deferred (some [])) :: []) := hH112
          show C _ _ .ret _ _ _
          obtain rfl := Option.some.inj hm
          have h117 := Hp.obj hH (i := 2) (b := D108) rfl
          obtain ⟨hH118, ht119⟩ := Hp.put (Dw := Dw) (.deferred none) hH (i := 2) (b := D108) rfl hB hA
          replace hK := Tr.trans (Dw := Dw) hK ht119
          replace hB := Nat.le_trans hB ht119.ex.size
          replace hA := ht119.new
          replace hH : Hp w.heap.size A110 (World.putObj w109 D108 (.deferred none)) (obC b19 [.int .i64 z68.1.1] 25 :: obC b14 [.int .i64 z68.1.2] 3 :: obO D108 (.deferred none) :: []) := hH118
          refine C_ret ?_
          try simp only [↓inBlock_ret, ↓then_ret]
          exact retM1 rfl h117 (Res.l2 Tryd.results33 (RL.cell rfl (loadVar_one (Hp.cell (j := 0) hH (i := 1) rfl rfl) Tryd.isAgg3)) (RL.cell rfl (loadVar_one (Hp.cell (j := 0) hH (i := 0) rfl rfl) Tryd.isAgg25))) ⟨rfl, hK.kp⟩
        · show C _ _ (if k115 = 0 then _ else _) _ _ _
          rw [if_neg hc116]
          refine C_exit fun a ha114 => ?_
          show Exit.inBlock _ _ _ _ _
          rw [Exit.inBlock, if_pos rfl]
          exact ⟨(D108, A110), ha114.sub ⟨rfl, rfl, trivial⟩, (by rw [hc113]; simpa using hc116), hH112, ht111⟩
    rintro ⟨D108, A110⟩ w109 ⟨hc120, hH112, ht111⟩ a ha114
    rw [if_neg hc120] at hm
    obtain ⟨_, hH112⟩ := Hp.open hH112
    replace hK := Tr.trans (Dw := Dw) hK ht111
    replace hB := Nat.le_trans hB ht111.ex.size
    replace hA := ht111.new
    replace hH : Hp w.heap.size A110 w109 (obC b19 [.int .i64 z68.1.1] 25 :: obC b14 [.int .i64 z68.1.2] 3 :: obO D108 (.deferred (some [])) :: []) := hH112
    refine C_at (n := ⟨23, [{ target := .collected D108, args := #[] }], none⟩) (fun _ _ => rfl) ?_ ha114
    refine C_seq ?_
    refine C_region ?_
    refine V_storeC (Dw := Dw) (off := 0) (ds := [.int .i64 0]) hH (i := 1) rfl Tryd.sizeOf3 rfl (Nat.le_of_ble_eq_true rfl) (by simp [Value.cells, Value.oneCell']) rfl hB hA rfl rfl ?_
    intro w121 hH122 ht123
    replace hK := Tr.trans (Dw := Dw) hK ht123
    replace hB := Nat.le_trans hB ht123.ex.size
    replace hA := ht123.new
    replace hH : Hp w.heap.size A110 w121 (obC b19 [.int .i64 z68.1.1] 25 :: obC b14 [.int .i64 0] 3 :: obO D108 (.deferred (some [])) :: []) := hH122
    refine V_storeC (Dw := Dw) (off := 0) (ds := [.int .i64 7]) hH (i := 0) rfl Tryd.sizeOf25 rfl (Nat.le_of_ble_eq_true rfl) (by simp [Value.cells, Value.oneCell']) rfl hB hA rfl rfl ?_
    intro w124 hH125 ht126
    replace hK := Tr.trans (Dw := Dw) hK ht126
    replace hB := Nat.le_trans hB ht126.ex.size
    replace hA := ht126.new
    replace hH : Hp w.heap.size A110 w124 (obC b19 [.int .i64 7] 25 :: obC b14 [.int .i64 0] 3 :: obO D108 (.deferred (some [])) :: []) := hH125
    refine V_to (fun _ _ => rfl) ?_
    obtain rfl := Option.some.inj hm
    have h127 := Hp.obj hH (i := 2) (b := D108) rfl
    obtain ⟨hH128, ht129⟩ := Hp.put (Dw := Dw) (.deferred none) hH (i := 2) (b := D108) rfl hB hA
    replace hK := Tr.trans (Dw := Dw) hK ht129
    replace hB := Nat.le_trans hB ht129.ex.size
    replace hA := ht129.new
    replace hH : Hp w.heap.size A110 (World.putObj w124 D108 (.deferred none)) (obC b19 [.int .i64 7] 25 :: obC b14 [.int .i64 0] 3 :: obO D108 (.deferred none) :: []) := hH128
    refine C_ret ?_
    try simp only [↓inBlock_ret, ↓then_ret]
    exact retM1 rfl h127 (Res.l2 Tryd.results33 (RL.cell rfl (loadVar_one (Hp.cell (j := 0) hH (i := 1) rfl rfl) Tryd.isAgg3)) (RL.cell rfl (loadVar_one (Hp.cell (j := 0) hH (i := 0) rfl rfl) Tryd.isAgg25))) ⟨rfl, hK.kp⟩

set_option maxRecDepth 4000 in
set_option maxHeartbeats 4000000 in
theorem route_turn_c (w : World) {A : Nat → Prop} (hA : ∀ b, w.heap.size ≤ b → A b) (c : cal_Calendar) (v_c0 : Value) (h_c0 : Sl A w v_c0 c.zone.changes) (v_c1 : Value) (h_c1 : Sl A w v_c1 c.week) (v_c2 : Value) (h_c2 : Sl A w v_c2 c.specials) (m : Int) {r : (Int × Int)} (hm : route_turn c m = some r) : Ret Tryd.prog 19 #[.agg #[.int .i64 c.zone.offset, v_c0, v_c1, v_c2], .int .i64 m] w fun v w' => v = .tuple #[.int .i64 r.1, .int .i64 r.2] ∧ Kp Dw w w' := by
  unfold route_turn at hm
  refine enter Tryd.func19 rfl Tryd.ntmps19 rfl ?_
  have hA0 := hA
  have hB := Nat.le_refl w.heap.size
  have hK : Tr Dw w.heap.size A w A w := Tr.refl (Dw := Dw) hA
  have hH : Hp w.heap.size A w [] := Hp.nil
  refine C_seq ?_
  refine C_region ?_
  refine V_box rfl rfl ?_
  intro b7 w9 h10
  have hk12 := h10.kp (Dw := Dw)
  have h11 : El (α := cal_Calendar) A w9 b7 0 c := h10.el hA ⟨[.int .i64 c.zone.offset, v_c0], _, rfl, ⟨[.int .i64 c.zone.offset], _, rfl, rfl, ⟨_, rfl, h_c0⟩⟩, ⟨[v_c1], _, rfl, ⟨_, rfl, h_c1⟩, ⟨_, rfl, h_c2⟩⟩⟩
  have ht13 := Kp.tr (Dw := Dw) hk12 hA hB
  replace hH := Hp.kp (Dw := Dw) hH hk12
  replace h_c0 := Sl.tr (Dw := Dw) h_c0 ht13
  replace h_c1 := Sl.tr (Dw := Dw) h_c1 ht13
  replace h_c2 := Sl.tr (Dw := Dw) h_c2 ht13
  replace hK := Tr.trans (Dw := Dw) hK ht13
  replace hB := Nat.le_trans hB ht13.ex.size
  replace hA := ht13.new
  refine V_y (Y_assign rfl) rfl rfl rfl ?_
  refine V_y (Y_assign rfl) rfl rfl rfl ?_
  refine V_to (fun _ _ => rfl) ?_
  refine C_seq ?_
  refine C_seq ?_
  refine C_region ?_
  obtain ⟨v14, v16, v18, h20, h15, h17, h19⟩ := El_cal_Calendar h11
  refine V_y (Y_loadA h20 Tryd.isAgg46 Tryd.sizeOf46 rfl) rfl rfl rfl ?_
  refine V_y (Y_move rfl) rfl rfl rfl ?_
  obtain ⟨x21, hx21, hm⟩ := Option.bind_eq_some_iff.1 hm
  refine V_call Tryd.call12 rfl rfl rfl rfl (cal_Open_c (Dw := Dw) w9 hA c v14 h15 v16 h17 v18 h19 m hx21) ?_
  rintro _ w22 ⟨rfl, hk23⟩
  have ht24 := Kp.tr (Dw := Dw) hk23 hA hB
  replace hH := Hp.kp (Dw := Dw) hH hk23
  replace h11 := El.tr (Dw := Dw) h11 ht24
  replace h15 := Sl.tr (Dw := Dw) h15 ht24
  replace h17 := Sl.tr (Dw := Dw) h17 ht24
  replace h19 := Sl.tr (Dw := Dw) h19 ht24
  replace hK := Tr.trans (Dw := Dw) hK ht24
  replace hB := Nat.le_trans hB ht24.ex.size
  replace hA := ht24.new
  refine V_y (Y_move rfl) rfl rfl rfl ?_
  refine V_y (Y_extract rfl rfl) rfl rfl rfl ?_
  refine V_y (Y_extract rfl rfl) rfl rfl rfl ?_
  refine V_y (Y_assign rfl) rfl rfl rfl ?_
  refine V_y (Y_assign rfl) rfl rfl rfl ?_
  refine V_to (fun _ _ => rfl) ?_
  refine C_seq ?_
  refine C_region ?_
  refine V_y (Y_move rfl) rfl rfl rfl ?_
  refine V_to (fun _ _ => rfl) ?_
  refine C_cond rfl (fun hc25 => ?_) (fun hc25 => ?_)
  · rw [if_pos hc25] at hm
    refine C_seq ?_
    refine C_region ?_
    obtain ⟨v26, v28, v30, h32, h27, h29, h31⟩ := El_cal_Calendar h11
    refine V_y (Y_loadA h32 Tryd.isAgg46 Tryd.sizeOf46 rfl) rfl rfl rfl ?_
    refine V_y (Y_move rfl) rfl rfl rfl ?_
    obtain ⟨x33, hx33, hm⟩ := Option.bind_eq_some_iff.1 hm
    refine V_call Tryd.call32 rfl rfl rfl rfl (cal_NextClosed_c (Dw := Dw) w22 hA c v26 h27 v28 h29 v30 h31 m hx33) ?_
    rintro _ w34 ⟨rfl, hk35⟩
    have ht36 := Kp.tr (Dw := Dw) hk35 hA hB
    replace hH := Hp.kp (Dw := Dw) hH hk35
    replace h11 := El.tr (Dw := Dw) h11 ht36
    replace h27 := Sl.tr (Dw := Dw) h27 ht36
    replace h29 := Sl.tr (Dw := Dw) h29 ht36
    replace h31 := Sl.tr (Dw := Dw) h31 ht36
    replace hK := Tr.trans (Dw := Dw) hK ht36
    replace hB := Nat.le_trans hB ht36.ex.size
    replace hA := ht36.new
    refine V_y (Y_extract rfl rfl) rfl rfl rfl ?_
    refine V_y (Y_extract rfl rfl) rfl rfl rfl ?_
    refine V_y (Y_assign rfl) rfl rfl rfl ?_
    refine V_y (Y_assign rfl) rfl rfl rfl ?_
    refine V_to (fun _ _ => rfl) ?_
    obtain rfl := Option.some.inj hm
    refine C_ret ?_
    try simp only [↓inBlock_ret, ↓then_ret]
    exact retQ rfl (Res.two Tryd.results19 rfl rfl) ⟨rfl, hK.kp⟩
  · rw [if_neg (nt hc25)] at hm
    refine C_skip_to (fun _ _ => rfl) ?_
    refine C_seq ?_
    refine C_region ?_
    obtain ⟨v37, v39, v41, h43, h38, h40, h42⟩ := El_cal_Calendar h11
    refine V_y (Y_loadA h43 Tryd.isAgg46 Tryd.sizeOf46 rfl) rfl rfl rfl ?_
    refine V_y (Y_move rfl) rfl rfl rfl ?_
    obtain ⟨x44, hx44, hm⟩ := Option.bind_eq_some_iff.1 hm
    refine V_call Tryd.call33 rfl rfl rfl rfl (cal_NextOpen_c (Dw := Dw) w22 hA c v37 h38 v39 h40 v41 h42 m hx44) ?_
    rintro _ w45 ⟨rfl, hk46⟩
    have ht47 := Kp.tr (Dw := Dw) hk46 hA hB
    replace hH := Hp.kp (Dw := Dw) hH hk46
    replace h11 := El.tr (Dw := Dw) h11 ht47
    replace h38 := Sl.tr (Dw := Dw) h38 ht47
    replace h40 := Sl.tr (Dw := Dw) h40 ht47
    replace h42 := Sl.tr (Dw := Dw) h42 ht47
    replace hK := Tr.trans (Dw := Dw) hK ht47
    replace hB := Nat.le_trans hB ht47.ex.size
    replace hA := ht47.new
    refine V_y (Y_extract rfl rfl) rfl rfl rfl ?_
    refine V_y (Y_extract rfl rfl) rfl rfl rfl ?_
    refine V_y (Y_assign rfl) rfl rfl rfl ?_
    refine V_y (Y_assign rfl) rfl rfl rfl ?_
    refine V_to (fun _ _ => rfl) ?_
    obtain rfl := Option.some.inj hm
    refine C_ret ?_
    try simp only [↓inBlock_ret, ↓then_ret]
    exact retQ rfl (Res.two Tryd.results19 rfl rfl) ⟨rfl, hK.kp⟩

set_option maxRecDepth 4000 in
set_option maxHeartbeats 4000000 in
theorem route_NextChange_c (w : World) {A : Nat → Prop} (hA : ∀ b, w.heap.size ≤ b → A b) (people : (List route_Person)) (v_people : Value) (h_people : Sl A w v_people people) (cals : (List cal_Calendar)) (v_cals : Value) (h_cals : Sl A w v_cals cals) (m : Int) {r : (Int × Int)} (hm : route_NextChange people cals m = some r) : Ret Tryd.prog 6 #[v_people, v_cals, .int .i64 m] w fun v w' => v = .tuple #[.int .i64 r.1, .int .i64 r.2] ∧ Kp Dw w w' := by
  unfold route_NextChange at hm
  refine enter Tryd.func6 rfl Tryd.ntmps6 rfl ?_
  have hA0 := hA
  have hB := Nat.le_refl w.heap.size
  have hK : Tr Dw w.heap.size A w A w := Tr.refl (Dw := Dw) hA
  have hH : Hp w.heap.size A w [] := Hp.nil
  refine C_seq ?_
  refine C_region ?_
  refine V_y (Y_assign rfl) rfl rfl rfl ?_
  refine V_y (Y_assign rfl) rfl rfl rfl ?_
  refine V_to (fun _ _ => rfl) ?_
  refine C_seq ?_
  refine C_seq ?_
  refine C_region ?_
  refine V_y (Y_move rfl) rfl rfl rfl ?_
  refine V_y (Y_move rfl) rfl rfl rfl ?_
  obtain ⟨x5, hx5, hm⟩ := Option.bind_eq_some_iff.1 hm
  refine V_call Tryd.call10 rfl rfl rfl rfl (route_checkCals_c (Dw := Dw) w hA people v_people h_people cals v_cals h_cals hx5) ?_
  rintro _ w6 ⟨rfl, hk7⟩
  have ht8 := Kp.tr (Dw := Dw) hk7 hA hB
  replace hH := Hp.kp (Dw := Dw) hH hk7
  replace h_people := Sl.tr (Dw := Dw) h_people ht8
  replace h_cals := Sl.tr (Dw := Dw) h_cals ht8
  replace hK := Tr.trans (Dw := Dw) hK ht8
  replace hB := Nat.le_trans hB ht8.ex.size
  replace hA := ht8.new
  refine V_y (Y_move rfl) rfl rfl rfl ?_
  refine V_call Tryd.call11 rfl rfl rfl rfl (route_moment_c w6 m) ?_
  rintro _ _ ⟨rfl, rfl⟩
  refine V_buildSlice (Dw := Dw) (cells := #[.int .i64 x5, .int .i64 (route_moment m)]) (l := ([x5, (route_moment m)] : List Int)) (len := 2) Tryd.underlying55 Tryd.sizeOf25 Tryd.zeroValue25 rfl (by generalize ((route_moment m) : Int) = z13; kernel_rfl) (show (2 * 1 : Nat) ≠ 0 by decide) (show (2 * 1 : Nat) ≤ 2 ^ 24 by decide) hA ⟨[.int .i64 x5], _, rfl, rfl, ⟨[.int .i64 (route_moment m)], _, rfl, rfl, rfl⟩⟩ rfl rfl ?_
  intro v9 w10 hk12 h11
  have ht14 := Kp.tr (Dw := Dw) hk12 hA hB
  replace hH := Hp.kp (Dw := Dw) hH hk12
  replace h_people := Sl.tr (Dw := Dw) h_people ht14
  replace h_cals := Sl.tr (Dw := Dw) h_cals ht14
  replace hK := Tr.trans (Dw := Dw) hK ht14
  replace hB := Nat.le_trans hB ht14.ex.size
  replace hA := ht14.new
  obtain ⟨x15, hx15, hm⟩ := Option.bind_eq_some_iff.1 hm
  refine V_call Tryd.call9 rfl rfl rfl rfl (cmp_Or_api_Errno_c w10 ([x5, (route_moment m)] : List Int) v9 h11 hx15) ?_
  rintro _ _ ⟨rfl, rfl⟩
  refine V_y (Y_assign rfl) rfl rfl rfl ?_
  refine V_to (fun _ _ => rfl) ?_
  refine C_seq ?_
  refine C_region ?_
  refine V_y (Y_move rfl) rfl rfl rfl ?_
  refine V_y (Y_neq rfl rfl) rfl rfl rfl ?_
  refine V_to (fun _ _ => rfl) ?_
  refine C_cond rfl (fun hc16 => ?_) (fun hc16 => ?_)
  · rw [if_pos hc16] at hm
    refine C_seq ?_
    refine C_region ?_
    refine V_y (Y_move rfl) rfl rfl rfl ?_
    refine V_y (Y_assign rfl) rfl rfl rfl ?_
    refine V_y (Y_assign rfl) rfl rfl rfl ?_
    refine V_to (fun _ _ => rfl) ?_
    obtain rfl := Option.some.inj hm
    refine C_ret ?_
    try simp only [↓inBlock_ret, ↓then_ret]
    exact retQ rfl (Res.two Tryd.results6 rfl rfl) ⟨rfl, hK.kp⟩
  · rw [if_neg (nt hc16)] at hm
    refine C_skip_to (fun _ _ => rfl) ?_
    refine C_seq ?_
    refine C_region ?_
    refine V_y (Y_assign rfl) rfl rfl rfl ?_
    refine V_to (fun _ _ => rfl) ?_
    refine C_seq ?_
    refine C_seq ?_
    refine C_region ?_
    refine V_y (Y_move rfl) rfl rfl rfl ?_
    refine V_y (Y_lenSl h_cals rfl Tryd.underlying23 rfl) rfl rfl rfl ?_
    refine V_y (Y_move rfl) rfl rfl rfl ?_
    refine V_to (fun _ _ => rfl) ?_
    have hn37 := Sl.le h_cals
    obtain ⟨o17, ho17, hm⟩ := Option.bind_eq_some_iff.1 hm
    refine C_cutG (ι := (Int × (Nat → Prop))) (fun ⟨s18, A24⟩ => [(9, .int .i64 s18)]) (fun ⟨s18, A24⟩ => fun w' => o17 = .fin s18 ∧ Hp w.heap.size A24 w' ([]) ∧ Tr Dw w.heap.size A w10 A24 w') ?_ ?_
    · refine C_block ?_
      refine C_range ho17 (fun k20 s26 a w' => ∃ i : (Nat → Prop), Has ⟨57, [], none⟩ a ([(0, v_people), (2, .int .i64 m), (9, .int .i64 s26), (24, v_cals), (25, .int .i64 (cals.length : Int)), (26, .int .i64 (k20 : Int))]) ∧ Hp w.heap.size i w' ([]) ∧ Tr Dw w.heap.size A w10 i w') (fun a ha => ⟨A, ha.sub ⟨rfl, rfl, rfl, rfl, rfl, rfl, trivial⟩, ⟨hH, Tr.refl (Dw := Dw) hA⟩⟩) ?_
      rintro K k20 s26 a w27 ⟨A28, ha136, hH29, hr19⟩ hle33 K36 h35
      refine C_of ?_ ha136
      replace h_people := Sl.tr (Dw := Dw) h_people hr19
      replace h_cals := Sl.tr (Dw := Dw) h_cals hr19
      replace hK := Tr.trans (Dw := Dw) hK hr19
      replace hB := Nat.le_trans hB hr19.ex.size
      replace hA := hr19.new
      replace hH : Hp w.heap.size A28 w27 ([]) := hH29
      refine C_seq (C_region (V_y (Y_lss rfl rfl) rfl rfl rfl (V_to (fun _ _ => rfl) ?_)))
      refine C_seq ?_
      refine C_cond rfl (fun hc38 => ?_) (fun hc38 => ?_)
      · have hlt34 := lt_of_dec hc38
        obtain ⟨x30, h31, h32⟩ := K36 hlt34
        refine C_skip_to (fun _ _ => rfl) ?_
        refine C_seq ?_
        obtain ⟨s40, ho39, h31⟩ := Option.bind_eq_some_iff.1 h31
        refine C_cutG (ι := (Nat → Prop)) (fun (A45 : (Nat → Prop)) => [(0, v_people), (2, .int .i64 m), (9, .int .i64 s40), (24, v_cals), (25, .int .i64 (cals.length : Int)), (26, .int .i64 (k20 : Int))]) (fun (A45 : (Nat → Prop)) => fun w' => Hp w.heap.size A45 w' ([]) ∧ Tr Dw w.heap.size A28 w27 A45 w') ?_ ?_
        · have hr41 : Tr Dw w.heap.size A28 w27 A28 w27 := Tr.refl (Dw := Dw) hA
          refine C_block ?_
          refine C_seq ?_
          refine C_region ?_
          refine V_y (Y_move rfl) rfl rfl rfl ?_
          obtain ⟨x47, hx47, ho39⟩ := Option.bind_eq_some_iff.1 ho39
          refine V_indexAddr h_cals hx47 Tryd.underlying23 Tryd.sizeOf46 rfl rfl rfl ?_
          intro b48 o49 h50
          obtain ⟨v51, v53, v55, h57, h52, h54, h56⟩ := El_cal_Calendar h50
          refine V_y (Y_loadA h57 Tryd.isAgg46 Tryd.sizeOf46 rfl) rfl rfl rfl ?_
          refine V_allocH (Dw := Dw) (B := w.heap.size) hH Tryd.zeroValue3 hB hA rfl ?_
          intro b58 w59 A60 hH61 ht62
          replace h_people := Sl.tr (Dw := Dw) h_people ht62
          replace h_cals := Sl.tr (Dw := Dw) h_cals ht62
          replace h50 := El.tr (Dw := Dw) h50 ht62
          replace h52 := Sl.tr (Dw := Dw) h52 ht62
          replace h54 := Sl.tr (Dw := Dw) h54 ht62
          replace h56 := Sl.tr (Dw := Dw) h56 ht62
          replace hK := Tr.trans (Dw := Dw) hK ht62
          replace hr19 := Tr.trans (Dw := Dw) hr19 ht62
          replace hr41 := Tr.trans (Dw := Dw) hr41 ht62
          replace hB := Nat.le_trans hB ht62.ex.size
          replace hA := ht62.new
          replace hH : Hp w.heap.size A60 w59 (obC b58 [.int .i64 0] 3 :: []) := hH61
          refine V_allocH (Dw := Dw) (B := w.heap.size) hH Tryd.zeroValue46 hB hA rfl ?_
          intro b63 w65 A66 hH67 ht68
          replace h_people := Sl.tr (Dw := Dw) h_people ht68
          replace h_cals := Sl.tr (Dw := Dw) h_cals ht68
          replace h50 := El.tr (Dw := Dw) h50 ht68
          replace h52 := Sl.tr (Dw := Dw) h52 ht68
          replace h54 := Sl.tr (Dw := Dw) h54 ht68
          replace h56 := Sl.tr (Dw := Dw) h56 ht68
          replace hK := Tr.trans (Dw := Dw) hK ht68
          replace hr19 := Tr.trans (Dw := Dw) hr19 ht68
          replace hr41 := Tr.trans (Dw := Dw) hr41 ht68
          replace hB := Nat.le_trans hB ht68.ex.size
          replace hA := ht68.new
          replace hH : Hp w.heap.size A66 w65 (obC b63 [.int .i64 0, .slice none 0 0, .slice none 0 0, .slice none 0 0] 46 :: obC b58 [.int .i64 0] 3 :: []) := hH67
          refine V_storeC (Dw := Dw) (off := 0) (ds := [.int .i64 (k20 : Int)]) hH (i := 1) rfl Tryd.sizeOf3 rfl (Nat.le_of_ble_eq_true rfl) (by simp [Value.cells, Value.oneCell']) rfl hB hA rfl rfl ?_
          intro w69 hH70 ht71
          replace h_people := Sl.tr (Dw := Dw) h_people ht71
          replace h_cals := Sl.tr (Dw := Dw) h_cals ht71
          replace h50 := El.tr (Dw := Dw) h50 ht71
          replace h52 := Sl.tr (Dw := Dw) h52 ht71
          replace h54 := Sl.tr (Dw := Dw) h54 ht71
          replace h56 := Sl.tr (Dw := Dw) h56 ht71
          replace hK := Tr.trans (Dw := Dw) hK ht71
          replace hr19 := Tr.trans (Dw := Dw) hr19 ht71
          replace hr41 := Tr.trans (Dw := Dw) hr41 ht71
          replace hB := Nat.le_trans hB ht71.ex.size
          replace hA := ht71.new
          replace hH : Hp w.heap.size A66 w69 (obC b63 [.int .i64 0, .slice none 0 0, .slice none 0 0, .slice none 0 0] 46 :: obC b58 [.int .i64 (k20 : Int)] 3 :: []) := hH70
          obtain ⟨A72, ht73, h74, hH75⟩ := Hp.freezeC (Dw := Dw) (α := Int) (x := (k20 : Int)) hH (i := 1) rfl hA (by exact rfl)
          replace h_people := Sl.tr (Dw := Dw) h_people ht73
          replace h_cals := Sl.tr (Dw := Dw) h_cals ht73
          replace h50 := El.tr (Dw := Dw) h50 ht73
          replace h52 := Sl.tr (Dw := Dw) h52 ht73
          replace h54 := Sl.tr (Dw := Dw) h54 ht73
          replace h56 := Sl.tr (Dw := Dw) h56 ht73
          replace hK := Tr.trans (Dw := Dw) hK ht73
          replace hr19 := Tr.trans (Dw := Dw) hr19 ht73
          replace hr41 := Tr.trans (Dw := Dw) hr41 ht73
          replace hB := Nat.le_trans hB ht73.ex.size
          replace hA := ht73.new
          replace hH : Hp w.heap.size A72 w69 (obC b63 [.int .i64 0, .slice none 0 0, .slice none 0 0, .slice none 0 0] 46 :: []) := hH75
          have h81 : (v51).oneCell' = true := by obtain ⟨_, _, e, _⟩ := Sl.form h52; rw [e]; rfl
          have h84 : (v53).oneCell' = true := by obtain ⟨_, _, e, _⟩ := Sl.form h54; rw [e]; rfl
          have h87 : (v55).oneCell' = true := by obtain ⟨_, _, e, _⟩ := Sl.form h56; rw [e]; rfl
          refine V_storeC (Dw := Dw) (off := 0) (ds := [.int .i64 x47.zone.offset, v51, v53, v55]) hH (i := 0) rfl Tryd.sizeOf46 rfl (Nat.le_of_ble_eq_true rfl) (by exact (List.forall_mem_cons.2 ⟨rfl, (List.forall_mem_cons.2 ⟨h81, (List.forall_mem_cons.2 ⟨h84, (List.forall_mem_cons.2 ⟨h87, (fun _ h => nomatch h)⟩)⟩)⟩)⟩)) rfl hB hA rfl rfl ?_
          intro w76 hH77 ht78
          replace h_people := Sl.tr (Dw := Dw) h_people ht78
          replace h_cals := Sl.tr (Dw := Dw) h_cals ht78
          replace h50 := El.tr (Dw := Dw) h50 ht78
          replace h52 := Sl.tr (Dw := Dw) h52 ht78
          replace h54 := Sl.tr (Dw := Dw) h54 ht78
          replace h56 := Sl.tr (Dw := Dw) h56 ht78
          replace h74 := El.tr (Dw := Dw) h74 ht78
          replace hK := Tr.trans (Dw := Dw) hK ht78
          replace hr19 := Tr.trans (Dw := Dw) hr19 ht78
          replace hr41 := Tr.trans (Dw := Dw) hr41 ht78
          replace hB := Nat.le_trans hB ht78.ex.size
          replace hA := ht78.new
          replace hH : Hp w.heap.size A72 w76 (obC b63 [.int .i64 x47.zone.offset, v51, v53, v55] 46 :: []) := hH77
          obtain ⟨A88, ht89, h90, hH91⟩ := Hp.freezeC (Dw := Dw) (α := cal_Calendar) (x := x47) hH (i := 0) rfl hA (by exact ⟨[.int .i64 x47.zone.offset, v51], _, rfl, ⟨[.int .i64 x47.zone.offset], _, rfl, rfl, ⟨_, rfl, h52⟩⟩, ⟨[v53], _, rfl, ⟨_, rfl, h54⟩, ⟨_, rfl, h56⟩⟩⟩)
          replace h_people := Sl.tr (Dw := Dw) h_people ht89
          replace h_cals := Sl.tr (Dw := Dw) h_cals ht89
          replace h50 := El.tr (Dw := Dw) h50 ht89
          replace h52 := Sl.tr (Dw := Dw) h52 ht89
          replace h54 := Sl.tr (Dw := Dw) h54 ht89
          replace h56 := Sl.tr (Dw := Dw) h56 ht89
          replace h74 := El.tr (Dw := Dw) h74 ht89
          replace hK := Tr.trans (Dw := Dw) hK ht89
          replace hr19 := Tr.trans (Dw := Dw) hr19 ht89
          replace hr41 := Tr.trans (Dw := Dw) hr41 ht89
          replace hB := Nat.le_trans hB ht89.ex.size
          replace hA := ht89.new
          replace hH : Hp w.heap.size A88 w76 ([]) := hH91
          refine V_to (fun _ _ => rfl) ?_
          refine C_seq ?_
          refine C_seq ?_
          refine C_region ?_
          refine V_y (Y_move rfl) rfl rfl rfl ?_
          refine V_y (Y_makeFunc rfl rfl) rfl rfl rfl ?_
          obtain ⟨x93, hx93, ho39⟩ := Option.bind_eq_some_iff.1 ho39
          refine V_call Tryd.call17 rfl rfl rfl rfl (slices_ContainsFunc_Lroute_Person_route_Person_c (Dw := Dw) w76 hA people v_people h_people (fun y103 => route_NextChange_1 y103 (k20 : Int)) 18 #[] #[.pointer (some ⟨b58, 0, none⟩)] Tryd.call18 (fun w99 A100 ht101 h102 y94 v95 h96 r97 h98 => (route_NextChange_1_c (Dw := Dw) w99 h102 y94 v95 h96 (k20 : Int) b58 (El.tr (Dw := Dw) h74 ht101) h98).mono (fun _ _ h => ⟨h.1, h.2⟩)) hx93) ?_
          rintro _ w104 ⟨rfl, hk105⟩
          have ht106 := Kp.tr (Dw := Dw) hk105 hA hB
          replace hH := Hp.kp (Dw := Dw) hH hk105
          replace h_people := Sl.tr (Dw := Dw) h_people ht106
          replace h_cals := Sl.tr (Dw := Dw) h_cals ht106
          replace h74 := El.tr (Dw := Dw) h74 ht106
          replace h90 := El.tr (Dw := Dw) h90 ht106
          replace hK := Tr.trans (Dw := Dw) hK ht106
          replace hr19 := Tr.trans (Dw := Dw) hr19 ht106
          replace hr41 := Tr.trans (Dw := Dw) hr41 ht106
          replace hB := Nat.le_trans hB ht106.ex.size
          replace hA := ht106.new
          refine V_y (Y_not rfl) rfl rfl rfl ?_
          refine V_to (fun _ _ => rfl) ?_
          refine C_cond rfl (fun hc107 => ?_) (fun hc107 => ?_)
          · rw [if_pos hc107] at ho39
            obtain rfl := Option.some.inj ho39
            refine C_exit (fun a ha108 => ?_)
            exact ⟨A88, ha108.sub ⟨rfl, rfl, rfl, rfl, rfl, rfl, trivial⟩, ⟨hH, hr41⟩⟩
          · rw [if_neg (nt hc107)] at ho39
            refine C_skip_to (fun _ _ => rfl) ?_
            refine C_seq ?_
            refine C_region ?_
            obtain ⟨v109, v111, v113, h115, h110, h112, h114⟩ := El_cal_Calendar h90
            refine V_y (Y_loadA h115 Tryd.isAgg46 Tryd.sizeOf46 rfl) rfl rfl rfl ?_
            refine V_y (Y_move rfl) rfl rfl rfl ?_
            obtain ⟨x116, hx116, ho39⟩ := Option.bind_eq_some_iff.1 ho39
            refine V_call Tryd.call19 rfl rfl rfl rfl (route_turn_c (Dw := Dw) w104 hA x47 v109 h110 v111 h112 v113 h114 m hx116) ?_
            rintro _ w117 ⟨rfl, hk118⟩
            have ht119 := Kp.tr (Dw := Dw) hk118 hA hB
            replace hH := Hp.kp (Dw := Dw) hH hk118
            replace h_people := Sl.tr (Dw := Dw) h_people ht119
            replace h_cals := Sl.tr (Dw := Dw) h_cals ht119
            replace h90 := El.tr (Dw := Dw) h90 ht119
            replace h110 := Sl.tr (Dw := Dw) h110 ht119
            replace h112 := Sl.tr (Dw := Dw) h112 ht119
            replace h114 := Sl.tr (Dw := Dw) h114 ht119
            replace hK := Tr.trans (Dw := Dw) hK ht119
            replace hr19 := Tr.trans (Dw := Dw) hr19 ht119
            replace hr41 := Tr.trans (Dw := Dw) hr41 ht119
            replace hB := Nat.le_trans hB ht119.ex.size
            replace hA := ht119.new
            refine V_y (Y_move rfl) rfl rfl rfl ?_
            refine V_y (Y_extract rfl rfl) rfl rfl rfl ?_
            refine V_y (Y_extract rfl rfl) rfl rfl rfl ?_
            refine V_y (Y_assign rfl) rfl rfl rfl ?_
            refine V_y (Y_assign rfl) rfl rfl rfl ?_
            refine V_to (fun _ _ => rfl) ?_
            refine C_seq ?_
            refine C_region ?_
            refine V_y (Y_move rfl) rfl rfl rfl ?_
            refine V_y (Y_eql rfl rfl) rfl rfl rfl ?_
            refine V_y (Y_move rfl) rfl rfl rfl ?_
            refine V_cut 8 (fun _ : Unit => [(0, v_people), (2, .int .i64 m), (9, .int .i64 s26), (12, .int .i64 x116.1), (24, v_cals), (25, .int .i64 (cals.length : Int)), (26, .int .i64 (k20 : Int)), (51, .bool ((x116.2 == 0) && ((decide (s26 < 0)) || (decide (x116.1 < s26)))))]) (fun _ w' => w117 = w') ?_ ?_
            · simp only [List.take, List.drop]
              rcases Bool.eq_false_or_eq_true (x116.2 == 0) with hc120 | hc120
              · refine V_ge rfl rfl rfl hc120 ?_
                refine V_y (Y_move rfl) rfl rfl rfl ?_
                refine V_ge rfl rfl rfl hc120 ?_
                refine V_y (Y_lss rfl rfl) rfl rfl rfl ?_
                refine V_ge rfl rfl rfl hc120 ?_
                refine V_y (Y_move rfl) rfl rfl rfl ?_
                refine V_cut 4 (fun _ : Unit => [(0, v_people), (2, .int .i64 m), (9, .int .i64 s26), (12, .int .i64 x116.1), (24, v_cals), (25, .int .i64 (cals.length : Int)), (26, .int .i64 (k20 : Int)), (43, .bool (x116.2 == 0)), (50, .bool ((decide (s26 < 0)) || (decide (x116.1 < s26))))]) (fun _ w' => w117 = w') ?_ ?_
                · simp only [List.take, List.drop]
                  rcases Bool.eq_false_or_eq_true (decide (s26 < 0)) with hc122 | hc122
                  · refine V_gn rfl rfl rfl hc122 rfl rfl rfl ?_
                    refine V_gn rfl rfl rfl hc122 rfl rfl rfl ?_
                    refine V_gn rfl rfl rfl hc122 rfl rfl rfl ?_
                    refine V_ge rfl rfl rfl hc120 ?_
                    refine V_y (Y_pick_te rfl hc122 rfl) rfl rfl rfl ?_
                    exact V_end fun a ha => ⟨(), ha.sub ⟨rfl, rfl, rfl, rfl, rfl, rfl, rfl, rfl, (by rw [hc122]; rfl), trivial⟩, rfl⟩
                  · refine V_ge rfl rfl rfl hc122 ?_
                    refine V_y (Y_move rfl) rfl rfl rfl ?_
                    refine V_ge rfl rfl rfl hc122 ?_
                    refine V_y (Y_move rfl) rfl rfl rfl ?_
                    refine V_ge rfl rfl rfl hc122 ?_
                    refine V_y (Y_lss rfl rfl) rfl rfl rfl ?_
                    refine V_ge rfl rfl rfl hc120 ?_
                    refine V_y (Y_pick_fe rfl hc122 rfl) rfl rfl rfl ?_
                    exact V_end fun a ha => ⟨(), ha.sub ⟨rfl, rfl, rfl, rfl, rfl, rfl, rfl, rfl, (by rw [hc122]; rfl), trivial⟩, rfl⟩
                simp only [List.take, List.drop]
                rintro _ _ rfl
                refine V_y (Y_pick_te rfl hc120 rfl) rfl rfl rfl ?_
                exact V_end fun a ha => ⟨(), ha.sub ⟨rfl, rfl, rfl, rfl, rfl, rfl, rfl, (by rw [hc120]; rfl), trivial⟩, rfl⟩
              · refine V_gn rfl rfl rfl hc120 rfl rfl rfl ?_
                refine V_gn rfl rfl rfl hc120 rfl rfl rfl ?_
                refine V_gn rfl rfl rfl hc120 rfl rfl rfl ?_
                refine V_gu rfl rfl rfl rfl rfl ?_
                refine V_gu rfl rfl rfl rfl rfl ?_
                refine V_gu rfl rfl rfl rfl rfl ?_
                refine V_gn rfl rfl rfl hc120 rfl rfl rfl ?_
                refine V_y (Y_pick_fe rfl hc120 rfl) rfl rfl rfl ?_
                exact V_end fun a ha => ⟨(), ha.sub ⟨rfl, rfl, rfl, rfl, rfl, rfl, rfl, (by rw [hc120]; rfl), trivial⟩, rfl⟩
            simp only [List.take, List.drop]
            rintro _ _ rfl
            refine V_to (fun _ _ => rfl) ?_
            obtain ⟨s125, ho124, ho39⟩ := Option.bind_eq_some_iff.1 ho39
            refine C_cutG (ι := Unit) (fun (_ : Unit) => [(0, v_people), (2, .int .i64 m), (9, .int .i64 s125), (24, v_cals), (25, .int .i64 (cals.length : Int)), (26, .int .i64 (k20 : Int))]) (fun (_ : Unit) => fun w' => w117 = w') ?_ ?_
            · refine C_cond rfl (fun hc130 => ?_) (fun hc130 => ?_)
              · rw [if_pos hc130] at ho124
                refine C_region ?_
                refine V_y (Y_move rfl) rfl rfl rfl ?_
                refine V_y (Y_assign rfl) rfl rfl rfl ?_
                obtain rfl := Option.some.inj ho124
                refine V_end (fun a ha131 => ?_)
                exact ⟨(), ha131.sub ⟨rfl, rfl, rfl, rfl, rfl, rfl, trivial⟩, rfl⟩
              · rw [if_neg (nt hc130)] at ho124
                obtain rfl := Option.some.inj ho124
                refine C_skip (fun a ha132 => ?_)
                exact ⟨(), ha132.sub ⟨rfl, rfl, rfl, rfl, rfl, rfl, trivial⟩, rfl⟩
            rintro _ _ rfl a ha129
            obtain rfl := Option.some.inj ho39
            exact ⟨A88, ha129.sub ⟨rfl, rfl, rfl, rfl, rfl, rfl, trivial⟩, ⟨hH, hr41⟩⟩
        rintro A45 w42 ⟨hH46, hk43⟩ a ha44
        replace h_people := Sl.tr (Dw := Dw) h_people hk43
        replace h_cals := Sl.tr (Dw := Dw) h_cals hk43
        replace hK := Tr.trans (Dw := Dw) hK hk43
        replace hr19 := Tr.trans (Dw := Dw) hr19 hk43
        replace hB := Nat.le_trans hB hk43.ex.size
        replace hA := hk43.new
        replace hH : Hp w.heap.size A45 w42 ([]) := hH46
        refine C_at (n := ⟨57, [], none⟩) (fun _ _ => rfl) ?_ ha44
        refine C_region ?_
        refine V_y (Y_addI rfl rfl) rfl rfl rfl ?_
        refine V_y (Y_move rfl) rfl rfl rfl ?_
        obtain rfl := Option.some.inj h31
        refine V_end (fun a ha134 => ?_)
        exact ⟨s40, hlt34, h32, ⟨A45, ha134.sub ⟨rfl, rfl, rfl, rfl, rfl, (congrArg (fun z => some (Value.int .i64 z)) (w64_succ hlt34 hn37)), trivial⟩, ⟨hH, hr19⟩⟩⟩
      · refine C_exit (fun a ha135 => ?_)
        exact ⟨(s26, A28), ha135.sub ⟨rfl, trivial⟩, ⟨(h35 (eq_of_dec hle33 hc38)).symm, hH, hr19⟩⟩
    rintro ⟨s18, A24⟩ w21 ⟨rfl, hH25, hk22⟩ a ha23
    rw [Lp.andThen_fin] at hm
    replace hK := Tr.trans (Dw := Dw) hK hk22
    replace hB := Nat.le_trans hB hk22.ex.size
    replace hA := hk22.new
    replace hH : Hp w.heap.size A24 w21 ([]) := hH25
    refine C_at (n := ⟨57, [], none⟩) (fun _ _ => rfl) ?_ ha23
    refine C_seq ?_
    refine C_seq ?_
    refine C_region ?_
    refine V_y (Y_move rfl) rfl rfl rfl ?_
    refine V_y (Y_lss rfl rfl) rfl rfl rfl ?_
    refine V_to (fun _ _ => rfl) ?_
    refine C_cond rfl (fun hc137 => ?_) (fun hc137 => ?_)
    · rw [if_pos hc137] at hm
      refine C_seq ?_
      refine C_region ?_
      refine V_y (Y_assign rfl) rfl rfl rfl ?_
      refine V_y (Y_assign rfl) rfl rfl rfl ?_
      refine V_to (fun _ _ => rfl) ?_
      obtain rfl := Option.some.inj hm
      refine C_ret ?_
      try simp only [↓inBlock_ret, ↓then_ret]
      exact retQ rfl (Res.two Tryd.results6 rfl rfl) ⟨rfl, hK.kp⟩
    · rw [if_neg (nt hc137)] at hm
      refine C_skip_to (fun _ _ => rfl) ?_
      refine C_seq ?_
      refine C_region ?_
      refine V_y (Y_move rfl) rfl rfl rfl ?_
      refine V_y (Y_assign rfl) rfl rfl rfl ?_
      refine V_y (Y_assign rfl) rfl rfl rfl ?_
      refine V_to (fun _ _ => rfl) ?_
      obtain rfl := Option.some.inj hm
      refine C_ret ?_
      try simp only [↓inBlock_ret, ↓then_ret]
      exact retQ rfl (Res.two Tryd.results6 rfl rfl) ⟨rfl, hK.kp⟩

set_option maxRecDepth 4000 in
set_option maxHeartbeats 4000000 in
theorem portref2_duty_change_c (w : World) {A : Nat → Prop} {B : Nat} (hB : B ≤ w.heap.size) (hA : ∀ b, w.heap.size ≤ b → A b) (d : portref2_duty) (b_d : Nat) (v_d0 : Value) (h_d0 : Sl A w v_d0 d.people) (v_d1 : Value) (m_d0 : Nat) (m : Int) (to_ : Int) {L : List Ob} (hH : Hp B A w (obC b_d [v_d0, v_d1, .map (some m_d0)] 70 :: obPS (obCk 86 portref2_ShiftsIn) 71 v_d1 d.clocks :: obSM (κ := Int) (α := Bool) m_d0 d.away :: L)) {r : Int} (hm : portref2_duty_change d m to_ = some r) : Ret Tryd.prog 20 #[.pointer (some ⟨b_d, 0, none⟩), .int .i64 m, .int .i64 to_] w fun v w' => ∃ A1 : Nat → Prop, v = .int .i64 r ∧ Hp B A1 w' (obC b_d [v_d0, v_d1, .map (some m_d0)] 70 :: obPS (obCk 86 portref2_ShiftsIn) 71 v_d1 d.clocks :: obSM (κ := Int) (α := Bool) m_d0 d.away :: L) ∧ Tr Dw B A w A1 w' := by
  unfold portref2_duty_change at hm
  refine enter Tryd.func20 rfl Tryd.ntmps20 rfl ?_
  have hK : Tr Dw B A w A w := Tr.refl (Dw := Dw) hA
  refine C_seq ?_
  refine C_region ?_
  refine V_y (Y_assign rfl) rfl rfl rfl ?_
  refine V_to (fun _ _ => rfl) ?_
  refine C_seq ?_
  refine C_seq ?_
  refine C_region ?_
  refine V_y (Y_move rfl) rfl rfl rfl ?_
  refine V_y (Y_addI rfl rfl) rfl rfl rfl ?_
  refine V_y (Y_assign rfl) rfl rfl rfl ?_
  refine V_to (fun _ _ => rfl) ?_
  obtain ⟨o6, ho6, hm⟩ := Option.bind_eq_some_iff.1 hm
  refine C_cutG (ι := (Int × (Nat → Prop))) (fun ⟨s7, A13⟩ => []) (fun ⟨s7, A13⟩ => fun w' => o6 = .fin s7 ∧ Hp B A13 w' (obC b_d [v_d0, v_d1, .map (some m_d0)] 70 :: obPS (obCk 86 portref2_ShiftsIn) 71 v_d1 d.clocks :: obSM (κ := Int) (α := Bool) m_d0 d.away :: L) ∧ Tr Dw B A w A13 w') ?_ ?_
  · refine C_block ?_
    refine C_while ho6 (fun s15 a w' => ∃ i : (Nat → Prop), Has ⟨50, [], none⟩ a ([(0, .pointer (some ⟨b_d, 0, none⟩)), (2, .int .i64 to_), (7, .int .i64 s15)]) ∧ Hp B i w' (obC b_d [v_d0, v_d1, .map (some m_d0)] 70 :: obPS (obCk 86 portref2_ShiftsIn) 71 v_d1 d.clocks :: obSM (κ := Int) (α := Bool) m_d0 d.away :: L) ∧ Tr Dw B A w i w') (fun a ha => ⟨A, ha.sub ⟨rfl, rfl, rfl, trivial⟩, ⟨hH, Tr.refl (Dw := Dw) hA⟩⟩) ?_
    rintro K s15 a w17 ⟨A18, ha116, hH19, hr8⟩ K26
    refine C_of ?_ ha116
    replace h_d0 := Sl.tr (Dw := Dw) h_d0 hr8
    replace hK := Tr.trans (Dw := Dw) hK hr8
    replace hB := Nat.le_trans hB hr8.ex.size
    replace hA := hr8.new
    replace hH : Hp B A18 w17 (obC b_d [v_d0, v_d1, .map (some m_d0)] 70 :: obPS (obCk 86 portref2_ShiftsIn) 71 v_d1 d.clocks :: obSM (κ := Int) (α := Bool) m_d0 d.away :: L) := hH19
    obtain ⟨x20, h21, h22⟩ := K26
    refine C_seq ?_
    refine C_seq ?_
    refine C_region ?_
    refine V_y (Y_move rfl) rfl rfl rfl ?_
    refine V_y (Y_move rfl) rfl rfl rfl ?_
    refine V_y (Y_leq rfl rfl) rfl rfl rfl ?_
    refine V_to (fun _ _ => rfl) ?_
    refine C_cond rfl (fun hc27 => ?_) (fun hc27 => ?_)
    · rw [if_pos hc27] at h21
      refine C_skip_to (fun _ _ => rfl) ?_
      refine C_seq ?_
      obtain ⟨o28, ho28, h21⟩ := Option.bind_eq_some_iff.1 h21
      refine C_cutG (ι := (Unit × (Nat → Prop))) (fun ⟨s29, A34⟩ => [(0, .pointer (some ⟨b_d, 0, none⟩)), (2, .int .i64 to_), (7, .int .i64 s15)]) (fun ⟨s29, A34⟩ => fun w' => o28 = .fin s29 ∧ Hp B A34 w' (obC b_d [v_d0, v_d1, .map (some m_d0)] 70 :: obPS (obCk 86 portref2_ShiftsIn) 71 v_d1 d.clocks :: obSM (κ := Int) (α := Bool) m_d0 d.away :: L) ∧ Tr Dw B A18 w17 A34 w') ?_ ?_
      · have hr30 : Tr Dw B A18 w17 A18 w17 := Tr.refl (Dw := Dw) hA
        refine C_block ?_
        refine C_seq ?_
        refine C_region ?_
        refine V_y (Y_move rfl) rfl rfl rfl ?_
        refine V_y (Y_nilCheck rfl) rfl rfl rfl ?_
        refine V_y (Y_fieldAddrC (off2 := 0) Tryd.underlying70 rfl Tryd.sizeOf22 (by decide) rfl rfl) rfl rfl rfl ?_
        refine V_y (Y_load (Hp.cell (j := 0) hH (i := 0) rfl rfl) Tryd.isAgg22 rfl) rfl rfl rfl ?_
        refine V_y (Y_lenSl h_d0 rfl Tryd.underlying22 rfl) rfl rfl rfl ?_
        refine V_y (Y_move rfl) rfl rfl rfl ?_
        refine V_to (fun _ _ => rfl) ?_
        have hn56 := Sl.le h_d0
        obtain ⟨o36, ho36, ho28⟩ := Option.bind_eq_some_iff.1 ho28
        refine C_cutG (ι := (Unit × (Nat → Prop))) (fun ⟨s37, A43⟩ => [(0, .pointer (some ⟨b_d, 0, none⟩)), (2, .int .i64 to_), (7, .int .i64 s15)]) (fun ⟨s37, A43⟩ => fun w' => o36 = .fin s37 ∧ Hp B A43 w' (obC b_d [v_d0, v_d1, .map (some m_d0)] 70 :: obPS (obCk 86 portref2_ShiftsIn) 71 v_d1 d.clocks :: obSM (κ := Int) (α := Bool) m_d0 d.away :: L) ∧ Tr Dw B A18 w17 A43 w') ?_ ?_
        · refine C_block ?_
          refine C_range ho36 (fun k39 _ a w' => ∃ i : (Nat → Prop), Has ⟨50, [], none⟩ a ([(0, .pointer (some ⟨b_d, 0, none⟩)), (2, .int .i64 to_), (7, .int .i64 s15), (20, v_d0), (21, .int .i64 (d.people.length : Int)), (22, .int .i64 (k39 : Int))]) ∧ Hp B i w' (obC b_d [v_d0, v_d1, .map (some m_d0)] 70 :: obPS (obCk 86 portref2_ShiftsIn) 71 v_d1 d.clocks :: obSM (κ := Int) (α := Bool) m_d0 d.away :: L) ∧ Tr Dw B A18 w17 i w') (fun a ha => ⟨A18, ha.sub ⟨rfl, rfl, rfl, rfl, rfl, rfl, trivial⟩, ⟨hH, Tr.refl (Dw := Dw) hA⟩⟩) ?_
          rintro K k39 _ a w46 ⟨A47, ha112, hH48, hr38⟩ hle52 K55 h54
          refine C_of ?_ ha112
          replace h_d0 := Sl.tr (Dw := Dw) h_d0 hr38
          replace hK := Tr.trans (Dw := Dw) hK hr38
          replace hr8 := Tr.trans (Dw := Dw) hr8 hr38
          replace hr30 := Tr.trans (Dw := Dw) hr30 hr38
          replace hB := Nat.le_trans hB hr38.ex.size
          replace hA := hr38.new
          replace hH : Hp B A47 w46 (obC b_d [v_d0, v_d1, .map (some m_d0)] 70 :: obPS (obCk 86 portref2_ShiftsIn) 71 v_d1 d.clocks :: obSM (κ := Int) (α := Bool) m_d0 d.away :: L) := hH48
          refine C_seq (C_region (V_y (Y_lss rfl rfl) rfl rfl rfl (V_to (fun _ _ => rfl) ?_)))
          refine C_seq ?_
          refine C_cond rfl (fun hc57 => ?_) (fun hc57 => ?_)
          · have hlt53 := lt_of_dec hc57
            obtain ⟨x49, h50, h51⟩ := K55 hlt53
            refine C_skip_to (fun _ _ => rfl) ?_
            refine C_seq ?_
            refine C_block ?_
            refine C_seq ?_
            refine C_region ?_
            obtain ⟨x58, hx58, h50⟩ := Option.bind_eq_some_iff.1 h50
            refine V_indexAddr h_d0 hx58 Tryd.underlying22 Tryd.sizeOf37 rfl rfl rfl ?_
            intro b59 o60 h61
            obtain ⟨v62, h64, h63⟩ := El_route_Person h61
            refine V_y (Y_loadA h64 Tryd.isAgg37 Tryd.sizeOf37 rfl) rfl rfl rfl ?_
            refine V_alloc Tryd.zeroValue37 rfl ?_
            intro b65 w66 h67
            have h72 : (v62).oneCell' = true := by obtain ⟨_, _, e, _⟩ := Sl.form h63; rw [e]; rfl
            refine V_storeNew h67 Tryd.sizeOf37 rfl rfl rfl rfl (by exact (List.forall_mem_cons.2 ⟨rfl, (List.forall_mem_cons.2 ⟨rfl, (List.forall_mem_cons.2 ⟨rfl, (List.forall_mem_cons.2 ⟨h72, (fun _ h => nomatch h)⟩)⟩)⟩)⟩)) ?_
            intro w68 h69
            have hk74 := h69.kp (Dw := Dw)
            have h73 : El (α := route_Person) A47 w68 b65 0 x58 := h69.el hA ⟨[.int .i64 x58.no], _, rfl, rfl, ⟨[.int .i64 x58.capacity], _, rfl, rfl, ⟨[.int .i64 x58.calendar], _, rfl, rfl, ⟨_, rfl, h63⟩⟩⟩⟩
            have ht75 := Kp.tr (Dw := Dw) hk74 hA hB
            replace hH := Hp.kp (Dw := Dw) hH hk74
            replace h_d0 := Sl.tr (Dw := Dw) h_d0 ht75
            replace h61 := El.tr (Dw := Dw) h61 ht75
            replace h63 := Sl.tr (Dw := Dw) h63 ht75
            replace hK := Tr.trans (Dw := Dw) hK ht75
            replace hr8 := Tr.trans (Dw := Dw) hr8 ht75
            replace hr30 := Tr.trans (Dw := Dw) hr30 ht75
            replace hr38 := Tr.trans (Dw := Dw) hr38 ht75
            replace hB := Nat.le_trans hB ht75.ex.size
            replace hA := ht75.new
            refine V_to (fun _ _ => rfl) ?_
            refine C_seq ?_
            obtain ⟨x77, hx77, h50⟩ := Option.bind_eq_some_iff.1 h50
            obtain ⟨b78, ps79, U80, hq81, hip82, hsl83, hsp84, hu85, hF86⟩ := Hp.psFix (f := obCk 86 portref2_ShiftsIn) (e := 71) (v := v_d1) (cs := d.clocks) hH (i := 1) rfl hx77
            replace hF86 : Hp B A47 w68 (obCk 86 portref2_ShiftsIn b78 x77 :: obFix U80 w68 (obC b_d [v_d0, v_d1, .map (some m_d0)] 70 :: obPX (obCk 86 portref2_ShiftsIn) 71 v_d1 d.clocks (Int.toNat x58.calendar) b78 :: obSM (κ := Int) (α := Bool) m_d0 d.away :: L) :: []) := hF86
            refine C_region_ch (Dw := Dw) (fun b => A47 b ∨ b ∈ U80) 22 [(1, 0), (1, 1), (1, 2), (1, 3), (1, 4), (1, 5), (1, 6), (1, 7), (1, 8), (1, 10), (1, 11), (1, 12), (1, 13), (1, 14), (1, 15), (1, 16), (1, 17), (1, 18), (1, 19), (3, 9), (4, 20), (1, 21)] Tryd_mixed (by kernel_rfl) (fun w88 hk89 => ?_)
            replace hF86 := Hp.kp (Dw := Dw) hF86 hk89
            have ht90 := Kp.tr (Dw := Dw) hk89 hA hB
            replace hH := Hp.kp (Dw := Dw) hH hk89
            replace h_d0 := Sl.tr (Dw := Dw) h_d0 ht90
            replace h73 := El.tr (Dw := Dw) h73 ht90
            replace hK := Tr.trans (Dw := Dw) hK ht90
            replace hr8 := Tr.trans (Dw := Dw) hr8 ht90
            replace hr30 := Tr.trans (Dw := Dw) hr30 ht90
            replace hr38 := Tr.trans (Dw := Dw) hr38 ht90
            replace hB := Nat.le_trans hB ht90.ex.size
            replace hA := ht90.new
            have hR87 : ∀ w', XA (fun b => A47 b ∨ b ∈ U80) w88 w' → Hp B A47 w' (obC b_d [v_d0, v_d1, .map (some m_d0)] 70 :: obPX (obCk 86 portref2_ShiftsIn) 71 v_d1 d.clocks (Int.toNat x58.calendar) b78 :: obSM (κ := Int) (α := Bool) m_d0 d.away :: L) := fun w' hw' => Hp.held hsp84 hu85 (XA.trans (XA.kp (Dw := Dw) hk89) hw')
            refine CH_q2 (Dw := Dw) rfl ?_
            refine VQ_y (fun w' hw' => Y_move rfl) rfl rfl rfl ?_
            refine VQ_CH (Dw := Dw) ?_
            refine CH_q2 (Dw := Dw) rfl ?_
            refine VQ_y (fun w' hw' => Y_nilCheck rfl) rfl rfl rfl ?_
            refine VQ_CH (Dw := Dw) ?_
            refine CH_q2 (Dw := Dw) rfl ?_
            refine VQ_y (fun w' hw' => Y_fieldAddrC (off2 := 1) Tryd.underlying70 rfl Tryd.sizeOf63 (by decide) rfl rfl) rfl rfl rfl ?_
            refine VQ_CH (Dw := Dw) ?_
            refine CH_q2 (Dw := Dw) rfl ?_
            refine VQ_y (fun w' hw' => Y_load (Hp.cell (j := 1) (hR87 w' hw') (i := 0) rfl rfl) Tryd.isAgg63 rfl) rfl rfl rfl ?_
            refine VQ_CH (Dw := Dw) ?_
            refine CH_q2 (Dw := Dw) rfl ?_
            have h91 := El_route_Person_2 h73
            refine VQ_y (fun w' hw' => Y_fieldAddr Tryd.underlying37 rfl Tryd.sizeOf3 (by decide) rfl) rfl rfl rfl ?_
            refine VQ_CH (Dw := Dw) ?_
            refine CH_q2 (Dw := Dw) rfl ?_
            refine VQ_y (fun w' hw' => Y_load (El.int (El.keep h91 (XA.ex (XA.less hw' (fun _ _ => Or.inl))))) Tryd.isAgg3 rfl) rfl rfl rfl ?_
            refine VQ_CH (Dw := Dw) ?_
            refine CH_q2 (Dw := Dw) rfl ?_
            refine VQ_indexAddr (α := Ptr) hsl83 hip82 Tryd.underlying63 Tryd.sizeOf71 rfl rfl rfl ?_
            intro b92 o93 h94
            refine VQ_CH (Dw := Dw) ?_
            refine CH_q2 (Dw := Dw) rfl ?_
            refine VQ_y (fun w' hw' => Y_load (El.ptr (El.keep h94 (XA.ex ((XA.trans (XA.kp (Dw := Dw) hk89) hw').less (fun _ _ => Or.inr))))) Tryd.isAgg71 rfl) rfl rfl rfl ?_
            refine VQ_CH (Dw := Dw) ?_
            refine CH_q2 (Dw := Dw) rfl ?_
            refine VQ_y (fun w' hw' => Y_move rfl) rfl rfl rfl ?_
            refine VQ_CH (Dw := Dw) ?_
            refine CH_q2 (Dw := Dw) rfl ?_
            refine VQ_y (fun w' hw' => Y_move rfl) rfl rfl rfl ?_
            refine VQ_CH (Dw := Dw) ?_
            refine CH_q2 (Dw := Dw) rfl ?_
            refine VQ_y (fun w' hw' => Y_nilCheck rfl) rfl rfl rfl ?_
            refine VQ_CH (Dw := Dw) ?_
            refine CH_q2 (Dw := Dw) rfl ?_
            refine VQ_y (fun w' hw' => Y_fieldAddrC (off2 := 1) Tryd.underlying70 rfl Tryd.sizeOf63 (by decide) rfl rfl) rfl rfl rfl ?_
            refine VQ_CH (Dw := Dw) ?_
            refine CH_q2 (Dw := Dw) rfl ?_
            refine VQ_y (fun w' hw' => Y_load (Hp.cell (j := 1) (hR87 w' hw') (i := 0) rfl rfl) Tryd.isAgg63 rfl) rfl rfl rfl ?_
            refine VQ_CH (Dw := Dw) ?_
            refine CH_q2 (Dw := Dw) rfl ?_
            have h95 := El_route_Person_2 h73
            refine VQ_y (fun w' hw' => Y_fieldAddr Tryd.underlying37 rfl Tryd.sizeOf3 (by decide) rfl) rfl rfl rfl ?_
            refine VQ_CH (Dw := Dw) ?_
            refine CH_q2 (Dw := Dw) rfl ?_
            refine VQ_y (fun w' hw' => Y_load (El.int (El.keep h95 (XA.ex (XA.less hw' (fun _ _ => Or.inl))))) Tryd.isAgg3 rfl) rfl rfl rfl ?_
            refine VQ_CH (Dw := Dw) ?_
            refine CH_q2 (Dw := Dw) rfl ?_
            refine VQ_indexAddr (α := Ptr) hsl83 hip82 Tryd.underlying63 Tryd.sizeOf71 rfl rfl rfl ?_
            intro b96 o97 h98
            refine VQ_CH (Dw := Dw) ?_
            refine CH_q2 (Dw := Dw) rfl ?_
            refine VQ_y (fun w' hw' => Y_load (El.ptr (El.keep h98 (XA.ex ((XA.trans (XA.kp (Dw := Dw) hk89) hw').less (fun _ _ => Or.inr))))) Tryd.isAgg71 rfl) rfl rfl rfl ?_
            refine VQ_CH (Dw := Dw) ?_
            refine CH_q2 (Dw := Dw) rfl ?_
            refine VQ_y (fun w' hw' => Y_move rfl) rfl rfl rfl ?_
            refine VQ_CH (Dw := Dw) ?_
            refine CH_q2 (Dw := Dw) rfl ?_
            refine VQ_y (fun w' hw' => Y_subI rfl rfl) rfl rfl rfl ?_
            refine VQ_CH (Dw := Dw) ?_
            replace hH : Hp B A47 w88 (obCk 86 portref2_ShiftsIn b78 x77 :: obFix U80 w68 (obC b_d [v_d0, v_d1, .map (some m_d0)] 70 :: obPX (obCk 86 portref2_ShiftsIn) 71 v_d1 d.clocks (Int.toNat x58.calendar) b78 :: obSM (κ := Int) (α := Bool) m_d0 d.away :: L) :: []) := hF86
            refine CH_l1 (Dw := Dw) (k := 1) rfl ?_
            obtain ⟨x99, hx99, h50⟩ := Option.bind_eq_some_iff.1 h50
            refine V_call Tryd.call30 rfl rfl rfl rfl (portref2_Clock_Open_c (Dw := Dw) w88 hB hA x77 b78 s15 hH hx99) ?_
            rintro _ w100 ⟨A101, rfl, hH102, ht103⟩
            replace h_d0 := Sl.tr (Dw := Dw) h_d0 ht103
            replace h73 := El.tr (Dw := Dw) h73 ht103
            replace h91 := El.tr (Dw := Dw) h91 ht103
            replace h95 := El.tr (Dw := Dw) h95 ht103
            replace hK := Tr.trans (Dw := Dw) hK ht103
            replace hr8 := Tr.trans (Dw := Dw) hr8 ht103
            replace hr30 := Tr.trans (Dw := Dw) hr30 ht103
            replace hr38 := Tr.trans (Dw := Dw) hr38 ht103
            replace hB := Nat.le_trans hB ht103.ex.size
            replace hA := ht103.new
            replace hH : Hp B A101 w100 (obCk 86 portref2_ShiftsIn b78 x77 :: obFix U80 w68 (obC b_d [v_d0, v_d1, .map (some m_d0)] 70 :: obPX (obCk 86 portref2_ShiftsIn) 71 v_d1 d.clocks (Int.toNat x58.calendar) b78 :: obSM (κ := Int) (α := Bool) m_d0 d.away :: L) :: []) := hH102
            refine V_CHx (Dw := Dw) (XA.fix (XA.tr (Dw := Dw) ht103) (fun b hb => ((Hp.unfix hH).2 b hb).trans ((Hp.unfix hF86).2 b hb).symm)) ?_
            refine CH_l1 (Dw := Dw) (k := 2) rfl ?_
            obtain ⟨x104, hx104, h50⟩ := Option.bind_eq_some_iff.1 h50
            refine V_call Tryd.call30 rfl rfl rfl rfl (portref2_Clock_Open_c (Dw := Dw) w100 hB hA x77 b78 (w64 (s15 - 1)) hH hx104) ?_
            rintro _ w105 ⟨A106, rfl, hH107, ht108⟩
            replace h_d0 := Sl.tr (Dw := Dw) h_d0 ht108
            replace h73 := El.tr (Dw := Dw) h73 ht108
            replace h91 := El.tr (Dw := Dw) h91 ht108
            replace h95 := El.tr (Dw := Dw) h95 ht108
            replace hK := Tr.trans (Dw := Dw) hK ht108
            replace hr8 := Tr.trans (Dw := Dw) hr8 ht108
            replace hr30 := Tr.trans (Dw := Dw) hr30 ht108
            replace hr38 := Tr.trans (Dw := Dw) hr38 ht108
            replace hB := Nat.le_trans hB ht108.ex.size
            replace hA := ht108.new
            replace hH : Hp B A106 w105 (obCk 86 portref2_ShiftsIn b78 x77 :: obFix U80 w68 (obC b_d [v_d0, v_d1, .map (some m_d0)] 70 :: obPX (obCk 86 portref2_ShiftsIn) 71 v_d1 d.clocks (Int.toNat x58.calendar) b78 :: obSM (κ := Int) (α := Bool) m_d0 d.away :: L) :: []) := hH107
            refine V_CHw (Dw := Dw) ?_
            refine CH_q2 (Dw := Dw) rfl ?_
            refine VQ_y (fun w' hw' => Y_bneq Tryd.underlying4 rfl rfl) rfl rfl rfl ?_
            refine VQ_CH (Dw := Dw) ?_
            refine CH_tail (Dw := Dw) ?_
            show V _ _ _ _ [] _ _
            replace hH : Hp B A106 w105 (obCk 86 portref2_ShiftsIn b78 x77 :: obC b_d [v_d0, v_d1, .map (some m_d0)] 70 :: obPX (obCk 86 portref2_ShiftsIn) 71 v_d1 d.clocks (Int.toNat x58.calendar) b78 :: obSM (κ := Int) (α := Bool) m_d0 d.away :: L) := (Hp.unfix hH).1
            replace hH : Hp B A106 w105 (obC b_d [v_d0, v_d1, .map (some m_d0)] 70 :: obPS (obCk 86 portref2_ShiftsIn) 71 v_d1 d.clocks :: obSM (κ := Int) (α := Bool) m_d0 d.away :: L) := Hp.psBack hH (i := 1) rfl hq81
            refine V_to (fun _ _ => rfl) ?_
            refine C_cond rfl (fun hc109 => ?_) (fun hc109 => ?_)
            · rw [if_pos hc109] at h50
              refine C_seq ?_
              refine C_region ?_
              refine V_y (Y_move rfl) rfl rfl rfl ?_
              refine V_y (Y_assign rfl) rfl rfl rfl ?_
              refine V_to (fun _ _ => rfl) ?_
              obtain rfl := Option.some.inj h50
              obtain rfl := (h51 : Lp.rt _ = _)
              rw [Lp.andThen_rt] at ho28
              obtain rfl := Option.some.inj ho28
              rw [Lp.andThen_rt] at h21
              obtain rfl := Option.some.inj h21
              obtain rfl := (h22 : Lp.rt _ = _)
              rw [Lp.andThen_rt] at hm
              obtain rfl := Option.some.inj hm
              refine C_ret ?_
              try simp only [↓inBlock_ret, ↓then_ret]
              exact retQ rfl (Res.one Tryd.results20 rfl) ⟨A106, rfl, hH, hK⟩
            · rw [if_neg (nt hc109)] at h50
              refine C_skip_to (fun _ _ => rfl) ?_
              refine C_region ?_
              refine V_y (Y_addI rfl rfl) rfl rfl rfl ?_
              refine V_y (Y_move rfl) rfl rfl rfl ?_
              obtain rfl := Option.some.inj h50
              refine V_end (fun a ha110 => ?_)
              exact ⟨(), hlt53, h51, ⟨A106, ha110.sub ⟨rfl, rfl, rfl, rfl, rfl, (congrArg (fun z => some (Value.int .i64 z)) (w64_succ hlt53 hn56)), trivial⟩, ⟨hH, hr38⟩⟩⟩
          · refine C_exit (fun a ha111 => ?_)
            exact ⟨((), A47), ha111.sub ⟨rfl, rfl, rfl, trivial⟩, ⟨(h54 (eq_of_dec hle52 hc57)).symm, hH, hr38⟩⟩
        rintro ⟨s37, A43⟩ w40 ⟨rfl, hH44, hk41⟩ a ha42
        rw [Lp.andThen_fin] at ho28
        replace h_d0 := Sl.tr (Dw := Dw) h_d0 hk41
        replace hK := Tr.trans (Dw := Dw) hK hk41
        replace hr8 := Tr.trans (Dw := Dw) hr8 hk41
        replace hr30 := Tr.trans (Dw := Dw) hr30 hk41
        replace hB := Nat.le_trans hB hk41.ex.size
        replace hA := hk41.new
        replace hH : Hp B A43 w40 (obC b_d [v_d0, v_d1, .map (some m_d0)] 70 :: obPS (obCk 86 portref2_ShiftsIn) 71 v_d1 d.clocks :: obSM (κ := Int) (α := Bool) m_d0 d.away :: L) := hH44
        obtain rfl := Option.some.inj ho28
        exact ⟨((), A43), ha42.sub ⟨rfl, rfl, rfl, trivial⟩, ⟨rfl, hH, hr30⟩⟩
      rintro ⟨s29, A34⟩ w31 ⟨rfl, hH35, hk32⟩ a ha33
      rw [Lp.andThen_fin] at h21
      replace h_d0 := Sl.tr (Dw := Dw) h_d0 hk32
      replace hK := Tr.trans (Dw := Dw) hK hk32
      replace hr8 := Tr.trans (Dw := Dw) hr8 hk32
      replace hB := Nat.le_trans hB hk32.ex.size
      replace hA := hk32.new
      replace hH : Hp B A34 w31 (obC b_d [v_d0, v_d1, .map (some m_d0)] 70 :: obPS (obCk 86 portref2_ShiftsIn) 71 v_d1 d.clocks :: obSM (κ := Int) (α := Bool) m_d0 d.away :: L) := hH35
      refine C_at (n := ⟨50, [], none⟩) (fun _ _ => rfl) ?_ ha33
      refine C_region ?_
      refine V_y (Y_move rfl) rfl rfl rfl ?_
      refine V_y (Y_addI rfl rfl) rfl rfl rfl ?_
      refine V_y (Y_assign rfl) rfl rfl rfl ?_
      obtain rfl := Option.some.inj h21
      refine V_end (fun a ha114 => ?_)
      exact ⟨w64 (s15 + 1), h22, ⟨A34, ha114.sub ⟨rfl, rfl, rfl, trivial⟩, ⟨hH, hr8⟩⟩⟩
    · rw [if_neg (nt hc27)] at h21
      obtain rfl := Option.some.inj h21
      refine C_exit (fun a ha115 => ?_)
      exact ⟨(s15, A18), ha115.sub trivial, ⟨h22.symm, hH, hr8⟩⟩
  rintro ⟨s7, A13⟩ w10 ⟨rfl, hH14, hk11⟩ a ha12
  rw [Lp.andThen_fin] at hm
  replace h_d0 := Sl.tr (Dw := Dw) h_d0 hk11
  replace hK := Tr.trans (Dw := Dw) hK hk11
  replace hB := Nat.le_trans hB hk11.ex.size
  replace hA := hk11.new
  replace hH : Hp B A13 w10 (obC b_d [v_d0, v_d1, .map (some m_d0)] 70 :: obPS (obCk 86 portref2_ShiftsIn) 71 v_d1 d.clocks :: obSM (κ := Int) (α := Bool) m_d0 d.away :: L) := hH14
  refine C_at (n := ⟨50, [], none⟩) (fun _ _ => rfl) ?_ ha12
  refine C_seq ?_
  refine C_region ?_
  refine V_y (Y_assign rfl) rfl rfl rfl ?_
  refine V_to (fun _ _ => rfl) ?_
  obtain rfl := Option.some.inj hm
  refine C_ret ?_
  try simp only [↓inBlock_ret, ↓then_ret]
  exact retQ rfl (Res.one Tryd.results20 rfl) ⟨A13, rfl, hH, hK⟩

set_option maxRecDepth 4000 in
set_option maxHeartbeats 4000000 in
theorem portref2_NextChangeOf_c (w : World) {A : Nat → Prop} (hA : ∀ b, w.heap.size ≤ b → A b) (people : (List route_Person)) (v_people : Value) (h_people : Sl A w v_people people) (cals : (List cal_Calendar)) (v_cals : Value) (h_cals : Sl A w v_cals cals) (m : Int) {r : (Int × Int)} (hm : portref2_NextChangeOf people cals m = some r) : Ret Tryd.prog 7 #[v_people, v_cals, .int .i64 m] w fun v w' => v = .tuple #[.int .i64 r.1, .int .i64 r.2] ∧ Kp False w w' := by
  unfold portref2_NextChangeOf at hm
  refine enter Tryd.func7 rfl Tryd.ntmps7 rfl ?_
  have hA0 := hA
  have hB := Nat.le_refl w.heap.size
  have hK : Tr False w.heap.size A w A w := Tr.refl (Dw := False) hA
  have hH : Hp w.heap.size A w [] := Hp.nil
  refine C_seq ?_
  refine C_region ?_
  refine V_y (Y_assign rfl) rfl rfl rfl ?_
  refine V_y (Y_assign rfl) rfl rfl rfl ?_
  refine V_to (fun _ _ => rfl) ?_
  refine C_seq ?_
  refine C_seq ?_
  refine C_region ?_
  refine V_y (Y_move rfl) rfl rfl rfl ?_
  refine V_y (Y_move rfl) rfl rfl rfl ?_
  obtain ⟨x5, hx5, hm⟩ := Option.bind_eq_some_iff.1 hm
  refine V_call Tryd.call13 rfl rfl rfl rfl (portref2_dutyFault_c w hA people v_people h_people cals v_cals h_cals hx5) ?_
  rintro _ w6 ⟨rfl, hk7⟩
  have ht8 := Kp.tr (Dw := False) hk7 hA hB
  replace hH := Hp.kp (Dw := False) hH hk7
  replace h_people := Sl.tr (Dw := False) h_people ht8
  replace h_cals := Sl.tr (Dw := False) h_cals ht8
  replace hK := Tr.trans (Dw := False) hK ht8
  replace hB := Nat.le_trans hB ht8.ex.size
  replace hA := ht8.new
  refine V_y (Y_assign rfl) rfl rfl rfl ?_
  refine V_to (fun _ _ => rfl) ?_
  refine C_seq ?_
  refine C_region ?_
  refine V_y (Y_move rfl) rfl rfl rfl ?_
  refine V_y (Y_neq rfl rfl) rfl rfl rfl ?_
  refine V_to (fun _ _ => rfl) ?_
  refine C_cond rfl (fun hc9 => ?_) (fun hc9 => ?_)
  · rw [if_pos hc9] at hm
    refine C_seq ?_
    refine C_region ?_
    refine V_y (Y_move rfl) rfl rfl rfl ?_
    refine V_y (Y_assign rfl) rfl rfl rfl ?_
    refine V_y (Y_assign rfl) rfl rfl rfl ?_
    refine V_to (fun _ _ => rfl) ?_
    obtain rfl := Option.some.inj hm
    refine C_ret ?_
    try simp only [↓inBlock_ret, ↓then_ret]
    exact retQ rfl (Res.two Tryd.results7 rfl rfl) ⟨rfl, hK.kp⟩
  · rw [if_neg (nt hc9)] at hm
    refine C_skip_to (fun _ _ => rfl) ?_
    refine C_seq ?_
    refine C_seq ?_
    refine C_region ?_
    refine V_y (Y_move rfl) rfl rfl rfl ?_
    refine V_call Tryd.call14 rfl rfl rfl rfl (portref2_IsMoment_c w6 m) ?_
    rintro _ _ ⟨rfl, rfl⟩
    refine V_y (Y_not rfl) rfl rfl rfl ?_
    refine V_to (fun _ _ => rfl) ?_
    refine C_cond rfl (fun hc10 => ?_) (fun hc10 => ?_)
    · rw [if_pos hc10] at hm
      refine C_seq ?_
      refine C_region ?_
      refine V_y (Y_assign rfl) rfl rfl rfl ?_
      refine V_y (Y_assign rfl) rfl rfl rfl ?_
      refine V_to (fun _ _ => rfl) ?_
      obtain rfl := Option.some.inj hm
      refine C_ret ?_
      try simp only [↓inBlock_ret, ↓then_ret]
      exact retQ rfl (Res.two Tryd.results7 rfl rfl) ⟨rfl, hK.kp⟩
    · rw [if_neg (nt hc10)] at hm
      refine C_skip_to (fun _ _ => rfl) ?_
      refine C_seq ?_
      refine C_region ?_
      refine V_y (Y_move rfl) rfl rfl rfl ?_
      refine V_y (Y_move rfl) rfl rfl rfl ?_
      obtain ⟨x11, hx11, hm⟩ := Option.bind_eq_some_iff.1 hm
      refine V_call Tryd.call15 rfl rfl rfl rfl (portref2_newDuty_c (Dw := False) w6 hB hA people v_people h_people cals v_cals h_cals hH hx11) ?_
      rintro _ w18 ⟨b12, v13, v15, m17, A19, rfl, h14, hH20, ht21⟩
      replace h_people := Sl.tr (Dw := False) h_people ht21
      replace h_cals := Sl.tr (Dw := False) h_cals ht21
      replace hK := Tr.trans (Dw := False) hK ht21
      replace hB := Nat.le_trans hB ht21.ex.size
      replace hA := ht21.new
      replace hH : Hp w.heap.size A19 w18 (obC b12 [v13, v15, .map (some m17)] 70 :: obPS (obCk 86 portref2_ShiftsIn) 71 v15 x11.clocks :: obSM (κ := Int) (α := Bool) m17 x11.away :: []) := hH20
      refine V_y (Y_move rfl) rfl rfl rfl ?_
      replace hH : Hp w.heap.size A19 w18 (obSM (κ := Int) (α := Bool) m17 x11.away :: obC b12 [v13, v15, .map (some m17)] 70 :: obPS (obCk 86 portref2_ShiftsIn) 71 v15 x11.clocks :: []) := Hp.front hH (i := 2) rfl
      replace hH : Hp w.heap.size A19 w18 (obPS (obCk 86 portref2_ShiftsIn) 71 v15 x11.clocks :: obSM (κ := Int) (α := Bool) m17 x11.away :: obC b12 [v13, v15, .map (some m17)] 70 :: []) := Hp.front hH (i := 2) rfl
      replace hH : Hp w.heap.size A19 w18 (obC b12 [v13, v15, .map (some m17)] 70 :: obPS (obCk 86 portref2_ShiftsIn) 71 v15 x11.clocks :: obSM (κ := Int) (α := Bool) m17 x11.away :: []) := Hp.front hH (i := 2) rfl
      obtain ⟨x22, hx22, hm⟩ := Option.bind_eq_some_iff.1 hm
      refine V_call Tryd.call20 rfl rfl rfl rfl (portref2_duty_change_c (Dw := False) w18 hB hA x11 b12 v13 h14 v15 m17 m 3000000 hH hx22) ?_
      rintro _ w23 ⟨A24, rfl, hH25, ht26⟩
      replace h_people := Sl.tr (Dw := False) h_people ht26
      replace h_cals := Sl.tr (Dw := False) h_cals ht26
      replace h14 := Sl.tr (Dw := False) h14 ht26
      replace hK := Tr.trans (Dw := False) hK ht26
      replace hB := Nat.le_trans hB ht26.ex.size
      replace hA := ht26.new
      replace hH : Hp w.heap.size A24 w23 (obC b12 [v13, v15, .map (some m17)] 70 :: obPS (obCk 86 portref2_ShiftsIn) 71 v15 x11.clocks :: obSM (κ := Int) (α := Bool) m17 x11.away :: []) := hH25
      refine V_y (Y_assign rfl) rfl rfl rfl ?_
      refine V_to (fun _ _ => rfl) ?_
      refine C_seq ?_
      refine C_seq ?_
      refine C_region ?_
      refine V_y (Y_move rfl) rfl rfl rfl ?_
      refine V_y (Y_lss rfl rfl) rfl rfl rfl ?_
      refine V_to (fun _ _ => rfl) ?_
      refine C_cond rfl (fun hc27 => ?_) (fun hc27 => ?_)
      · rw [if_pos hc27] at hm
        refine C_seq ?_
        refine C_region ?_
        refine V_y (Y_assign rfl) rfl rfl rfl ?_
        refine V_y (Y_assign rfl) rfl rfl rfl ?_
        refine V_to (fun _ _ => rfl) ?_
        obtain rfl := Option.some.inj hm
        refine C_ret ?_
        try simp only [↓inBlock_ret, ↓then_ret]
        exact retQ rfl (Res.two Tryd.results7 rfl rfl) ⟨rfl, hK.kp⟩
      · rw [if_neg (nt hc27)] at hm
        refine C_skip_to (fun _ _ => rfl) ?_
        refine C_seq ?_
        refine C_region ?_
        refine V_y (Y_move rfl) rfl rfl rfl ?_
        refine V_y (Y_assign rfl) rfl rfl rfl ?_
        refine V_y (Y_assign rfl) rfl rfl rfl ?_
        refine V_to (fun _ _ => rfl) ?_
        obtain rfl := Option.some.inj hm
        refine C_ret ?_
        try simp only [↓inBlock_ret, ↓then_ret]
        exact retQ rfl (Res.two Tryd.results7 rfl rfl) ⟨rfl, hK.kp⟩

set_option maxRecDepth 4000 in
set_option maxHeartbeats 4000000 in
theorem slices_Equal_Lint_int_c (w : World) {A : Nat → Prop} (hA : ∀ b, w.heap.size ≤ b → A b) (s1 : (List Int)) (v_s1 : Value) (h_s1 : Sl A w v_s1 s1) (s2 : (List Int)) (v_s2 : Value) (h_s2 : Sl A w v_s2 s2) {r : Bool} (hm : slices_Equal_Lint_int s1 s2 = some r) : Ret Tryd.prog 8 #[v_s1, v_s2] w fun v w' => v = .bool r ∧ Kp Dw w w' := by
  unfold slices_Equal_Lint_int at hm
  refine enter Tryd.func8 rfl Tryd.ntmps8 rfl ?_
  have hA0 := hA
  have hB := Nat.le_refl w.heap.size
  have hK : Tr Dw w.heap.size A w A w := Tr.refl (Dw := Dw) hA
  have hH : Hp w.heap.size A w [] := Hp.nil
  refine C_seq ?_
  refine C_region ?_
  refine V_y (Y_assign rfl) rfl rfl rfl ?_
  refine V_to (fun _ _ => rfl) ?_
  refine C_seq ?_
  refine C_seq ?_
  refine C_region ?_
  refine V_y (Y_move rfl) rfl rfl rfl ?_
  refine V_y (Y_lenSl h_s1 rfl Tryd.underlying24 rfl) rfl rfl rfl ?_
  refine V_y (Y_move rfl) rfl rfl rfl ?_
  refine V_y (Y_lenSl h_s2 rfl Tryd.underlying24 rfl) rfl rfl rfl ?_
  refine V_y (Y_neq rfl rfl) rfl rfl rfl ?_
  refine V_to (fun _ _ => rfl) ?_
  refine C_cond rfl (fun hc5 => ?_) (fun hc5 => ?_)
  · rw [if_pos hc5] at hm
    refine C_seq ?_
    refine C_region ?_
    refine V_y (Y_assign rfl) rfl rfl rfl ?_
    refine V_to (fun _ _ => rfl) ?_
    obtain rfl := Option.some.inj hm
    refine C_ret ?_
    try simp only [↓inBlock_ret, ↓then_ret]
    exact retQ rfl (Res.one Tryd.results8 rfl) ⟨rfl, hK.kp⟩
  · rw [if_neg (nt hc5)] at hm
    refine C_skip_to (fun _ _ => rfl) ?_
    refine C_seq ?_
    refine C_seq ?_
    refine C_region ?_
    refine V_y (Y_move rfl) rfl rfl rfl ?_
    refine V_y (Y_lenSl h_s1 rfl Tryd.underlying24 rfl) rfl rfl rfl ?_
    refine V_y (Y_move rfl) rfl rfl rfl ?_
    refine V_to (fun _ _ => rfl) ?_
    have hn27 := Sl.le h_s1
    obtain ⟨o6, ho6, hm⟩ := Option.bind_eq_some_iff.1 hm
    refine C_cutG (ι := (Unit × (Nat → Prop))) (fun ⟨s7, A13⟩ => []) (fun ⟨s7, A13⟩ => fun w' => o6 = .fin s7 ∧ Hp w.heap.size A13 w' ([]) ∧ Tr Dw w.heap.size A w A13 w') ?_ ?_
    · refine C_block ?_
      refine C_range ho6 (fun k9 _ a w' => ∃ i : (Nat → Prop), Has ⟨26, [], none⟩ a ([(0, v_s1), (1, v_s2), (12, .int .i64 (s1.length : Int)), (13, .int .i64 (k9 : Int))]) ∧ Hp w.heap.size i w' ([]) ∧ Tr Dw w.heap.size A w i w') (fun a ha => ⟨A, ha.sub ⟨rfl, rfl, rfl, rfl, trivial⟩, ⟨hH, Tr.refl (Dw := Dw) hA⟩⟩) ?_
      rintro K k9 _ a w17 ⟨A18, ha43, hH19, hr8⟩ hle23 K26 h25
      refine C_of ?_ ha43
      replace h_s1 := Sl.tr (Dw := Dw) h_s1 hr8
      replace h_s2 := Sl.tr (Dw := Dw) h_s2 hr8
      replace hK := Tr.trans (Dw := Dw) hK hr8
      replace hB := Nat.le_trans hB hr8.ex.size
      replace hA := hr8.new
      replace hH : Hp w.heap.size A18 w17 ([]) := hH19
      refine C_seq (C_region (V_y (Y_lss rfl rfl) rfl rfl rfl (V_to (fun _ _ => rfl) ?_)))
      refine C_seq ?_
      refine C_cond rfl (fun hc28 => ?_) (fun hc28 => ?_)
      · have hlt24 := lt_of_dec hc28
        obtain ⟨x20, h21, h22⟩ := K26 hlt24
        refine C_skip_to (fun _ _ => rfl) ?_
        refine C_seq ?_
        refine C_block ?_
        refine C_seq ?_
        refine C_region ?_
        refine V_y (Y_move rfl) rfl rfl rfl ?_
        refine V_y (Y_assign rfl) rfl rfl rfl ?_
        refine V_to (fun _ _ => rfl) ?_
        refine C_seq ?_
        refine C_region_q (Dw := Dw) Tryd_mixed (by kernel_rfl) ?_
        refine VQ_y (fun w' hw' => Y_move rfl) rfl rfl rfl ?_
        refine VQ_y (fun w' hw' => Y_move rfl) rfl rfl rfl ?_
        obtain ⟨x29, hx29, h21⟩ := Option.bind_eq_some_iff.1 h21
        refine VQ_indexAddr h_s1 hx29 Tryd.underlying24 Tryd.sizeOf3 rfl rfl rfl ?_
        intro b30 o31 h32
        refine VQ_y (fun w' hw' => Y_load (El.int (El.kp (Dw := Dw) h32 hw')) Tryd.isAgg3 rfl) rfl rfl rfl ?_
        refine VQ_y (fun w' hw' => Y_move rfl) rfl rfl rfl ?_
        refine VQ_y (fun w' hw' => Y_move rfl) rfl rfl rfl ?_
        obtain ⟨x33, hx33, h21⟩ := Option.bind_eq_some_iff.1 h21
        refine VQ_indexAddr h_s2 hx33 Tryd.underlying24 Tryd.sizeOf3 rfl rfl rfl ?_
        intro b34 o35 h36
        refine VQ_y (fun w' hw' => Y_load (El.int (El.kp (Dw := Dw) h36 hw')) Tryd.isAgg3 rfl) rfl rfl rfl ?_
        refine VQ_y (fun w' hw' => Y_neq rfl rfl) rfl rfl rfl ?_
        refine VQ_to (fun _ _ => rfl) (fun w37 hk38 => ?_)
        have ht39 := Kp.tr (Dw := Dw) hk38 hA hB
        replace hH := Hp.kp (Dw := Dw) hH hk38
        replace h_s1 := Sl.tr (Dw := Dw) h_s1 ht39
        replace h_s2 := Sl.tr (Dw := Dw) h_s2 ht39
        replace hK := Tr.trans (Dw := Dw) hK ht39
        replace hr8 := Tr.trans (Dw := Dw) hr8 ht39
        replace hB := Nat.le_trans hB ht39.ex.size
        replace hA := ht39.new
        refine C_cond rfl (fun hc40 => ?_) (fun hc40 => ?_)
        · rw [if_pos hc40] at h21
          refine C_seq ?_
          refine C_region ?_
          refine V_y (Y_assign rfl) rfl rfl rfl ?_
          refine V_to (fun _ _ => rfl) ?_
          obtain rfl := Option.some.inj h21
          obtain rfl := (h22 : Lp.rt _ = _)
          rw [Lp.andThen_rt] at hm
          obtain rfl := Option.some.inj hm
          refine C_ret ?_
          try simp only [↓inBlock_ret, ↓then_ret]
          exact retQ rfl (Res.one Tryd.results8 rfl) ⟨rfl, hK.kp⟩
        · rw [if_neg (nt hc40)] at h21
          refine C_skip_to (fun _ _ => rfl) ?_
          refine C_region ?_
          refine V_y (Y_addI rfl rfl) rfl rfl rfl ?_
          refine V_y (Y_move rfl) rfl rfl rfl ?_
          obtain rfl := Option.some.inj h21
          refine V_end (fun a ha41 => ?_)
          exact ⟨(), hlt24, h22, ⟨A18, ha41.sub ⟨rfl, rfl, rfl, (congrArg (fun z => some (Value.int .i64 z)) (w64_succ hlt24 hn27)), trivial⟩, ⟨hH, hr8⟩⟩⟩
      · refine C_exit (fun a ha42 => ?_)
        exact ⟨((), A18), ha42.sub trivial, ⟨(h25 (eq_of_dec hle23 hc28)).symm, hH, hr8⟩⟩
    rintro ⟨s7, A13⟩ w10 ⟨rfl, hH14, hk11⟩ a ha12
    rw [Lp.andThen_fin] at hm
    replace hK := Tr.trans (Dw := Dw) hK hk11
    replace hB := Nat.le_trans hB hk11.ex.size
    replace hA := hk11.new
    replace hH : Hp w.heap.size A13 w10 ([]) := hH14
    refine C_at (n := ⟨26, [], none⟩) (fun _ _ => rfl) ?_ ha12
    refine C_seq ?_
    refine C_region ?_
    refine V_y (Y_assign rfl) rfl rfl rfl ?_
    refine V_to (fun _ _ => rfl) ?_
    obtain rfl := Option.some.inj hm
    refine C_ret ?_
    try simp only [↓inBlock_ret, ↓then_ret]
    exact retQ rfl (Res.one Tryd.results8 rfl) ⟨rfl, hK.kp⟩

set_option maxRecDepth 4000 in
set_option maxHeartbeats 4000000 in
theorem portlaw2_RouteDuty_c (w : World) {A : Nat → Prop} (hA : ∀ b, w.heap.size ≤ b → A b) (people : (List route_Person)) (v_people : Value) (h_people : Sl A w v_people people) (cals : (List cal_Calendar)) (v_cals : Value) (h_cals : Sl A w v_cals cals) (m : Int) {r : Bool} (hm : portlaw2_RouteDuty people cals m = some r) : Ret Tryd.prog 3 #[v_people, v_cals, .int .i64 m] w fun v w' => v = .bool r ∧ Kp False w w' := by
  unfold portlaw2_RouteDuty at hm
  refine enter Tryd.func3 rfl Tryd.ntmps3 rfl ?_
  have hA0 := hA
  have hB := Nat.le_refl w.heap.size
  have hK : Tr False w.heap.size A w A w := Tr.refl (Dw := False) hA
  have hH : Hp w.heap.size A w [] := Hp.nil
  refine C_seq ?_
  refine C_region ?_
  refine V_y (Y_assign rfl) rfl rfl rfl ?_
  refine V_to (fun _ _ => rfl) ?_
  refine C_seq ?_
  refine C_region ?_
  refine V_y (Y_move rfl) rfl rfl rfl ?_
  refine V_y (Y_move rfl) rfl rfl rfl ?_
  refine V_y (Y_move rfl) rfl rfl rfl ?_
  obtain ⟨x5, hx5, hm⟩ := Option.bind_eq_some_iff.1 hm
  refine V_call Tryd.call4 rfl rfl rfl rfl (route_OnDuty_c (Dw := False) w hA people v_people h_people cals v_cals h_cals m hx5) ?_
  rintro _ w9 ⟨v6, rfl, h7, hk10⟩
  obtain ⟨A11, ht12, hH13⟩ := Hp.addOwnd (Dw := False) hH hB hA hk10 h7
  replace h_people := Sl.tr (Dw := False) h_people ht12
  replace h_cals := Sl.tr (Dw := False) h_cals ht12
  replace hK := Tr.trans (Dw := False) hK ht12
  replace hB := Nat.le_trans hB ht12.ex.size
  replace hA := ht12.new
  replace hH : Hp w.heap.size A11 w9 (obS (α := Int) 3 v6 x5.1 :: []) := hH13
  refine V_y (Y_move rfl) rfl rfl rfl ?_
  refine V_y (Y_extract rfl rfl) rfl rfl rfl ?_
  refine V_y (Y_extract rfl rfl) rfl rfl rfl ?_
  refine V_y (Y_assign rfl) rfl rfl rfl ?_
  refine V_y (Y_assign rfl) rfl rfl rfl ?_
  refine V_to (fun _ _ => rfl) ?_
  refine C_seq ?_
  refine C_region ?_
  refine V_y (Y_move rfl) rfl rfl rfl ?_
  refine V_y (Y_move rfl) rfl rfl rfl ?_
  refine V_y (Y_move rfl) rfl rfl rfl ?_
  obtain ⟨x14, hx14, hm⟩ := Option.bind_eq_some_iff.1 hm
  refine V_call Tryd.call5 rfl rfl rfl rfl (portref2_OnDutyOf_c w9 hA people v_people h_people cals v_cals h_cals m hx14) ?_
  rintro _ w17 ⟨v15, rfl, h16, hk18⟩
  obtain ⟨A19, ht20, hH21⟩ := Hp.addOwnd (Dw := False) hH hB hA hk18 h16
  replace h_people := Sl.tr (Dw := False) h_people ht20
  replace h_cals := Sl.tr (Dw := False) h_cals ht20
  replace hK := Tr.trans (Dw := False) hK ht20
  replace hB := Nat.le_trans hB ht20.ex.size
  replace hA := ht20.new
  replace hH : Hp w.heap.size A19 w17 (obS (α := Int) 3 v15 x14.1 :: obS (α := Int) 3 v6 x5.1 :: []) := hH21
  refine V_y (Y_move rfl) rfl rfl rfl ?_
  refine V_y (Y_extract rfl rfl) rfl rfl rfl ?_
  refine V_y (Y_extract rfl rfl) rfl rfl rfl ?_
  refine V_y (Y_assign rfl) rfl rfl rfl ?_
  refine V_y (Y_assign rfl) rfl rfl rfl ?_
  refine V_to (fun _ _ => rfl) ?_
  refine C_seq ?_
  refine C_region ?_
  refine V_y (Y_move rfl) rfl rfl rfl ?_
  refine V_y (Y_move rfl) rfl rfl rfl ?_
  refine V_y (Y_move rfl) rfl rfl rfl ?_
  obtain ⟨x22, hx22, hm⟩ := Option.bind_eq_some_iff.1 hm
  refine V_call Tryd.call6 rfl rfl rfl rfl (route_NextChange_c (Dw := False) w17 hA people v_people h_people cals v_cals h_cals m hx22) ?_
  rintro _ w23 ⟨rfl, hk24⟩
  have ht25 := Kp.tr (Dw := False) hk24 hA hB
  replace hH := Hp.kp (Dw := False) hH hk24
  replace h_people := Sl.tr (Dw := False) h_people ht25
  replace h_cals := Sl.tr (Dw := False) h_cals ht25
  replace hK := Tr.trans (Dw := False) hK ht25
  replace hB := Nat.le_trans hB ht25.ex.size
  replace hA := ht25.new
  refine V_y (Y_move rfl) rfl rfl rfl ?_
  refine V_y (Y_extract rfl rfl) rfl rfl rfl ?_
  refine V_y (Y_extract rfl rfl) rfl rfl rfl ?_
  refine V_y (Y_assign rfl) rfl rfl rfl ?_
  refine V_y (Y_assign rfl) rfl rfl rfl ?_
  refine V_to (fun _ _ => rfl) ?_
  refine C_seq ?_
  refine C_region ?_
  refine V_y (Y_move rfl) rfl rfl rfl ?_
  refine V_y (Y_move rfl) rfl rfl rfl ?_
  refine V_y (Y_move rfl) rfl rfl rfl ?_
  obtain ⟨x26, hx26, hm⟩ := Option.bind_eq_some_iff.1 hm
  refine V_call Tryd.call7 rfl rfl rfl rfl (portref2_NextChangeOf_c w23 hA people v_people h_people cals v_cals h_cals m hx26) ?_
  rintro _ w27 ⟨rfl, hk28⟩
  have ht29 := Kp.tr (Dw := False) hk28 hA hB
  replace hH := Hp.kp (Dw := False) hH hk28
  replace h_people := Sl.tr (Dw := False) h_people ht29
  replace h_cals := Sl.tr (Dw := False) h_cals ht29
  replace hK := Tr.trans (Dw := False) hK ht29
  replace hB := Nat.le_trans hB ht29.ex.size
  replace hA := ht29.new
  refine V_y (Y_move rfl) rfl rfl rfl ?_
  refine V_y (Y_extract rfl rfl) rfl rfl rfl ?_
  refine V_y (Y_extract rfl rfl) rfl rfl rfl ?_
  refine V_y (Y_assign rfl) rfl rfl rfl ?_
  refine V_y (Y_assign rfl) rfl rfl rfl ?_
  refine V_to (fun _ _ => rfl) ?_
  refine C_seq ?_
  obtain ⟨s31, ho30, hm⟩ := Option.bind_eq_some_iff.1 hm
  refine C_cutG (ι := (Nat → Prop)) (fun (A36 : (Nat → Prop)) => [(6, .bool s31)]) (fun (A36 : (Nat → Prop)) => fun w' => Hp w.heap.size A36 w' (obS (α := Int) 3 v15 x14.1 :: obS (α := Int) 3 v6 x5.1 :: []) ∧ Tr False w.heap.size A19 w27 A36 w') ?_ ?_
  · have hr32 : Tr False w.heap.size A19 w27 A19 w27 := Tr.refl (Dw := False) hA
    refine C_region ?_
    refine V_y (Y_move rfl) rfl rfl rfl ?_
    refine V_y (Y_move rfl) rfl rfl rfl ?_
    refine V_y (Y_eql rfl rfl) rfl rfl rfl ?_
    refine V_y (Y_move rfl) rfl rfl rfl ?_
    rcases Bool.eq_false_or_eq_true (x5.2 == x14.2) with hc38 | hc38
    · rw [if_pos hc38] at ho30
      refine V_ge rfl rfl rfl hc38 ?_
      refine V_y (Y_move rfl) rfl rfl rfl ?_
      refine V_ge rfl rfl rfl hc38 ?_
      refine V_y (Y_move rfl) rfl rfl rfl ?_
      refine V_ge rfl rfl rfl hc38 ?_
      refine V_y (Y_eql rfl rfl) rfl rfl rfl ?_
      refine V_y (Y_pick_te rfl hc38 rfl) rfl rfl rfl ?_
      refine V_y (Y_move rfl) rfl rfl rfl ?_
      rcases Bool.eq_false_or_eq_true (x22.2 == x26.2) with hc39 | hc39
      · rw [if_pos hc39] at ho30
        refine V_ge rfl rfl rfl hc39 ?_
        refine V_y (Y_move rfl) rfl rfl rfl ?_
        refine V_ge rfl rfl rfl hc39 ?_
        refine V_y (Y_move rfl) rfl rfl rfl ?_
        refine V_ge rfl rfl rfl hc39 ?_
        obtain ⟨x40, hx40, ho30⟩ := Option.bind_eq_some_iff.1 ho30
        refine V_call Tryd.call8 rfl rfl rfl rfl (slices_Equal_Lint_int_c (Dw := False) w27 (A := fun _ => True) (fun _ _ => trivial) x5.1 v6 (Hp.any (α := Int) (e := 3) (v := v6) (l := x5.1) hH (i := 1) rfl) x14.1 v15 (Hp.any (α := Int) (e := 3) (v := v15) (l := x14.1) hH (i := 0) rfl) hx40) ?_
        rintro _ w41 ⟨rfl, hk42⟩
        have ht43 := Kp.tr (Dw := False) hk42 hA hB
        replace hH := Hp.kp (Dw := False) hH hk42
        replace hK := Tr.trans (Dw := False) hK ht43
        replace hr32 := Tr.trans (Dw := False) hr32 ht43
        replace hB := Nat.le_trans hB ht43.ex.size
        replace hA := ht43.new
        refine V_y (Y_pick_te rfl hc39 rfl) rfl rfl rfl ?_
        refine V_y (Y_move rfl) rfl rfl rfl ?_
        rcases Bool.eq_false_or_eq_true (x40) with hc44 | hc44
        · rw [if_pos hc44] at ho30
          refine V_ge rfl rfl rfl hc44 ?_
          refine V_y (Y_move rfl) rfl rfl rfl ?_
          refine V_ge rfl rfl rfl hc44 ?_
          refine V_y (Y_move rfl) rfl rfl rfl ?_
          refine V_ge rfl rfl rfl hc44 ?_
          refine V_y (Y_eql rfl rfl) rfl rfl rfl ?_
          refine V_y (Y_pick_te rfl hc44 rfl) rfl rfl rfl ?_
          refine V_y (Y_assign rfl) rfl rfl rfl ?_
          obtain rfl := Option.some.inj ho30
          refine V_end (fun a ha45 => ?_)
          exact ⟨A19, ha45.sub ⟨rfl, trivial⟩, ⟨hH, hr32⟩⟩
        · rw [if_neg (nt hc44)] at ho30
          refine V_gn rfl rfl rfl hc44 rfl rfl rfl ?_
          refine V_gn rfl rfl rfl hc44 rfl rfl rfl ?_
          refine V_gn rfl rfl rfl hc44 rfl rfl rfl ?_
          refine V_y (Y_pick_fe rfl hc44 rfl) rfl rfl rfl ?_
          refine V_y (Y_assign rfl) rfl rfl rfl ?_
          obtain rfl := Option.some.inj ho30
          refine V_end (fun a ha46 => ?_)
          exact ⟨A19, ha46.sub ⟨rfl, trivial⟩, ⟨hH, hr32⟩⟩
      · rw [if_neg (nt hc39)] at ho30
        refine V_gn rfl rfl rfl hc39 rfl rfl rfl ?_
        refine V_gn rfl rfl rfl hc39 rfl rfl rfl ?_
        refine V_gn rfl rfl rfl hc39 rfl rfl rfl ?_
        refine V_y (Y_pick_fe rfl hc39 rfl) rfl rfl rfl ?_
        refine V_y (Y_move rfl) rfl rfl rfl ?_
        rcases Bool.eq_false_or_eq_true (false) with hc47 | hc47
        · rw [if_pos hc47] at ho30
          refine V_ge rfl rfl rfl hc47 ?_
          refine V_y (Y_move rfl) rfl rfl rfl ?_
          refine V_ge rfl rfl rfl hc47 ?_
          refine V_y (Y_move rfl) rfl rfl rfl ?_
          refine V_ge rfl rfl rfl hc47 ?_
          refine V_y (Y_eql rfl rfl) rfl rfl rfl ?_
          refine V_y (Y_pick_te rfl hc47 rfl) rfl rfl rfl ?_
          refine V_y (Y_assign rfl) rfl rfl rfl ?_
          obtain rfl := Option.some.inj ho30
          refine V_end (fun a ha48 => ?_)
          exact ⟨A19, ha48.sub ⟨rfl, trivial⟩, ⟨hH, hr32⟩⟩
        · rw [if_neg (nt hc47)] at ho30
          refine V_gn rfl rfl rfl hc47 rfl rfl rfl ?_
          refine V_gn rfl rfl rfl hc47 rfl rfl rfl ?_
          refine V_gn rfl rfl rfl hc47 rfl rfl rfl ?_
          refine V_y (Y_pick_fe rfl hc47 rfl) rfl rfl rfl ?_
          refine V_y (Y_assign rfl) rfl rfl rfl ?_
          obtain rfl := Option.some.inj ho30
          refine V_end (fun a ha49 => ?_)
          exact ⟨A19, ha49.sub ⟨rfl, trivial⟩, ⟨hH, hr32⟩⟩
    · rw [if_neg (nt hc38)] at ho30
      refine V_gn rfl rfl rfl hc38 rfl rfl rfl ?_
      refine V_gn rfl rfl rfl hc38 rfl rfl rfl ?_
      refine V_gn rfl rfl rfl hc38 rfl rfl rfl ?_
      refine V_y (Y_pick_fe rfl hc38 rfl) rfl rfl rfl ?_
      refine V_y (Y_move rfl) rfl rfl rfl ?_
      rcases Bool.eq_false_or_eq_true (false) with hc50 | hc50
      · rw [if_pos hc50] at ho30
        refine V_ge rfl rfl rfl hc50 ?_
        refine V_y (Y_move rfl) rfl rfl rfl ?_
        refine V_ge rfl rfl rfl hc50 ?_
        refine V_y (Y_move rfl) rfl rfl rfl ?_
        refine V_ge rfl rfl rfl hc50 ?_
        obtain ⟨x51, hx51, ho30⟩ := Option.bind_eq_some_iff.1 ho30
        refine V_call Tryd.call8 rfl rfl rfl rfl (slices_Equal_Lint_int_c (Dw := False) w27 (A := fun _ => True) (fun _ _ => trivial) x5.1 v6 (Hp.any (α := Int) (e := 3) (v := v6) (l := x5.1) hH (i := 1) rfl) x14.1 v15 (Hp.any (α := Int) (e := 3) (v := v15) (l := x14.1) hH (i := 0) rfl) hx51) ?_
        rintro _ w52 ⟨rfl, hk53⟩
        have ht54 := Kp.tr (Dw := False) hk53 hA hB
        replace hH := Hp.kp (Dw := False) hH hk53
        replace hK := Tr.trans (Dw := False) hK ht54
        replace hr32 := Tr.trans (Dw := False) hr32 ht54
        replace hB := Nat.le_trans hB ht54.ex.size
        replace hA := ht54.new
        refine V_y (Y_pick_te rfl hc50 rfl) rfl rfl rfl ?_
        refine V_y (Y_move rfl) rfl rfl rfl ?_
        rcases Bool.eq_false_or_eq_true (x51) with hc55 | hc55
        · rw [if_pos hc55] at ho30
          refine V_ge rfl rfl rfl hc55 ?_
          refine V_y (Y_move rfl) rfl rfl rfl ?_
          refine V_ge rfl rfl rfl hc55 ?_
          refine V_y (Y_move rfl) rfl rfl rfl ?_
          refine V_ge rfl rfl rfl hc55 ?_
          refine V_y (Y_eql rfl rfl) rfl rfl rfl ?_
          refine V_y (Y_pick_te rfl hc55 rfl) rfl rfl rfl ?_
          refine V_y (Y_assign rfl) rfl rfl rfl ?_
          obtain rfl := Option.some.inj ho30
          refine V_end (fun a ha56 => ?_)
          exact ⟨A19, ha56.sub ⟨rfl, trivial⟩, ⟨hH, hr32⟩⟩
        · rw [if_neg (nt hc55)] at ho30
          refine V_gn rfl rfl rfl hc55 rfl rfl rfl ?_
          refine V_gn rfl rfl rfl hc55 rfl rfl rfl ?_
          refine V_gn rfl rfl rfl hc55 rfl rfl rfl ?_
          refine V_y (Y_pick_fe rfl hc55 rfl) rfl rfl rfl ?_
          refine V_y (Y_assign rfl) rfl rfl rfl ?_
          obtain rfl := Option.some.inj ho30
          refine V_end (fun a ha57 => ?_)
          exact ⟨A19, ha57.sub ⟨rfl, trivial⟩, ⟨hH, hr32⟩⟩
      · rw [if_neg (nt hc50)] at ho30
        refine V_gn rfl rfl rfl hc50 rfl rfl rfl ?_
        refine V_gn rfl rfl rfl hc50 rfl rfl rfl ?_
        refine V_gn rfl rfl rfl hc50 rfl rfl rfl ?_
        refine V_y (Y_pick_fe rfl hc50 rfl) rfl rfl rfl ?_
        refine V_y (Y_move rfl) rfl rfl rfl ?_
        rcases Bool.eq_false_or_eq_true (false) with hc58 | hc58
        · rw [if_pos hc58] at ho30
          refine V_ge rfl rfl rfl hc58 ?_
          refine V_y (Y_move rfl) rfl rfl rfl ?_
          refine V_ge rfl rfl rfl hc58 ?_
          refine V_y (Y_move rfl) rfl rfl rfl ?_
          refine V_ge rfl rfl rfl hc58 ?_
          refine V_y (Y_eql rfl rfl) rfl rfl rfl ?_
          refine V_y (Y_pick_te rfl hc58 rfl) rfl rfl rfl ?_
          refine V_y (Y_assign rfl) rfl rfl rfl ?_
          obtain rfl := Option.some.inj ho30
          refine V_end (fun a ha59 => ?_)
          exact ⟨A19, ha59.sub ⟨rfl, trivial⟩, ⟨hH, hr32⟩⟩
        · rw [if_neg (nt hc58)] at ho30
          refine V_gn rfl rfl rfl hc58 rfl rfl rfl ?_
          refine V_gn rfl rfl rfl hc58 rfl rfl rfl ?_
          refine V_gn rfl rfl rfl hc58 rfl rfl rfl ?_
          refine V_y (Y_pick_fe rfl hc58 rfl) rfl rfl rfl ?_
          refine V_y (Y_assign rfl) rfl rfl rfl ?_
          obtain rfl := Option.some.inj ho30
          refine V_end (fun a ha60 => ?_)
          exact ⟨A19, ha60.sub ⟨rfl, trivial⟩, ⟨hH, hr32⟩⟩
  rintro A36 w33 ⟨hH37, hk34⟩ a ha35
  replace hK := Tr.trans (Dw := False) hK hk34
  replace hB := Nat.le_trans hB hk34.ex.size
  replace hA := hk34.new
  replace hH : Hp w.heap.size A36 w33 (obS (α := Int) 3 v15 x14.1 :: obS (α := Int) 3 v6 x5.1 :: []) := hH37
  refine C_at (n := ⟨61, [], none⟩) (fun _ _ => rfl) ?_ ha35
  obtain rfl := Option.some.inj hm
  refine C_ret ?_
  try simp only [↓inBlock_ret, ↓then_ret]
  exact retQ rfl (Res.one Tryd.results3 rfl) ⟨rfl, hK.kp⟩

end Go.Proofs.YtehofjchjogbkaaDoor.W
