/-
  Written by program (gen.py) from the IR of the dump: each function computes its model.
-/
import Derived.Test.YtpfoimbklbkcpaaClockDueFromW0
namespace Go.Proofs.Ytpfoimbklbkcpaa.W
open Go Go.RowKit Go.Pu Go.Gw Go.Proofs Go.Proofs.Ytpfoimbklbkcpaa.M
set_option linter.unusedVariables false

set_option maxRecDepth 4000 in
set_option maxHeartbeats 4000000 in
theorem cal_Calendar_shifts_1_c (w : World) {A : Nat → Prop} {B : Nat} (hB : B ≤ w.heap.size) (hA : ∀ b, w.heap.size ≤ b → A b) {yield_S : Type} (yield : cal_Span → yield_S → Option (Bool × yield_S)) (yield_Y : yield_S → Ob) (yield_v : Value) (yield_one : yield_v.cells.toList = [yield_v]) (yield_s : yield_S) (yield_spec : ∀ (w2 : World) (A2 : Nat → Prop) (L2 : List Ob) (x : cal_Span) (z : yield_S) (b : Bool) (z2 : yield_S), B ≤ w2.heap.size → (∀ b, w2.heap.size ≤ b → A2 b) → Tr B A w A2 w2 → Hp B A2 w2 (yield_Y z :: L2) → yield x z = some (b, z2) → CallV Try.prog yield_v [.agg #[.int .i64 x.from_, .int .i64 x.to_]] w2 fun v w3 => v = .bool b ∧ ∃ A3, Tr B A2 w2 A3 w3 ∧ Hp B A3 w3 (yield_Y z2 :: L2)) (p1 : cal_Calendar) (b_p1 : Nat) (h_p1 : El A w b_p1 0 p1) (p2 : Int) (b_p2 : Nat) (h_p2 : El A w b_p2 0 p2) (p3 : Int) (b_p3 : Nat) (h_p3 : El A w b_p3 0 p3) {L : List Ob} (hH : Hp B A w (yield_Y yield_s :: L)) {r : yield_S} (hm : cal_Calendar_shifts_1 yield yield_s p1 p2 p3 = some r) : Ret Try.prog 105 #[yield_v, .pointer (some ⟨b_p1, 0, none⟩), .pointer (some ⟨b_p2, 0, none⟩), .pointer (some ⟨b_p3, 0, none⟩)] w fun v w' => ∃ A1 : Nat → Prop, v = .tuple #[] ∧ Hp B A1 w' (yield_Y r :: L) ∧ Tr B A w A1 w' := by
  unfold cal_Calendar_shifts_1 at hm
  refine enter Try.func105 rfl Try.ntmps105 rfl ?_
  have hK : Tr B A w A w := Tr.refl hA
  refine C_seq ?_
  refine C_region ?_
  refine V_box rfl rfl ?_
  intro b1 w2 h3
  have hk4 := h3.kp
  have h5 : Vb A w2 b1 yield_v := h3.vb hA yield_one
  have ht6 := Kp.tr hk4 hA hB
  replace hH := Hp.kp hH hk4
  replace h_p1 := El.tr h_p1 ht6
  replace h_p2 := El.tr h_p2 ht6
  replace h_p3 := El.tr h_p3 ht6
  replace hK := Tr.trans hK ht6
  replace hB := Nat.le_trans hB ht6.ex.size
  replace hA := ht6.new
  refine V_to (fun _ _ => rfl) ?_
  refine C_seq ?_
  refine C_region ?_
  have h7 := El_cal_Calendar_0 h_p1
  refine V_y (Y_fieldAddr Try.underlying28 rfl Try.sizeOf24 (by decide) rfl) rfl rfl rfl ?_
  obtain ⟨v8, h10, h9⟩ := El_cal_Zone h7
  refine V_y (Y_loadA h10 Try.isAgg24 Try.sizeOf24 rfl) rfl rfl rfl ?_
  obtain ⟨x11, hx11, hm⟩ := Option.bind_eq_some_iff.1 hm
  refine V_call Try.call106 rfl rfl rfl rfl (cal_Zone_parts_c w2 hA p1.zone v8 h9 hx11) ?_
  rintro v12 w14 ⟨_, rfl, h13, hk15⟩
  obtain ⟨A16, ht17, hH18⟩ := Hp.addOwnd hH hB hA hk15 h13
  replace h_p1 := El.tr h_p1 ht17
  replace h_p2 := El.tr h_p2 ht17
  replace h_p3 := El.tr h_p3 ht17
  replace h5 := Vb.tr h5 ht17
  replace h7 := El.tr h7 ht17
  replace h9 := Sl.tr h9 ht17
  replace hK := Tr.trans hK ht17
  replace hB := Nat.le_trans hB ht17.ex.size
  replace hA := ht17.new
  replace hH : Hp B A16 w14 (obS (α := cal_part) 139 v12 x11 :: yield_Y yield_s :: L) := hH18
  refine V_y (Y_lenSl (Hp.any (α := cal_part) (e := 139) (v := v12) (l := x11) hH (i := 0) rfl) rfl Try.underlying136 rfl) rfl rfl rfl ?_
  refine V_y (Y_move rfl) rfl rfl rfl ?_
  refine V_to (fun _ _ => rfl) ?_
  have hn39 := Hp.le (α := cal_part) (e := 139) (v := v12) (l := x11) hH (i := 0) rfl
  obtain ⟨o19, ho19, hm⟩ := Option.bind_eq_some_iff.1 hm
  refine C_cutG (ι := (yield_S × (Nat → Prop))) (fun ⟨s20, A26⟩ => []) (fun ⟨s20, A26⟩ => fun w' => o19 = .fin s20 ∧ Hp B A26 w' (obS (α := cal_part) 139 v12 x11 :: yield_Y s20 :: L) ∧ Tr B A16 w14 A26 w') ?_ ?_
  · refine C_block ?_
    refine C_range ho19 (fun k22 s28 a w' => ∃ i : (Nat → Prop), Has ⟨52, [], none⟩ a ([(1, .pointer (some ⟨b_p1, 0, none⟩)), (2, .pointer (some ⟨b_p2, 0, none⟩)), (3, .pointer (some ⟨b_p3, 0, none⟩)), (4, .pointer (some ⟨b1, 0, none⟩)), (13, v12), (14, .int .i64 (x11.length : Int)), (15, .int .i64 (k22 : Int))]) ∧ Hp B i w' (obS (α := cal_part) 139 v12 x11 :: yield_Y s28 :: L) ∧ Tr B A16 w14 i w') (fun a ha => ⟨A16, ha.sub ⟨rfl, rfl, rfl, rfl, rfl, rfl, rfl, trivial⟩, ⟨hH, Tr.refl hA⟩⟩) ?_
    rintro K k22 s28 a w29 ⟨A30, ha119, hH31, hr21⟩ hle35 K38 h37
    refine C_of ?_ ha119
    replace h_p1 := El.tr h_p1 hr21
    replace h_p2 := El.tr h_p2 hr21
    replace h_p3 := El.tr h_p3 hr21
    replace h5 := Vb.tr h5 hr21
    replace hK := Tr.trans hK hr21
    replace hB := Nat.le_trans hB hr21.ex.size
    replace hA := hr21.new
    replace hH : Hp B A30 w29 (obS (α := cal_part) 139 v12 x11 :: yield_Y s28 :: L) := hH31
    refine C_seq (C_region (V_y (Y_lss rfl rfl) rfl rfl rfl (V_to (fun _ _ => rfl) ?_)))
    refine C_seq ?_
    refine C_cond rfl (fun hc40 => ?_) (fun hc40 => ?_)
    · have hlt36 := lt_of_dec hc40
      obtain ⟨x32, h33, h34⟩ := K38 hlt36
      refine C_skip_to (fun _ _ => rfl) ?_
      refine C_seq ?_
      obtain ⟨o41, ho41, h33⟩ := Option.bind_eq_some_iff.1 h33
      refine C_cutG (ι := (yield_S × (Nat → Prop))) (fun ⟨s42, A47⟩ => [(1, .pointer (some ⟨b_p1, 0, none⟩)), (2, .pointer (some ⟨b_p2, 0, none⟩)), (3, .pointer (some ⟨b_p3, 0, none⟩)), (4, .pointer (some ⟨b1, 0, none⟩)), (13, v12), (14, .int .i64 (x11.length : Int)), (15, .int .i64 (k22 : Int))]) (fun ⟨s42, A47⟩ => fun w' => o41 = .fin s42 ∧ Hp B A47 w' (obS (α := cal_part) 139 v12 x11 :: yield_Y s42 :: L) ∧ Tr B A30 w29 A47 w') ?_ ?_
      · have hr43 : Tr B A30 w29 A30 w29 := Tr.refl hA
        refine C_block ?_
        refine C_seq ?_
        refine C_region ?_
        obtain ⟨x49, hx49, ho41⟩ := Option.bind_eq_some_iff.1 ho41
        refine V_indexAddrH (α := cal_part) (e := 139) (v := v12) (l := x11) hH (i := 0) rfl hx49 Try.underlying136 Try.sizeOf139 rfl rfl rfl ?_
        intro b50 o51 h52 hl53
        obtain ⟨h54, _⟩ := El_cal_part h52
        refine V_y (Y_loadA h54 Try.isAgg139 Try.sizeOf139 rfl) rfl rfl rfl ?_
        refine V_alloc Try.zeroValue139 rfl ?_
        intro b55 w56 h57
        refine V_storeNew h57 Try.sizeOf139 rfl rfl rfl rfl (by exact (List.forall_mem_cons.2 ⟨rfl, (List.forall_mem_cons.2 ⟨rfl, (List.forall_mem_cons.2 ⟨rfl, (fun _ h => nomatch h)⟩)⟩)⟩)) ?_
        intro w58 h59
        have hk61 := h59.kp
        have h60 : El (α := cal_part) A30 w58 b55 0 x49 := h59.el hA ⟨[.int .i64 x49.from_], _, rfl, rfl, ⟨[.int .i64 x49.to_], _, rfl, rfl, rfl⟩⟩
        have ht62 := Kp.tr hk61 hA hB
        replace hH := Hp.kp hH hk61
        replace h_p1 := El.tr h_p1 ht62
        replace h_p2 := El.tr h_p2 ht62
        replace h_p3 := El.tr h_p3 ht62
        replace h5 := Vb.tr h5 ht62
        replace h52 := El.kp h52 hk61
        replace hK := Tr.trans hK ht62
        replace hr21 := Tr.trans hr21 ht62
        replace hr43 := Tr.trans hr43 ht62
        replace hB := Nat.le_trans hB ht62.ex.size
        replace hA := ht62.new
        refine V_to (fun _ _ => rfl) ?_
        refine C_seq ?_
        refine C_region_def (B := B) (k := 8) [(7, 3, .int .i64 0), (8, 3, .int .i64 0)] [(22, 3), (26, 7)] Try_mixed (by kernel_rfl) rfl ⟨⟨_, _, _, rfl, by simp⟩, Try.zeroValue3, ⟨⟨_, _, _, rfl, by simp⟩, Try.zeroValue3, trivial⟩⟩ ⟨⟨_, _, _, rfl, by decide, by decide⟩, by decide, rfl, Try.sizeOf3, ⟨⟨_, _, _, rfl, by decide, by decide⟩, by decide, rfl, Try.sizeOf3, trivial⟩⟩ rfl rfl (by decide) (by simp [Value.cells]) hH hB hA ?_
        simp only [List.take]
        refine VQ_y (fun w' hw' => Y_load (El.int (El.kp h_p2 hw')) Try.isAgg3 rfl) rfl rfl rfl ?_
        have h70 := El_cal_part_0 h60
        refine VQ_y (fun w' hw' => Y_fieldAddr Try.underlying139 rfl Try.sizeOf3 (by decide) rfl) rfl rfl rfl ?_
        refine VQ_y (fun w' hw' => Y_load (El.int (El.kp h70 hw')) Try.isAgg3 rfl) rfl rfl rfl ?_
        refine VQ_y (fun w' hw' => Y_max2 rfl rfl) rfl rfl rfl ?_
        refine VQ_y (fun w' hw' => Y_load (El.int (El.kp h_p3 hw')) Try.isAgg3 rfl) rfl rfl rfl ?_
        have h71 := El_cal_part_1 h60
        refine VQ_y (fun w' hw' => Y_fieldAddr Try.underlying139 rfl Try.sizeOf3 (by decide) rfl) rfl rfl rfl ?_
        refine VQ_y (fun w' hw' => Y_load (El.int (El.kp h71 hw')) Try.isAgg3 rfl) rfl rfl rfl ?_
        refine VQ_y (fun w' hw' => Y_min2 rfl rfl) rfl rfl rfl ?_
        refine VQ_end fun a ha => ⟨_, [.int .i64 (if p2 < x49.from_ then x49.from_ else p2), .int .i64 (if x49.to_ < p3 then x49.to_ else p3)], ha, rfl, rfl, (by intro v hv; simp only [List.mem_cons, List.not_mem_nil, or_false] at hv; rcases hv with rfl | rfl <;> exact ⟨rfl, rfl⟩), fun b63 w65 A66 hH67 ht68 a ha69 => ?_⟩
        replace h_p1 := El.tr h_p1 ht68
        replace h_p2 := El.tr h_p2 ht68
        replace h_p3 := El.tr h_p3 ht68
        replace h5 := Vb.tr h5 ht68
        replace h60 := El.tr h60 ht68
        replace h70 := El.tr h70 ht68
        replace h71 := El.tr h71 ht68
        replace hK := Tr.trans hK ht68
        replace hr21 := Tr.trans hr21 ht68
        replace hr43 := Tr.trans hr43 ht68
        replace hB := Nat.le_trans hB ht68.ex.size
        replace hA := ht68.new
        replace hH : Hp B A66 w65 (obC (b63 0) [.int .i64 (if p2 < x49.from_ then x49.from_ else p2)] 3 :: obC (b63 1) [.int .i64 (if x49.to_ < p3 then x49.to_ else p3)] 3 :: obS (α := cal_part) 139 v12 x11 :: yield_Y s28 :: L) := hH67
        obtain ⟨A72, ht73, h74, hH75⟩ := Hp.freezeC (α := Int) (x := (if p2 < x49.from_ then x49.from_ else p2)) hH (i := 0) rfl hA rfl
        replace h_p1 := El.tr h_p1 ht73
        replace h_p2 := El.tr h_p2 ht73
        replace h_p3 := El.tr h_p3 ht73
        replace h5 := Vb.tr h5 ht73
        replace h60 := El.tr h60 ht73
        replace h70 := El.tr h70 ht73
        replace h71 := El.tr h71 ht73
        replace hK := Tr.trans hK ht73
        replace hr21 := Tr.trans hr21 ht73
        replace hr43 := Tr.trans hr43 ht73
        replace hB := Nat.le_trans hB ht73.ex.size
        replace hA := ht73.new
        replace hH : Hp B A72 w65 (obC (b63 1) [.int .i64 (if x49.to_ < p3 then x49.to_ else p3)] 3 :: obS (α := cal_part) 139 v12 x11 :: yield_Y s28 :: L) := hH75
        obtain ⟨A76, ht77, h78, hH79⟩ := Hp.freezeC (α := Int) (x := (if x49.to_ < p3 then x49.to_ else p3)) hH (i := 0) rfl hA rfl
        replace h_p1 := El.tr h_p1 ht77
        replace h_p2 := El.tr h_p2 ht77
        replace h_p3 := El.tr h_p3 ht77
        replace h5 := Vb.tr h5 ht77
        replace h60 := El.tr h60 ht77
        replace h70 := El.tr h70 ht77
        replace h71 := El.tr h71 ht77
        replace h74 := El.tr h74 ht77
        replace hK := Tr.trans hK ht77
        replace hr21 := Tr.trans hr21 ht77
        replace hr43 := Tr.trans hr43 ht77
        replace hB := Nat.le_trans hB ht77.ex.size
        replace hA := ht77.new
        replace hH : Hp B A76 w65 (obS (α := cal_part) 139 v12 x11 :: yield_Y s28 :: L) := hH79
        refine C_at (n := ⟨52, [], none⟩) (fun _ _ => rfl) ?_ ha69
        refine C_seq ?_
        refine C_region ?_
        refine V_y (Y_makeFunc rfl rfl) rfl rfl rfl ?_
        refine V_y (Y_assign rfl) rfl rfl rfl ?_
        refine V_to (fun _ _ => rfl) ?_
        refine C_seq ?_
        refine C_seq ?_
        refine C_region ?_
        refine V_y (Y_load (El.int h74) Try.isAgg3 rfl) rfl rfl rfl ?_
        refine V_y (Y_load (El.int h78) Try.isAgg3 rfl) rfl rfl rfl ?_
        refine V_y (Y_geq rfl rfl) rfl rfl rfl ?_
        refine V_to (fun _ _ => rfl) ?_
        refine C_cond rfl (fun hc80 => ?_) (fun hc80 => ?_)
        · rw [if_pos hc80] at ho41
          obtain rfl := Option.some.inj ho41
          refine C_exit (fun a ha81 => ?_)
          exact ⟨(s28, A76), ha81.sub ⟨rfl, rfl, rfl, rfl, rfl, rfl, rfl, trivial⟩, ⟨rfl, hH, hr43⟩⟩
        · rw [if_neg (nt hc80)] at ho41
          refine C_skip_to (fun _ _ => rfl) ?_
          refine C_seq ?_
          refine C_region ?_
          refine V_y (Y_load (El.int h74) Try.isAgg3 rfl) rfl rfl rfl ?_
          have h82 := El_cal_part_2 h60
          refine V_y (Y_fieldAddr Try.underlying139 rfl Try.sizeOf3 (by decide) rfl) rfl rfl rfl ?_
          refine V_y (Y_load (El.int h82) Try.isAgg3 rfl) rfl rfl rfl ?_
          refine V_y (Y_addI rfl rfl) rfl rfl rfl ?_
          obtain ⟨x83, hx83, ho41⟩ := Option.bind_eq_some_iff.1 ho41
          refine V_call Try.call109 rfl rfl rfl rfl (cal_floor_c w65 (w64 ((if p2 < x49.from_ then x49.from_ else p2) + x49.offset)) 1440 hx83) ?_
          rintro _ _ ⟨rfl, rfl⟩
          refine V_y (Y_subI rfl rfl) rfl rfl rfl ?_
          refine V_y (Y_assign rfl) rfl rfl rfl ?_
          refine V_to (fun _ _ => rfl) ?_
          obtain ⟨o84, ho84, ho41⟩ := Option.bind_eq_some_iff.1 ho41
          refine C_cutG (ι := ((Int × yield_S) × (Nat → Prop))) (fun ⟨s85, A91⟩ => [(1, .pointer (some ⟨b_p1, 0, none⟩)), (2, .pointer (some ⟨b_p2, 0, none⟩)), (3, .pointer (some ⟨b_p3, 0, none⟩)), (4, .pointer (some ⟨b1, 0, none⟩)), (13, v12), (14, .int .i64 (x11.length : Int)), (15, .int .i64 (k22 : Int))]) (fun ⟨s85, A91⟩ => fun w' => o84 = .fin s85 ∧ Hp B A91 w' (obS (α := cal_part) 139 v12 x11 :: yield_Y s85.2 :: L) ∧ Tr B A76 w65 A91 w') ?_ ?_
          · refine C_block ?_
            refine C_while ho84 (fun s93 a w' => ∃ i : (Nat → Prop), Has ⟨52, [], none⟩ a ([(1, .pointer (some ⟨b_p1, 0, none⟩)), (2, .pointer (some ⟨b_p2, 0, none⟩)), (3, .pointer (some ⟨b_p3, 0, none⟩)), (4, .pointer (some ⟨b1, 0, none⟩)), (6, .pointer (some ⟨b55, 0, none⟩)), (8, .pointer (some ⟨(b63 1), 0, none⟩)), (9, .func (.func 107) #[] #[.pointer (some ⟨b_p1, 0, none⟩), .pointer (some ⟨b55, 0, none⟩), .pointer (some ⟨(b63 0), 0, none⟩), .pointer (some ⟨(b63 1), 0, none⟩), .pointer (some ⟨b1, 0, none⟩)]), (10, .int .i64 s93.1), (13, v12), (14, .int .i64 (x11.length : Int)), (15, .int .i64 (k22 : Int))]) ∧ Hp B i w' (obS (α := cal_part) 139 v12 x11 :: yield_Y s93.2 :: L) ∧ Tr B A76 w65 i w') (fun a ha => ⟨A76, ha.sub ⟨rfl, rfl, rfl, rfl, rfl, rfl, rfl, rfl, rfl, rfl, rfl, trivial⟩, ⟨hH, Tr.refl hA⟩⟩) ?_
            rintro K s93 a w94 ⟨A95, ha115, hH96, hr86⟩ K103
            refine C_of ?_ ha115
            replace h_p1 := El.tr h_p1 hr86
            replace h_p2 := El.tr h_p2 hr86
            replace h_p3 := El.tr h_p3 hr86
            replace h5 := Vb.tr h5 hr86
            replace h60 := El.tr h60 hr86
            replace h78 := El.tr h78 hr86
            replace h74 := El.tr h74 hr86
            replace hK := Tr.trans hK hr86
            replace hr21 := Tr.trans hr21 hr86
            replace hr43 := Tr.trans hr43 hr86
            replace hB := Nat.le_trans hB hr86.ex.size
            replace hA := hr86.new
            replace hH : Hp B A95 w94 (obS (α := cal_part) 139 v12 x11 :: yield_Y s93.2 :: L) := hH96
            obtain ⟨x97, h98, h99⟩ := K103
            refine C_seq ?_
            refine C_seq ?_
            refine C_region ?_
            refine V_y (Y_move rfl) rfl rfl rfl ?_
            refine V_y (Y_load (El.int h78) Try.isAgg3 rfl) rfl rfl rfl ?_
            refine V_y (Y_subI rfl rfl) rfl rfl rfl ?_
            have h104 := El_cal_part_2 h60
            refine V_y (Y_fieldAddr Try.underlying139 rfl Try.sizeOf3 (by decide) rfl) rfl rfl rfl ?_
            refine V_y (Y_load (El.int h104) Try.isAgg3 rfl) rfl rfl rfl ?_
            refine V_y (Y_addI rfl rfl) rfl rfl rfl ?_
            obtain ⟨x105, hx105, h98⟩ := Option.bind_eq_some_iff.1 h98
            refine V_call Try.call109 rfl rfl rfl rfl (cal_floor_c w94 (w64 ((w64 ((if x49.to_ < p3 then x49.to_ else p3) - 1)) + x49.offset)) 1440 hx105) ?_
            rintro _ _ ⟨rfl, rfl⟩
            refine V_y (Y_leq rfl rfl) rfl rfl rfl ?_
            refine V_to (fun _ _ => rfl) ?_
            refine C_cond rfl (fun hc106 => ?_) (fun hc106 => ?_)
            · rw [if_pos hc106] at h98
              refine C_skip_to (fun _ _ => rfl) ?_
              refine C_seq ?_
              refine C_block ?_
              refine C_seq ?_
              refine C_region ?_
              refine V_y (Y_move rfl) rfl rfl rfl ?_
              refine V_y (Y_move rfl) rfl rfl rfl ?_
              replace hH : Hp B A95 w94 (yield_Y s93.2 :: obS (α := cal_part) 139 v12 x11 :: L) := Hp.front hH (i := 1) rfl
              obtain ⟨x107, hx107, h98⟩ := Option.bind_eq_some_iff.1 h98
              refine V_call Try.call107 rfl rfl rfl rfl (cal_Calendar_shifts_1_1_c w94 hB hA s93.1 p1 b_p1 h_p1 x49 b55 h60 (if p2 < x49.from_ then x49.from_ else p2) (b63 0) h74 (if x49.to_ < p3 then x49.to_ else p3) (b63 1) h78 yield yield_Y yield_v yield_one s93.2 (fun w2 A2 L2 x2 z2 b2 z3 h1 h2 h3 => yield_spec w2 A2 L2 x2 z2 b2 z3 h1 h2 (Tr.trans hK h3)) b1 h5 hH hx107) ?_
              rintro _ w108 ⟨A109, rfl, hH110, ht111⟩
              replace h_p1 := El.tr h_p1 ht111
              replace h_p2 := El.tr h_p2 ht111
              replace h_p3 := El.tr h_p3 ht111
              replace h5 := Vb.tr h5 ht111
              replace h60 := El.tr h60 ht111
              replace h78 := El.tr h78 ht111
              replace h74 := El.tr h74 ht111
              replace hK := Tr.trans hK ht111
              replace hr21 := Tr.trans hr21 ht111
              replace hr43 := Tr.trans hr43 ht111
              replace hr86 := Tr.trans hr86 ht111
              replace hB := Nat.le_trans hB ht111.ex.size
              replace hA := ht111.new
              replace hH : Hp B A109 w108 (yield_Y x107.2 :: obS (α := cal_part) 139 v12 x11 :: L) := hH110
              refine V_y (Y_not rfl) rfl rfl rfl ?_
              refine V_to (fun _ _ => rfl) ?_
              refine C_cond rfl (fun hc112 => ?_) (fun hc112 => ?_)
              · rw [if_pos hc112] at h98
                obtain rfl := Option.some.inj h98
                obtain rfl := (h99 : Lp.rt _ = _)
                rw [Lp.andThen_rt] at ho41
                obtain rfl := Option.some.inj ho41
                rw [Lp.andThen_rt] at h33
                obtain rfl := Option.some.inj h33
                obtain rfl := (h34 : Lp.rt _ = _)
                rw [Lp.andThen_rt] at hm
                obtain rfl := Option.some.inj hm
                replace hH : Hp B A109 w108 (yield_Y x107.2 :: L) := Hp.drop hH (i := 1) rfl
                refine C_ret ?_
                try simp only [↓inBlock_ret, ↓then_ret]
                exact retQ rfl (Res.zero Try.results105) ⟨A109, rfl, hH, hK⟩
              · rw [if_neg (nt hc112)] at h98
                refine C_skip_to (fun _ _ => rfl) ?_
                refine C_region ?_
                refine V_y (Y_move rfl) rfl rfl rfl ?_
                refine V_y (Y_addI rfl rfl) rfl rfl rfl ?_
                refine V_y (Y_assign rfl) rfl rfl rfl ?_
                obtain rfl := Option.some.inj h98
                refine V_end (fun a ha113 => ?_)
                replace hH : Hp B A109 w108 (obS (α := cal_part) 139 v12 x11 :: yield_Y x107.2 :: L) := Hp.front hH (i := 1) rfl
                exact ⟨(w64 (s93.1 + 1), x107.2), h99, ⟨A109, ha113.sub ⟨rfl, rfl, rfl, rfl, rfl, rfl, rfl, rfl, rfl, rfl, rfl, trivial⟩, ⟨hH, hr86⟩⟩⟩
            · rw [if_neg (nt hc106)] at h98
              obtain rfl := Option.some.inj h98
              refine C_exit (fun a ha114 => ?_)
              exact ⟨((s93.1, s93.2), A95), ha114.sub ⟨rfl, rfl, rfl, rfl, rfl, rfl, rfl, trivial⟩, ⟨h99.symm, hH, hr86⟩⟩
          rintro ⟨s85, A91⟩ w88 ⟨rfl, hH92, hk89⟩ a ha90
          rw [Lp.andThen_fin] at ho41
          replace h_p1 := El.tr h_p1 hk89
          replace h_p2 := El.tr h_p2 hk89
          replace h_p3 := El.tr h_p3 hk89
          replace h5 := Vb.tr h5 hk89
          replace hK := Tr.trans hK hk89
          replace hr21 := Tr.trans hr21 hk89
          replace hr43 := Tr.trans hr43 hk89
          replace hB := Nat.le_trans hB hk89.ex.size
          replace hA := hk89.new
          replace hH : Hp B A91 w88 (obS (α := cal_part) 139 v12 x11 :: yield_Y s85.2 :: L) := hH92
          obtain rfl := Option.some.inj ho41
          exact ⟨(s85.2, A91), ha90.sub ⟨rfl, rfl, rfl, rfl, rfl, rfl, rfl, trivial⟩, ⟨rfl, hH, hr43⟩⟩
      rintro ⟨s42, A47⟩ w44 ⟨rfl, hH48, hk45⟩ a ha46
      rw [Lp.andThen_fin] at h33
      replace h_p1 := El.tr h_p1 hk45
      replace h_p2 := El.tr h_p2 hk45
      replace h_p3 := El.tr h_p3 hk45
      replace h5 := Vb.tr h5 hk45
      replace hK := Tr.trans hK hk45
      replace hr21 := Tr.trans hr21 hk45
      replace hB := Nat.le_trans hB hk45.ex.size
      replace hA := hk45.new
      replace hH : Hp B A47 w44 (obS (α := cal_part) 139 v12 x11 :: yield_Y s42 :: L) := hH48
      refine C_at (n := ⟨52, [], none⟩) (fun _ _ => rfl) ?_ ha46
      refine C_region ?_
      refine V_y (Y_addI rfl rfl) rfl rfl rfl ?_
      refine V_y (Y_move rfl) rfl rfl rfl ?_
      obtain rfl := Option.some.inj h33
      refine V_end (fun a ha117 => ?_)
      exact ⟨s42, hlt36, h34, ⟨A47, ha117.sub ⟨rfl, rfl, rfl, rfl, rfl, rfl, (congrArg (fun z => some (Value.int .i64 z)) (w64_succ hlt36 hn39)), trivial⟩, ⟨hH, hr21⟩⟩⟩
    · refine C_exit (fun a ha118 => ?_)
      exact ⟨(s28, A30), ha118.sub trivial, ⟨(h37 (eq_of_dec hle35 hc40)).symm, hH, hr21⟩⟩
  rintro ⟨s20, A26⟩ w23 ⟨rfl, hH27, hk24⟩ a ha25
  rw [Lp.andThen_fin] at hm
  replace hK := Tr.trans hK hk24
  replace hB := Nat.le_trans hB hk24.ex.size
  replace hA := hk24.new
  replace hH : Hp B A26 w23 (obS (α := cal_part) 139 v12 x11 :: yield_Y s20 :: L) := hH27
  obtain rfl := Option.some.inj hm
  replace hH : Hp B A26 w23 (yield_Y s20 :: obS (α := cal_part) 139 v12 x11 :: L) := Hp.front hH (i := 1) rfl
  replace hH : Hp B A26 w23 (yield_Y s20 :: L) := Hp.drop hH (i := 1) rfl
  try simp only [↓inBlock_ret, ↓then_ret]
  exact normQ (retQ rfl (Res.zero Try.results105) ⟨A26, rfl, hH, hK⟩ a ha25)

set_option maxRecDepth 4000 in
set_option maxHeartbeats 4000000 in
theorem cal_Calendar_open_1_c (w : World) {A : Nat → Prop} {B : Nat} (hB : B ≤ w.heap.size) (hA : ∀ b, w.heap.size ≤ b → A b) {yield_S : Type} (yield : cal_Span → yield_S → Option (Bool × yield_S)) (yield_Y : yield_S → Ob) (yield_v : Value) (yield_one : yield_v.cells.toList = [yield_v]) (yield_s : yield_S) (yield_spec : ∀ (w2 : World) (A2 : Nat → Prop) (L2 : List Ob) (x : cal_Span) (z : yield_S) (b : Bool) (z2 : yield_S), B ≤ w2.heap.size → (∀ b, w2.heap.size ≤ b → A2 b) → Tr B A w A2 w2 → Hp B A2 w2 (yield_Y z :: L2) → yield x z = some (b, z2) → CallV Try.prog yield_v [.agg #[.int .i64 x.from_, .int .i64 x.to_]] w2 fun v w3 => v = .bool b ∧ ∃ A3, Tr B A2 w2 A3 w3 ∧ Hp B A3 w3 (yield_Y z2 :: L2)) (p1 : cal_Calendar) (b_p1 : Nat) (h_p1 : El A w b_p1 0 p1) (p2 : Int) (b_p2 : Nat) (h_p2 : El A w b_p2 0 p2) (p3 : Int) (b_p3 : Nat) (h_p3 : El A w b_p3 0 p3) {L : List Ob} (hH : Hp B A w (yield_Y yield_s :: L)) {r : yield_S} (hm : cal_Calendar_open_1 yield yield_s p1 p2 p3 = some r) : Ret Try.prog 87 #[yield_v, .pointer (some ⟨b_p1, 0, none⟩), .pointer (some ⟨b_p2, 0, none⟩), .pointer (some ⟨b_p3, 0, none⟩)] w fun v w' => ∃ A1 : Nat → Prop, v = .tuple #[] ∧ Hp B A1 w' (yield_Y r :: L) ∧ Tr B A w A1 w' := by
  unfold cal_Calendar_open_1 at hm
  refine enterM Try.func87 rfl Try.ntmps87 rfl ?_
  have hK : Tr B A w A w := Tr.refl hA
  refine C_seq ?_
  refine C_region ?_
  refine V_box rfl rfl ?_
  intro b1 w2 h3
  have hk4 := h3.kp
  have h5 : Vb A w2 b1 yield_v := h3.vb hA yield_one
  have ht6 := Kp.tr hk4 hA hB
  replace hH := Hp.kp hH hk4
  replace h_p1 := El.tr h_p1 ht6
  replace h_p2 := El.tr h_p2 ht6
  replace h_p3 := El.tr h_p3 ht6
  replace hK := Tr.trans hK ht6
  replace hB := Nat.le_trans hB ht6.ex.size
  replace hA := ht6.new
  refine V_to (fun _ _ => rfl) ?_
  refine C_seq ?_
  refine C_region ?_
  refine V_y (Y_build Try.underlying48 Try.zeroValue48 (Try_places48 _ Try.underlying48) rfl (by with_unfolding_all rfl)) rfl rfl rfl ?_
  refine V_allocH (B := B) hH Try.zeroValue48 hB hA rfl ?_
  intro b7 w9 A10 hH11 ht12
  replace h_p1 := El.tr h_p1 ht12
  replace h_p2 := El.tr h_p2 ht12
  replace h_p3 := El.tr h_p3 ht12
  replace h5 := Vb.tr h5 ht12
  replace hK := Tr.trans hK ht12
  replace hB := Nat.le_trans hB ht12.ex.size
  replace hA := ht12.new
  replace hH : Hp B A10 w9 (obC b7 [.int .i64 0, .int .i64 0] 48 :: yield_Y yield_s :: L) := hH11
  refine V_storeC (off := 0) (ds := [.int .i64 (-1), .int .i64 (-1)]) hH (i := 0) rfl Try.sizeOf48 rfl (Nat.le_of_ble_eq_true rfl) (by simp [Value.cells, Value.oneCell']) rfl hB hA rfl rfl ?_
  intro w13 hH14 ht15
  replace h_p1 := El.tr h_p1 ht15
  replace h_p2 := El.tr h_p2 ht15
  replace h_p3 := El.tr h_p3 ht15
  replace h5 := Vb.tr h5 ht15
  replace hK := Tr.trans hK ht15
  replace hB := Nat.le_trans hB ht15.ex.size
  replace hA := ht15.new
  replace hH : Hp B A10 w13 (obC b7 [.int .i64 (-1), .int .i64 (-1)] 48 :: yield_Y yield_s :: L) := hH14
  refine V_to (fun _ _ => rfl) ?_
  refine C_seq ?_
  refine C_seq ?_
  refine C_region ?_
  obtain ⟨v16, v18, v20, h22, h17, h19, h21⟩ := El_cal_Calendar h_p1
  refine V_y (Y_loadA h22 Try.isAgg28 Try.sizeOf28 rfl) rfl rfl rfl ?_
  refine V_y (Y_load (El.int h_p2) Try.isAgg3 rfl) rfl rfl rfl ?_
  refine V_y (Y_load (El.int h_p3) Try.isAgg3 rfl) rfl rfl rfl ?_
  obtain ⟨x23, hx23, hm⟩ := Option.bind_eq_some_iff.1 hm
  refine V_call Try.call88 rfl rfl rfl rfl (cal_Calendar_shifts_c w13 hA p1 v16 h17 v18 h19 v20 h21 p2 p3 hx23) ?_
  rintro _ w30 ⟨b24, b26, b28, rfl, h25, h27, h29, hk31⟩
  have ht32 := Kp.tr hk31 hA hB
  replace hH := Hp.kp hH hk31
  replace h_p1 := El.tr h_p1 ht32
  replace h_p2 := El.tr h_p2 ht32
  replace h_p3 := El.tr h_p3 ht32
  replace h5 := Vb.tr h5 ht32
  replace h17 := Sl.tr h17 ht32
  replace h19 := Sl.tr h19 ht32
  replace h21 := Sl.tr h21 ht32
  replace hK := Tr.trans hK ht32
  replace hB := Nat.le_trans hB ht32.ex.size
  replace hA := ht32.new
  refine V_to (fun _ _ => rfl) ?_
  have hH37 : Hp B A10 w30 ((fun (s34 : (cal_Span × yield_S)) => obE (fun (i : Unit) => [obC b7 [.int .i64 s34.1.from_, .int .i64 s34.1.to_] 48, yield_Y s34.2])) ((⟨(-1), (-1)⟩ : cal_Span), yield_s) :: L) := Hp.pack (F := fun (i : Unit) => [obC b7 [.int .i64 ((⟨(-1), (-1)⟩ : cal_Span), yield_s).1.from_, .int .i64 ((⟨(-1), (-1)⟩ : cal_Span), yield_s).1.to_] 48, yield_Y ((⟨(-1), (-1)⟩ : cal_Span), yield_s).2]) () hH
  obtain ⟨z33, hz33, hm⟩ := Option.bind_eq_some_iff.1 hm
  refine C_cutN (ι := Nat × (Nat → Prop)) (fun i => ⟨41, [{ target := .collected i.1, args := #[] }], none⟩) (fun i => [(4, .pointer (some ⟨b1, 0, none⟩)), (5, .pointer (some ⟨b7, 0, none⟩))]) (fun i w' => z33.2 ≠ some 0 ∧ Hp B i.2 w' ((fun (s34 : (cal_Span × yield_S)) => obE (fun (i : Unit) => [obC b7 [.int .i64 s34.1.from_, .int .i64 s34.1.to_] 48, yield_Y s34.2])) z33.1 :: obO i.1 (.deferred (some [])) :: L) ∧ Tr B A10 w30 i.2 w') ?_ ?_
  · refine C_block ?_
    refine C_rangeFunc (B := B) (A := A10) (L := L) (X := cal_Span) (fun (x43 : cal_Span) => [.agg #[.int .i64 x43.from_, .int .i64 x43.to_]]) (fun (s34 : (cal_Span × yield_S)) => obE (fun (i : Unit) => [obC b7 [.int .i64 s34.1.from_, .int .i64 s34.1.to_] 48, yield_Y s34.2])) (fun (x43 : cal_Span) (s35 : (cal_Span × yield_S)) => Option.bind (α := Lp _ _) (Option.bind (α := Lp _ _) (Option.bind (α := Lp _ _) (if (decide (s35.1.from_ < 0)) = true then some (.fin (x43, s35.2)) else Option.bind (α := Lp _ _) (if (decide (x43.from_ ≤ s35.1.to_)) = true then some (.fin ((⟨s35.1.from_, (if s35.1.to_ < x43.to_ then x43.to_ else s35.1.to_)⟩ : cal_Span), s35.2)) else Option.bind (yield s35.1 s35.2) fun x110 => if (!x110.1) = true then some (.rt ((s35.1, x110.2), some 0)) else some (.fin (x43, x110.2))) fun o96 => o96.andThen (fun y => some (.rt y)) fun s97 => some (.fin (s97.1, s97.2))) fun o81 => o81.andThen (fun y => some (.rt y)) fun s82 => some (.fin (s82.1, s82.2))) fun o73 => o73.andThen (fun y => some (.rt y)) fun s74 => some (.fin (s74.1, s74.2))) fun o65 => o65.andThen (fun y => some y) fun s66 => some ((s66.1, s66.2), none)) (fun k => if k = 0 then .ret else .exit 0) (s0 := ((⟨(-1), (-1)⟩ : cal_Span), yield_s)) (zf := z33) rfl rfl rfl (by decide) (fun _ => rfl) hB hA hH37 105 _ rfl Try.call105 ?_ ?_ ?_ ?_
    · intro Ys yv w1 A1 L1 h1 h2 h3 h4 h0 h5
      exact (cal_Calendar_shifts_1_c w1 h1 h2 (yieldB (fun (x43 : cal_Span) (s35 : (cal_Span × yield_S)) => Option.bind (α := Lp _ _) (Option.bind (α := Lp _ _) (Option.bind (α := Lp _ _) (if (decide (s35.1.from_ < 0)) = true then some (.fin (x43, s35.2)) else Option.bind (α := Lp _ _) (if (decide (x43.from_ ≤ s35.1.to_)) = true then some (.fin ((⟨s35.1.from_, (if s35.1.to_ < x43.to_ then x43.to_ else s35.1.to_)⟩ : cal_Span), s35.2)) else Option.bind (yield s35.1 s35.2) fun x110 => if (!x110.1) = true then some (.rt ((s35.1, x110.2), some 0)) else some (.fin (x43, x110.2))) fun o96 => o96.andThen (fun y => some (.rt y)) fun s97 => some (.fin (s97.1, s97.2))) fun o81 => o81.andThen (fun y => some (.rt y)) fun s82 => some (.fin (s82.1, s82.2))) fun o73 => o73.andThen (fun y => some (.rt y)) fun s74 => some (.fin (s74.1, s74.2))) fun o65 => o65.andThen (fun y => some y) fun s66 => some ((s66.1, s66.2), none))) Ys yv h0 (((⟨(-1), (-1)⟩ : cal_Span), yield_s), none) h5 x23.1 b24 (El.tr h25 h3) x23.2.1 b26 (El.tr h27 h3) x23.2.2 b28 (El.tr h29 h3) h4 hz33).mono fun _ _ ⟨A3, _, hh, tt⟩ => ⟨A3, tt, hh⟩
    · intro l38 rc39 w40 A41 L42 x43 s35 s36 j44 hst45 hB46 hA47 ht48 hH49 h50
      obtain ⟨_, hH49⟩ := Hp.open hH49
      replace h5 := Vb.tr h5 ht48
      replace h25 := El.tr h25 ht48
      replace h27 := El.tr h27 ht48
      replace h29 := El.tr h29 ht48
      replace hK := Tr.trans hK ht48
      replace hB := Nat.le_trans hB ht48.ex.size
      replace hA := ht48.new
      replace hH : Hp B A41 w40 (obC b7 [.int .i64 s35.1.from_, .int .i64 s35.1.to_] 48 :: yield_Y s35.2 :: obO l38 (.loop rc39) :: L42) := hH49
      have hr51 : Tr B A41 w40 A41 w40 := Tr.refl hA
      show C _ _ _ _ _ _
      refine C_region ?_
      refine V_alloc Try.zeroValue48 rfl ?_
      intro b53 w54 h55
      refine V_storeNew h55 Try.sizeOf48 rfl rfl rfl rfl (by exact (List.forall_mem_cons.2 ⟨rfl, (List.forall_mem_cons.2 ⟨rfl, (fun _ h => nomatch h)⟩)⟩)) ?_
      intro w56 h57
      have hk59 := h57.kp
      have h58 : El (α := cal_Span) A41 w56 b53 0 x43 := h57.el hA ⟨[.int .i64 x43.from_], _, rfl, rfl, rfl⟩
      have ht60 := Kp.tr hk59 hA hB
      replace hH := Hp.kp hH hk59
      replace h5 := Vb.tr h5 ht60
      replace h25 := El.tr h25 ht60
      replace h27 := El.tr h27 ht60
      replace h29 := El.tr h29 ht60
      replace hK := Tr.trans hK ht60
      replace hr51 := Tr.trans hr51 ht60
      replace hB := Nat.le_trans hB ht60.ex.size
      replace hA := ht60.new
      refine V_end (fun a ha61 => ?_)
      refine begin_at hH (i := 2) rfl hst45 hB hA (fun w62 hH63 ht64 => ?_) ha61
      replace h5 := Vb.tr h5 ht64
      replace h58 := El.tr h58 ht64
      replace hK := Tr.trans hK ht64
      replace hr51 := Tr.trans hr51 ht64
      replace hB := Nat.le_trans hB ht64.ex.size
      replace hA := ht64.new
      replace hH : Hp B A41 w62 (obC b7 [.int .i64 s35.1.from_, .int .i64 s35.1.to_] 48 :: yield_Y s35.2 :: obO l38 (.loop { rc39 with state := .busy }) :: L42) := hH63
      obtain ⟨o65, ho65, h50⟩ := Option.bind_eq_some_iff.1 h50
      refine C_cutG (ι := ((cal_Span × yield_S) × (Nat → Prop))) (fun ⟨s66, A71⟩ => []) (fun ⟨s66, A71⟩ => fun w' => o65 = .fin s66 ∧ Hp B A71 w' (obC b7 [.int .i64 s66.1.from_, .int .i64 s66.1.to_] 48 :: yield_Y s66.2 :: obO l38 (.loop { rc39 with state := .busy }) :: L42) ∧ Tr B A41 w62 A71 w') ?_ ?_
      · have hr67 : Tr B A41 w62 A41 w62 := Tr.refl hA
        refine C_block ?_
        obtain ⟨o73, ho73, ho65⟩ := Option.bind_eq_some_iff.1 ho65
        refine C_cutG (ι := ((cal_Span × yield_S) × (Nat → Prop))) (fun ⟨s74, A79⟩ => []) (fun ⟨s74, A79⟩ => fun w' => o73 = .fin s74 ∧ Hp B A79 w' (obC b7 [.int .i64 s74.1.from_, .int .i64 s74.1.to_] 48 :: yield_Y s74.2 :: obO l38 (.loop { rc39 with state := .busy }) :: L42) ∧ Tr B A41 w62 A79 w') ?_ ?_
        · have hr75 : Tr B A41 w62 A41 w62 := Tr.refl hA
          refine C_block ?_
          refine C_seq ?_
          refine C_region ?_
          refine V_y (Y_fieldAddrC (off2 := 0) Try.underlying48 rfl Try.sizeOf3 (by decide) rfl rfl) rfl rfl rfl ?_
          refine V_y (Y_load (Hp.cell (j := 0) hH (i := 0) rfl rfl) Try.isAgg3 rfl) rfl rfl rfl ?_
          refine V_y (Y_lss rfl rfl) rfl rfl rfl ?_
          refine V_y (Y_assign rfl) rfl rfl rfl ?_
          refine V_to (fun _ _ => rfl) ?_
          obtain ⟨o81, ho81, ho73⟩ := Option.bind_eq_some_iff.1 ho73
          refine C_cutG (ι := ((cal_Span × yield_S) × (Nat → Prop))) (fun ⟨s82, A87⟩ => []) (fun ⟨s82, A87⟩ => fun w' => o81 = .fin s82 ∧ Hp B A87 w' (obC b7 [.int .i64 s82.1.from_, .int .i64 s82.1.to_] 48 :: yield_Y s82.2 :: obO l38 (.loop { rc39 with state := .busy }) :: L42) ∧ Tr B A41 w62 A87 w') ?_ ?_
          · have hr83 : Tr B A41 w62 A41 w62 := Tr.refl hA
            refine C_cond rfl (fun hc89 => ?_) (fun hc89 => ?_)
            · rw [if_pos hc89] at ho81
              refine C_region ?_
              obtain ⟨h90, _⟩ := El_cal_Span h58
              refine V_y (Y_loadA h90 Try.isAgg48 Try.sizeOf48 rfl) rfl rfl rfl ?_
              refine V_storeC (off := 0) (ds := [.int .i64 x43.from_, .int .i64 x43.to_]) hH (i := 0) rfl Try.sizeOf48 rfl (Nat.le_of_ble_eq_true rfl) (by simp [Value.cells, Value.oneCell']) rfl hB hA rfl rfl ?_
              intro w91 hH92 ht93
              replace h5 := Vb.tr h5 ht93
              replace h58 := El.tr h58 ht93
              replace hK := Tr.trans hK ht93
              replace hr51 := Tr.trans hr51 ht93
              replace hr67 := Tr.trans hr67 ht93
              replace hr75 := Tr.trans hr75 ht93
              replace hr83 := Tr.trans hr83 ht93
              replace hB := Nat.le_trans hB ht93.ex.size
              replace hA := ht93.new
              replace hH : Hp B A41 w91 (obC b7 [.int .i64 x43.from_, .int .i64 x43.to_] 48 :: yield_Y s35.2 :: obO l38 (.loop { rc39 with state := .busy }) :: L42) := hH92
              obtain rfl := Option.some.inj ho81
              refine V_end (fun a ha94 => ?_)
              exact ⟨((x43, s35.2), A41), ha94.sub trivial, ⟨rfl, hH, hr83⟩⟩
            · rw [if_neg (nt hc89)] at ho81
              refine C_seq ?_
              refine C_region ?_
              have h95 := El_cal_Span_0 h58
              refine V_y (Y_fieldAddr Try.underlying48 rfl Try.sizeOf3 (by decide) rfl) rfl rfl rfl ?_
              refine V_y (Y_load (El.int h95) Try.isAgg3 rfl) rfl rfl rfl ?_
              refine V_y (Y_fieldAddrC (off2 := 1) Try.underlying48 rfl Try.sizeOf3 (by decide) rfl rfl) rfl rfl rfl ?_
              refine V_y (Y_load (Hp.cell (j := 1) hH (i := 0) rfl rfl) Try.isAgg3 rfl) rfl rfl rfl ?_
              refine V_y (Y_leq rfl rfl) rfl rfl rfl ?_
              refine V_y (Y_assign rfl) rfl rfl rfl ?_
              refine V_to (fun _ _ => rfl) ?_
              obtain ⟨o96, ho96, ho81⟩ := Option.bind_eq_some_iff.1 ho81
              refine C_cutG (ι := ((cal_Span × yield_S) × (Nat → Prop))) (fun ⟨s97, A102⟩ => []) (fun ⟨s97, A102⟩ => fun w' => o96 = .fin s97 ∧ Hp B A102 w' (obC b7 [.int .i64 s97.1.from_, .int .i64 s97.1.to_] 48 :: yield_Y s97.2 :: obO l38 (.loop { rc39 with state := .busy }) :: L42) ∧ Tr B A41 w62 A102 w') ?_ ?_
              · have hr98 : Tr B A41 w62 A41 w62 := Tr.refl hA
                refine C_cond rfl (fun hc104 => ?_) (fun hc104 => ?_)
                · rw [if_pos hc104] at ho96
                  refine C_region ?_
                  refine V_y (Y_fieldAddrC (off2 := 1) Try.underlying48 rfl Try.sizeOf3 (by decide) rfl rfl) rfl rfl rfl ?_
                  refine V_y (Y_load (Hp.cell (j := 1) hH (i := 0) rfl rfl) Try.isAgg3 rfl) rfl rfl rfl ?_
                  have h105 := El_cal_Span_1 h58
                  refine V_y (Y_fieldAddr Try.underlying48 rfl Try.sizeOf3 (by decide) rfl) rfl rfl rfl ?_
                  refine V_y (Y_load (El.int h105) Try.isAgg3 rfl) rfl rfl rfl ?_
                  refine V_y (Y_max2 rfl rfl) rfl rfl rfl ?_
                  refine V_y (Y_fieldAddrC (off2 := 1) Try.underlying48 rfl Try.sizeOf3 (by decide) rfl rfl) rfl rfl rfl ?_
                  refine V_storeC (off := 1) (ds := [.int .i64 s35.1.from_, .int .i64 (if s35.1.to_ < x43.to_ then x43.to_ else s35.1.to_)]) hH (i := 0) rfl Try.sizeOf3 rfl (Nat.le_of_ble_eq_true rfl) (by simp [Value.cells, Value.oneCell']) rfl hB hA rfl rfl ?_
                  intro w106 hH107 ht108
                  replace h5 := Vb.tr h5 ht108
                  replace h58 := El.tr h58 ht108
                  replace h105 := El.tr h105 ht108
                  replace hK := Tr.trans hK ht108
                  replace hr51 := Tr.trans hr51 ht108
                  replace hr67 := Tr.trans hr67 ht108
                  replace hr75 := Tr.trans hr75 ht108
                  replace hr83 := Tr.trans hr83 ht108
                  replace hr98 := Tr.trans hr98 ht108
                  replace hB := Nat.le_trans hB ht108.ex.size
                  replace hA := ht108.new
                  replace hH : Hp B A41 w106 (obC b7 [.int .i64 s35.1.from_, .int .i64 (if s35.1.to_ < x43.to_ then x43.to_ else s35.1.to_)] 48 :: yield_Y s35.2 :: obO l38 (.loop { rc39 with state := .busy }) :: L42) := hH107
                  obtain rfl := Option.some.inj ho96
                  refine V_end (fun a ha109 => ?_)
                  exact ⟨(((⟨s35.1.from_, (if s35.1.to_ < x43.to_ then x43.to_ else s35.1.to_)⟩ : cal_Span), s35.2), A41), ha109.sub trivial, ⟨rfl, hH, hr98⟩⟩
                · rw [if_neg (nt hc104)] at ho96
                  refine C_seq ?_
                  refine C_seq ?_
                  refine C_region ?_
                  refine V_y (Y_load h5.2.2 Try.isAgg119 rfl) rfl rfl rfl ?_
                  refine V_y (Y_loadA (Hp.part (off := 0) (n := 2) (ds := [.int .i64 s35.1.from_, .int .i64 s35.1.to_]) hH (i := 0) rfl rfl) Try.isAgg48 Try.sizeOf48 rfl) rfl rfl rfl ?_
                  obtain ⟨x110, hx110, ho96⟩ := Option.bind_eq_some_iff.1 ho96
                  replace hH : Hp B A41 w62 (yield_Y s35.2 :: obC b7 [.int .i64 s35.1.from_, .int .i64 s35.1.to_] 48 :: obO l38 (.loop { rc39 with state := .busy }) :: L42) := Hp.front hH (i := 1) rfl
                  refine V_callV rfl rfl rfl (yield_spec w62 _ _ s35.1 _ x110.1 x110.2 hB hA hK hH hx110) ?_
                  rintro _ w111 ⟨rfl, A112, ht114, hH113⟩
                  replace h5 := Vb.tr h5 ht114
                  replace h58 := El.tr h58 ht114
                  replace hK := Tr.trans hK ht114
                  replace hr51 := Tr.trans hr51 ht114
                  replace hr67 := Tr.trans hr67 ht114
                  replace hr75 := Tr.trans hr75 ht114
                  replace hr83 := Tr.trans hr83 ht114
                  replace hr98 := Tr.trans hr98 ht114
                  replace hB := Nat.le_trans hB ht114.ex.size
                  replace hA := ht114.new
                  replace hH : Hp B A112 w111 (yield_Y x110.2 :: obC b7 [.int .i64 s35.1.from_, .int .i64 s35.1.to_] 48 :: obO l38 (.loop { rc39 with state := .busy }) :: L42) := hH113
                  refine V_y (Y_not rfl) rfl rfl rfl ?_
                  refine V_to (fun _ _ => rfl) ?_
                  refine C_cond rfl (fun hc115 => ?_) (fun hc115 => ?_)
                  · rw [if_pos hc115] at ho96
                    obtain rfl := Option.some.inj ho96
                    rw [Lp.andThen_rt] at ho81
                    obtain rfl := Option.some.inj ho81
                    rw [Lp.andThen_rt] at ho73
                    obtain rfl := Option.some.inj ho73
                    rw [Lp.andThen_rt] at ho65
                    obtain rfl := Option.some.inj ho65
                    rw [Lp.andThen_rt] at h50
                    obtain ⟨rfl, rfl⟩ := Prod.mk.inj (Option.some.inj h50)
                    refine C_ret (fun a ha116 => ?_)
                    replace hH : Hp B A112 w111 (obO l38 (.loop { rc39 with state := .busy }) :: yield_Y x110.2 :: obC b7 [.int .i64 s35.1.from_, .int .i64 s35.1.to_] 48 :: L42) := Hp.front hH (i := 2) rfl
                    replace hH : Hp B A112 w111 (yield_Y x110.2 :: obO l38 (.loop { rc39 with state := .busy }) :: obC b7 [.int .i64 s35.1.from_, .int .i64 s35.1.to_] 48 :: L42) := Hp.front hH (i := 1) rfl
                    replace hH : Hp B A112 w111 (obC b7 [.int .i64 s35.1.from_, .int .i64 s35.1.to_] 48 :: yield_Y x110.2 :: obO l38 (.loop { rc39 with state := .busy }) :: L42) := Hp.front hH (i := 2) rfl
                    exact ⟨rfl, A112, hr51, Hp.pack (F := fun (i : Unit) => [obC b7 [.int .i64 (s35.1, x110.2).1.from_, .int .i64 (s35.1, x110.2).1.to_] 48, yield_Y (s35.1, x110.2).2]) () hH⟩
                  · rw [if_neg (nt hc115)] at ho96
                    refine C_skip_to (fun _ _ => rfl) ?_
                    refine C_region ?_
                    obtain ⟨h117, _⟩ := El_cal_Span h58
                    refine V_y (Y_loadA h117 Try.isAgg48 Try.sizeOf48 rfl) rfl rfl rfl ?_
                    refine V_storeC (off := 0) (ds := [.int .i64 x43.from_, .int .i64 x43.to_]) hH (i := 1) rfl Try.sizeOf48 rfl (Nat.le_of_ble_eq_true rfl) (by simp [Value.cells, Value.oneCell']) rfl hB hA rfl rfl ?_
                    intro w118 hH119 ht120
                    replace h58 := El.tr h58 ht120
                    replace hK := Tr.trans hK ht120
                    replace hr51 := Tr.trans hr51 ht120
                    replace hr67 := Tr.trans hr67 ht120
                    replace hr75 := Tr.trans hr75 ht120
                    replace hr83 := Tr.trans hr83 ht120
                    replace hr98 := Tr.trans hr98 ht120
                    replace hB := Nat.le_trans hB ht120.ex.size
                    replace hA := ht120.new
                    replace hH : Hp B A112 w118 (yield_Y x110.2 :: obC b7 [.int .i64 x43.from_, .int .i64 x43.to_] 48 :: obO l38 (.loop { rc39 with state := .busy }) :: L42) := hH119
                    obtain rfl := Option.some.inj ho96
                    refine V_end (fun a ha121 => ?_)
                    replace hH : Hp B A112 w118 (obO l38 (.loop { rc39 with state := .busy }) :: yield_Y x110.2 :: obC b7 [.int .i64 x43.from_, .int .i64 x43.to_] 48 :: L42) := Hp.front hH (i := 2) rfl
                    replace hH : Hp B A112 w118 (yield_Y x110.2 :: obO l38 (.loop { rc39 with state := .busy }) :: obC b7 [.int .i64 x43.from_, .int .i64 x43.to_] 48 :: L42) := Hp.front hH (i := 1) rfl
                    replace hH : Hp B A112 w118 (obC b7 [.int .i64 x43.from_, .int .i64 x43.to_] 48 :: yield_Y x110.2 :: obO l38 (.loop { rc39 with state := .busy }) :: L42) := Hp.front hH (i := 2) rfl
                    exact ⟨((x43, x110.2), A112), ha121.sub trivial, ⟨rfl, hH, hr98⟩⟩
              rintro ⟨s97, A102⟩ w99 ⟨rfl, hH103, hk100⟩ a ha101
              rw [Lp.andThen_fin] at ho81
              replace hK := Tr.trans hK hk100
              replace hr51 := Tr.trans hr51 hk100
              replace hr67 := Tr.trans hr67 hk100
              replace hr75 := Tr.trans hr75 hk100
              replace hr83 := Tr.trans hr83 hk100
              replace hB := Nat.le_trans hB hk100.ex.size
              replace hA := hk100.new
              replace hH : Hp B A102 w99 (obC b7 [.int .i64 s97.1.from_, .int .i64 s97.1.to_] 48 :: yield_Y s97.2 :: obO l38 (.loop { rc39 with state := .busy }) :: L42) := hH103
              obtain rfl := Option.some.inj ho81
              exact ⟨((s97.1, s97.2), A102), ha101.sub trivial, ⟨rfl, hH, hr83⟩⟩
          rintro ⟨s82, A87⟩ w84 ⟨rfl, hH88, hk85⟩ a ha86
          rw [Lp.andThen_fin] at ho73
          replace hK := Tr.trans hK hk85
          replace hr51 := Tr.trans hr51 hk85
          replace hr67 := Tr.trans hr67 hk85
          replace hr75 := Tr.trans hr75 hk85
          replace hB := Nat.le_trans hB hk85.ex.size
          replace hA := hk85.new
          replace hH : Hp B A87 w84 (obC b7 [.int .i64 s82.1.from_, .int .i64 s82.1.to_] 48 :: yield_Y s82.2 :: obO l38 (.loop { rc39 with state := .busy }) :: L42) := hH88
          obtain rfl := Option.some.inj ho73
          exact ⟨((s82.1, s82.2), A87), ha86.sub trivial, ⟨rfl, hH, hr75⟩⟩
        rintro ⟨s74, A79⟩ w76 ⟨rfl, hH80, hk77⟩ a ha78
        rw [Lp.andThen_fin] at ho65
        replace hK := Tr.trans hK hk77
        replace hr51 := Tr.trans hr51 hk77
        replace hr67 := Tr.trans hr67 hk77
        replace hB := Nat.le_trans hB hk77.ex.size
        replace hA := hk77.new
        replace hH : Hp B A79 w76 (obC b7 [.int .i64 s74.1.from_, .int .i64 s74.1.to_] 48 :: yield_Y s74.2 :: obO l38 (.loop { rc39 with state := .busy }) :: L42) := hH80
        obtain rfl := Option.some.inj ho65
        exact ⟨((s74.1, s74.2), A79), ha78.sub trivial, ⟨rfl, hH, hr67⟩⟩
      rintro ⟨s66, A71⟩ w68 ⟨rfl, hH72, hk69⟩ a ha70
      rw [Lp.andThen_fin] at h50
      replace hK := Tr.trans hK hk69
      replace hr51 := Tr.trans hr51 hk69
      replace hB := Nat.le_trans hB hk69.ex.size
      replace hA := hk69.new
      replace hH : Hp B A71 w68 (obC b7 [.int .i64 s66.1.from_, .int .i64 s66.1.to_] 48 :: yield_Y s66.2 :: obO l38 (.loop { rc39 with state := .busy }) :: L42) := hH72
      obtain ⟨rfl, rfl⟩ := Prod.mk.inj (Option.some.inj h50)
      exact ⟨rfl, A71, hr51, Hp.pack (F := fun (i : Unit) => [obC b7 [.int .i64 (s66.1, s66.2).1.from_, .int .i64 (s66.1, s66.2).1.to_] 48, yield_Y (s66.1, s66.2).2]) () hH⟩
    · intro hc131 D126 w127 A128 ht129 hH130 a ha132
      exact ⟨(D126, A128), ha132.sub ⟨rfl, rfl, trivial⟩, (by rw [hc131]; simp), hH130, ht129⟩
    · intro k133 hc131 D126 w127 A128 ht129 hH130
      by_cases hc134 : k133 = 0
      · subst hc134
        rw [if_pos hc131] at hm
        obtain ⟨_, hH130⟩ := Hp.open hH130
        replace hK := Tr.trans hK ht129
        replace hB := Nat.le_trans hB ht129.ex.size
        replace hA := ht129.new
        replace hH : Hp B A128 w127 (obC b7 [.int .i64 z33.1.1.from_, .int .i64 z33.1.1.to_] 48 :: yield_Y z33.1.2 :: obO D126 (.deferred (some [])) :: L) := hH130
        show C _ _ .ret _ _ _
        obtain rfl := Option.some.inj hm
        have h135 := Hp.obj hH (i := 2) (b := D126) rfl
        obtain ⟨hH136, ht137⟩ := Hp.put (.deferred none) hH (i := 2) (b := D126) rfl hB hA
        replace hK := Tr.trans hK ht137
        replace hB := Nat.le_trans hB ht137.ex.size
        replace hA := ht137.new
        replace hH : Hp B A128 (World.putObj w127 D126 (.deferred none)) (obC b7 [.int .i64 z33.1.1.from_, .int .i64 z33.1.1.to_] 48 :: yield_Y z33.1.2 :: obO D126 (.deferred none) :: L) := hH136
        replace hH : Hp B A128 (World.putObj w127 D126 (.deferred none)) (yield_Y z33.1.2 :: obC b7 [.int .i64 z33.1.1.from_, .int .i64 z33.1.1.to_] 48 :: obO D126 (.deferred none) :: L) := Hp.front hH (i := 1) rfl
        replace hH : Hp B A128 (World.putObj w127 D126 (.deferred none)) (yield_Y z33.1.2 :: obO D126 (.deferred none) :: L) := Hp.drop hH (i := 1) rfl
        replace hH : Hp B A128 (World.putObj w127 D126 (.deferred none)) (yield_Y z33.1.2 :: L) := Hp.drop hH (i := 1) rfl
        refine C_ret ?_
        try simp only [↓inBlock_ret, ↓then_ret]
        exact retM1 rfl h135 (Res.zero Try.results87) ⟨A128, rfl, hH, hK⟩
      · show C _ _ (if k133 = 0 then _ else _) _ _ _
        rw [if_neg hc134]
        refine C_exit fun a ha132 => ?_
        show Exit.inBlock _ _ _ _ _
        rw [Exit.inBlock, if_pos rfl]
        exact ⟨(D126, A128), ha132.sub ⟨rfl, rfl, trivial⟩, (by rw [hc131]; simpa using hc134), hH130, ht129⟩
  rintro ⟨D126, A128⟩ w127 ⟨hc138, hH130, ht129⟩ a ha132
  rw [if_neg hc138] at hm
  obtain ⟨_, hH130⟩ := Hp.open hH130
  replace h5 := Vb.tr h5 ht129
  replace hK := Tr.trans hK ht129
  replace hB := Nat.le_trans hB ht129.ex.size
  replace hA := ht129.new
  replace hH : Hp B A128 w127 (obC b7 [.int .i64 z33.1.1.from_, .int .i64 z33.1.1.to_] 48 :: yield_Y z33.1.2 :: obO D126 (.deferred (some [])) :: L) := hH130
  refine C_at (n := ⟨41, [{ target := .collected D126, args := #[] }], none⟩) (fun _ _ => rfl) ?_ ha132
  refine C_seq ?_
  refine C_region ?_
  refine V_y (Y_fieldAddrC (off2 := 0) Try.underlying48 rfl Try.sizeOf3 (by decide) rfl rfl) rfl rfl rfl ?_
  refine V_y (Y_load (Hp.cell (j := 0) hH (i := 0) rfl rfl) Try.isAgg3 rfl) rfl rfl rfl ?_
  refine V_y (Y_geq rfl rfl) rfl rfl rfl ?_
  refine V_to (fun _ _ => rfl) ?_
  obtain ⟨s140, ho139, hm⟩ := Option.bind_eq_some_iff.1 hm
  refine C_cutG (ι := (Nat → Prop)) (fun (A145 : (Nat → Prop)) => []) (fun (A145 : (Nat → Prop)) => fun w' => Hp B A145 w' (obC b7 [.int .i64 z33.1.1.from_, .int .i64 z33.1.1.to_] 48 :: yield_Y s140 :: obO D126 (.deferred (some [])) :: L) ∧ Tr B A128 w127 A145 w') ?_ ?_
  · have hr141 : Tr B A128 w127 A128 w127 := Tr.refl hA
    refine C_cond rfl (fun hc147 => ?_) (fun hc147 => ?_)
    · rw [if_pos hc147] at ho139
      refine C_region ?_
      refine V_y (Y_load h5.2.2 Try.isAgg119 rfl) rfl rfl rfl ?_
      refine V_y (Y_loadA (Hp.part (off := 0) (n := 2) (ds := [.int .i64 z33.1.1.from_, .int .i64 z33.1.1.to_]) hH (i := 0) rfl rfl) Try.isAgg48 Try.sizeOf48 rfl) rfl rfl rfl ?_
      obtain ⟨x148, hx148, ho139⟩ := Option.bind_eq_some_iff.1 ho139
      replace hH : Hp B A128 w127 (yield_Y z33.1.2 :: obC b7 [.int .i64 z33.1.1.from_, .int .i64 z33.1.1.to_] 48 :: obO D126 (.deferred (some [])) :: L) := Hp.front hH (i := 1) rfl
      refine V_callV rfl rfl rfl (yield_spec w127 _ _ z33.1.1 _ x148.1 x148.2 hB hA hK hH hx148) ?_
      rintro _ w149 ⟨rfl, A150, ht152, hH151⟩
      replace h5 := Vb.tr h5 ht152
      replace hK := Tr.trans hK ht152
      replace hr141 := Tr.trans hr141 ht152
      replace hB := Nat.le_trans hB ht152.ex.size
      replace hA := ht152.new
      replace hH : Hp B A150 w149 (yield_Y x148.2 :: obC b7 [.int .i64 z33.1.1.from_, .int .i64 z33.1.1.to_] 48 :: obO D126 (.deferred (some [])) :: L) := hH151
      obtain rfl := Option.some.inj ho139
      refine V_end (fun a ha153 => ?_)
      replace hH : Hp B A150 w149 (obO D126 (.deferred (some [])) :: yield_Y x148.2 :: obC b7 [.int .i64 z33.1.1.from_, .int .i64 z33.1.1.to_] 48 :: L) := Hp.front hH (i := 2) rfl
      replace hH : Hp B A150 w149 (yield_Y x148.2 :: obO D126 (.deferred (some [])) :: obC b7 [.int .i64 z33.1.1.from_, .int .i64 z33.1.1.to_] 48 :: L) := Hp.front hH (i := 1) rfl
      replace hH : Hp B A150 w149 (obC b7 [.int .i64 z33.1.1.from_, .int .i64 z33.1.1.to_] 48 :: yield_Y x148.2 :: obO D126 (.deferred (some [])) :: L) := Hp.front hH (i := 2) rfl
      exact ⟨A150, ha153.sub trivial, ⟨hH, hr141⟩⟩
    · rw [if_neg (nt hc147)] at ho139
      obtain rfl := Option.some.inj ho139
      refine C_skip (fun a ha154 => ?_)
      exact ⟨A128, ha154.sub trivial, ⟨hH, hr141⟩⟩
  rintro A145 w142 ⟨hH146, hk143⟩ a ha144
  replace hK := Tr.trans hK hk143
  replace hB := Nat.le_trans hB hk143.ex.size
  replace hA := hk143.new
  replace hH : Hp B A145 w142 (obC b7 [.int .i64 z33.1.1.from_, .int .i64 z33.1.1.to_] 48 :: yield_Y s140 :: obO D126 (.deferred (some [])) :: L) := hH146
  obtain rfl := Option.some.inj hm
  have h156 := Hp.obj hH (i := 2) (b := D126) rfl
  obtain ⟨hH157, ht158⟩ := Hp.put (.deferred none) hH (i := 2) (b := D126) rfl hB hA
  replace hK := Tr.trans hK ht158
  replace hB := Nat.le_trans hB ht158.ex.size
  replace hA := ht158.new
  replace hH : Hp B A145 (World.putObj w142 D126 (.deferred none)) (obC b7 [.int .i64 z33.1.1.from_, .int .i64 z33.1.1.to_] 48 :: yield_Y s140 :: obO D126 (.deferred none) :: L) := hH157
  replace hH : Hp B A145 (World.putObj w142 D126 (.deferred none)) (yield_Y s140 :: obC b7 [.int .i64 z33.1.1.from_, .int .i64 z33.1.1.to_] 48 :: obO D126 (.deferred none) :: L) := Hp.front hH (i := 1) rfl
  replace hH : Hp B A145 (World.putObj w142 D126 (.deferred none)) (yield_Y s140 :: obO D126 (.deferred none) :: L) := Hp.drop hH (i := 1) rfl
  replace hH : Hp B A145 (World.putObj w142 D126 (.deferred none)) (yield_Y s140 :: L) := Hp.drop hH (i := 1) rfl
  try simp only [↓inBlock_ret, ↓then_ret]
  exact normM (retM1 rfl h156 (Res.zero Try.results87) ⟨A145, rfl, hH, hK⟩ a ha144)

set_option maxRecDepth 4000 in
set_option maxHeartbeats 4000000 in
theorem cal_Worked_c (w : World) {A : Nat → Prop} (hA : ∀ b, w.heap.size ≤ b → A b) (c : cal_Calendar) (v_c0 : Value) (h_c0 : Sl A w v_c0 c.zone.changes) (v_c1 : Value) (h_c1 : Sl A w v_c1 c.week) (v_c2 : Value) (h_c2 : Sl A w v_c2 c.specials) (from_ : Int) (to_ : Int) {r : (Int × Int)} (hm : cal_Worked c from_ to_ = some r) : Ret Try.prog 67 #[.agg #[.int .i64 c.zone.offset, v_c0, v_c1, v_c2], .int .i64 from_, .int .i64 to_] w fun v w' => v = .tuple #[.int .i64 r.1, .int .i64 r.2] ∧ Kp w w' := by
  unfold cal_Worked at hm
  refine enterM Try.func67 rfl Try.ntmps67 rfl ?_
  have hA0 := hA
  have hB := Nat.le_refl w.heap.size
  have hK : Tr w.heap.size A w A w := Tr.refl hA
  have hH : Hp w.heap.size A w [] := Hp.nil
  refine C_seq ?_
  refine C_region ?_
  refine V_box rfl rfl ?_
  intro b7 w9 h10
  have hk12 := h10.kp
  have h11 : El (α := cal_Calendar) A w9 b7 0 c := h10.el hA ⟨[.int .i64 c.zone.offset, v_c0], _, rfl, ⟨[.int .i64 c.zone.offset], _, rfl, rfl, ⟨_, rfl, h_c0⟩⟩, ⟨[v_c1], _, rfl, ⟨_, rfl, h_c1⟩, ⟨_, rfl, h_c2⟩⟩⟩
  have ht13 := Kp.tr hk12 hA hB
  replace hH := Hp.kp hH hk12
  replace h_c0 := Sl.tr h_c0 ht13
  replace h_c1 := Sl.tr h_c1 ht13
  replace h_c2 := Sl.tr h_c2 ht13
  replace hK := Tr.trans hK ht13
  replace hB := Nat.le_trans hB ht13.ex.size
  replace hA := ht13.new
  refine V_y (Y_assign rfl) rfl rfl rfl ?_
  refine V_y (Y_assign rfl) rfl rfl rfl ?_
  refine V_to (fun _ _ => rfl) ?_
  refine C_seq ?_
  refine C_seq ?_
  refine C_region ?_
  obtain ⟨v14, v16, v18, h20, h15, h17, h19⟩ := El_cal_Calendar h11
  refine V_y (Y_loadA h20 Try.isAgg28 Try.sizeOf28 rfl) rfl rfl rfl ?_
  obtain ⟨x21, hx21, hm⟩ := Option.bind_eq_some_iff.1 hm
  refine V_call Try.call29 rfl rfl rfl rfl (cal_CheckCalendar_c w9 hA c v14 h15 v16 h17 v18 h19 hx21) ?_
  rintro _ w22 ⟨rfl, hk23⟩
  have ht24 := Kp.tr hk23 hA hB
  replace hH := Hp.kp hH hk23
  replace h11 := El.tr h11 ht24
  replace h15 := Sl.tr h15 ht24
  replace h17 := Sl.tr h17 ht24
  replace h19 := Sl.tr h19 ht24
  replace hK := Tr.trans hK ht24
  replace hB := Nat.le_trans hB ht24.ex.size
  replace hA := ht24.new
  refine V_y (Y_move rfl) rfl rfl rfl ?_
  refine V_y (Y_move rfl) rfl rfl rfl ?_
  refine V_call Try.call74 rfl rfl rfl rfl (cal_stretch_c w22 from_ to_) ?_
  rintro _ _ ⟨rfl, rfl⟩
  refine V_buildSlice (l := ([x21, (cal_stretch from_ to_)] : List Int)) (len := 2) Try.underlying94 Try.sizeOf29 Try.zeroValue29 rfl (by with_unfolding_all rfl) (by decide) (by decide) hA ⟨[.int .i64 x21], _, rfl, rfl, ⟨[.int .i64 (cal_stretch from_ to_)], _, rfl, rfl, rfl⟩⟩ rfl rfl ?_
  intro v25 w26 hk28 h27
  have ht29 := Kp.tr hk28 hA hB
  replace hH := Hp.kp hH hk28
  replace h11 := El.tr h11 ht29
  replace h15 := Sl.tr h15 ht29
  replace h17 := Sl.tr h17 ht29
  replace h19 := Sl.tr h19 ht29
  replace hK := Tr.trans hK ht29
  replace hB := Nat.le_trans hB ht29.ex.size
  replace hA := ht29.new
  obtain ⟨x30, hx30, hm⟩ := Option.bind_eq_some_iff.1 hm
  refine V_call Try.call36 rfl rfl rfl rfl (cmp_Or_api_Errno_c w26 ([x21, (cal_stretch from_ to_)] : List Int) v25 h27 hx30) ?_
  rintro _ _ ⟨rfl, rfl⟩
  refine V_y (Y_assign rfl) rfl rfl rfl ?_
  refine V_to (fun _ _ => rfl) ?_
  refine C_seq ?_
  refine C_region ?_
  refine V_y (Y_move rfl) rfl rfl rfl ?_
  refine V_y (Y_neq rfl rfl) rfl rfl rfl ?_
  refine V_to (fun _ _ => rfl) ?_
  refine C_cond rfl (fun hc31 => ?_) (fun hc31 => ?_)
  · rw [if_pos hc31] at hm
    refine C_seq ?_
    refine C_region ?_
    refine V_y (Y_move rfl) rfl rfl rfl ?_
    refine V_y (Y_assign rfl) rfl rfl rfl ?_
    refine V_y (Y_assign rfl) rfl rfl rfl ?_
    refine V_to (fun _ _ => rfl) ?_
    obtain rfl := Option.some.inj hm
    refine C_ret ?_
    try simp only [↓inBlock_ret, ↓then_ret]
    exact retM rfl (Res.two Try.results67 rfl rfl) ⟨rfl, hK.kp⟩
  · rw [if_neg (nt hc31)] at hm
    refine C_skip_to (fun _ _ => rfl) ?_
    refine C_seq ?_
    refine C_region ?_
    refine V_allocH (B := w.heap.size) hH Try.zeroValue3 hB hA rfl ?_
    intro b32 w33 A34 hH35 ht36
    replace h11 := El.tr h11 ht36
    replace hK := Tr.trans hK ht36
    replace hB := Nat.le_trans hB ht36.ex.size
    replace hA := ht36.new
    replace hH : Hp w.heap.size A34 w33 (obC b32 [.int .i64 0] 3 :: []) := hH35
    refine V_storeC (off := 0) (ds := [.int .i64 0]) hH (i := 0) rfl Try.sizeOf3 rfl (Nat.le_of_ble_eq_true rfl) (by simp [Value.cells, Value.oneCell']) rfl hB hA rfl rfl ?_
    intro w37 hH38 ht39
    replace h11 := El.tr h11 ht39
    replace hK := Tr.trans hK ht39
    replace hB := Nat.le_trans hB ht39.ex.size
    replace hA := ht39.new
    replace hH : Hp w.heap.size A34 w37 (obC b32 [.int .i64 0] 3 :: []) := hH38
    refine V_to (fun _ _ => rfl) ?_
    refine C_seq ?_
    refine C_seq ?_
    refine C_region ?_
    obtain ⟨v40, v42, v44, h46, h41, h43, h45⟩ := El_cal_Calendar h11
    refine V_y (Y_loadA h46 Try.isAgg28 Try.sizeOf28 rfl) rfl rfl rfl ?_
    refine V_y (Y_move rfl) rfl rfl rfl ?_
    refine V_y (Y_move rfl) rfl rfl rfl ?_
    obtain ⟨x47, hx47, hm⟩ := Option.bind_eq_some_iff.1 hm
    refine V_call Try.call75 rfl rfl rfl rfl (cal_Calendar_open_c w37 hA c v40 h41 v42 h43 v44 h45 from_ to_ hx47) ?_
    rintro _ w54 ⟨b48, b50, b52, rfl, h49, h51, h53, hk55⟩
    have ht56 := Kp.tr hk55 hA hB
    replace hH := Hp.kp hH hk55
    replace h11 := El.tr h11 ht56
    replace h41 := Sl.tr h41 ht56
    replace h43 := Sl.tr h43 ht56
    replace h45 := Sl.tr h45 ht56
    replace hK := Tr.trans hK ht56
    replace hB := Nat.le_trans hB ht56.ex.size
    replace hA := ht56.new
    refine V_to (fun _ _ => rfl) ?_
    have hH61 : Hp w.heap.size A34 w54 ((fun (s58 : Int) => obE (fun (i : Unit) => [obC b32 [.int .i64 s58] 3])) 0 :: []) := Hp.pack (F := fun (i : Unit) => [obC b32 [.int .i64 0] 3]) () hH
    obtain ⟨z57, hz57, hm⟩ := Option.bind_eq_some_iff.1 hm
    refine C_cutN (ι := Nat × (Nat → Prop)) (fun i => ⟨34, [{ target := .collected i.1, args := #[] }], none⟩) (fun i => [(9, .pointer (some ⟨b32, 0, none⟩))]) (fun i w' => Hp w.heap.size i.2 w' ((fun (s58 : Int) => obE (fun (i : Unit) => [obC b32 [.int .i64 s58] 3])) z57.1 :: obO i.1 (.deferred (some [])) :: []) ∧ Tr w.heap.size A34 w54 i.2 w') ?_ ?_
    · refine C_block ?_
      refine C_rangeFunc (B := w.heap.size) (A := A34) (L := []) (X := cal_Span) (fun (x68 : cal_Span) => [.agg #[.int .i64 x68.from_, .int .i64 x68.to_]]) (fun (s58 : Int) => obE (fun (i : Unit) => [obC b32 [.int .i64 s58] 3])) (fun (x68 : cal_Span) (s59 : Int) => some (w64 (s59 + (w64 (x68.to_ - x68.from_))), none)) (fun _ => .exit 0) (s0 := 0) (zf := z57) rfl rfl rfl (by decide) (fun _ => rfl) hB hA hH61 87 _ rfl Try.call87 ?_ ?_ ?_ ?_
      · intro Ys yv w1 A1 L1 h1 h2 h3 h4 h0 h5
        exact (cal_Calendar_open_1_c w1 h1 h2 (yieldB (fun (x68 : cal_Span) (s59 : Int) => some (w64 (s59 + (w64 (x68.to_ - x68.from_))), none))) Ys yv h0 (0, none) h5 x47.1 b48 (El.tr h49 h3) x47.2.1 b50 (El.tr h51 h3) x47.2.2 b52 (El.tr h53 h3) h4 hz57).mono fun _ _ ⟨A3, _, hh, tt⟩ => ⟨A3, tt, hh⟩
      · intro l62 rc63 w65 A66 L67 x68 s59 s60 j69 hst70 hB71 hA72 ht73 hH74 h75
        obtain ⟨_, hH74⟩ := Hp.open hH74
        replace h49 := El.tr h49 ht73
        replace h51 := El.tr h51 ht73
        replace h53 := El.tr h53 ht73
        replace hK := Tr.trans hK ht73
        replace hB := Nat.le_trans hB ht73.ex.size
        replace hA := ht73.new
        replace hH : Hp w.heap.size A66 w65 (obC b32 [.int .i64 s59] 3 :: obO l62 (.loop rc63) :: L67) := hH74
        have hr76 : Tr w.heap.size A66 w65 A66 w65 := Tr.refl hA
        show C _ _ _ _ _ _
        refine C_region ?_
        refine V_alloc Try.zeroValue48 rfl ?_
        intro b78 w79 h80
        refine V_storeNew h80 Try.sizeOf48 rfl rfl rfl rfl (by exact (List.forall_mem_cons.2 ⟨rfl, (List.forall_mem_cons.2 ⟨rfl, (fun _ h => nomatch h)⟩)⟩)) ?_
        intro w81 h82
        have hk84 := h82.kp
        have h83 : El (α := cal_Span) A66 w81 b78 0 x68 := h82.el hA ⟨[.int .i64 x68.from_], _, rfl, rfl, rfl⟩
        have ht85 := Kp.tr hk84 hA hB
        replace hH := Hp.kp hH hk84
        replace h49 := El.tr h49 ht85
        replace h51 := El.tr h51 ht85
        replace h53 := El.tr h53 ht85
        replace hK := Tr.trans hK ht85
        replace hr76 := Tr.trans hr76 ht85
        replace hB := Nat.le_trans hB ht85.ex.size
        replace hA := ht85.new
        refine V_end (fun a ha86 => ?_)
        refine begin_at hH (i := 1) rfl hst70 hB hA (fun w87 hH88 ht89 => ?_) ha86
        replace h83 := El.tr h83 ht89
        replace hK := Tr.trans hK ht89
        replace hr76 := Tr.trans hr76 ht89
        replace hB := Nat.le_trans hB ht89.ex.size
        replace hA := ht89.new
        replace hH : Hp w.heap.size A66 w87 (obC b32 [.int .i64 s59] 3 :: obO l62 (.loop { rc63 with state := .busy }) :: L67) := hH88
        refine C_block ?_
        refine C_region ?_
        refine V_y (Y_load (Hp.cell (j := 0) hH (i := 0) rfl rfl) Try.isAgg3 rfl) rfl rfl rfl ?_
        have h90 := El_cal_Span_1 h83
        refine V_y (Y_fieldAddr Try.underlying48 rfl Try.sizeOf3 (by decide) rfl) rfl rfl rfl ?_
        refine V_y (Y_load (El.int h90) Try.isAgg3 rfl) rfl rfl rfl ?_
        have h91 := El_cal_Span_0 h83
        refine V_y (Y_fieldAddr Try.underlying48 rfl Try.sizeOf3 (by decide) rfl) rfl rfl rfl ?_
        refine V_y (Y_load (El.int h91) Try.isAgg3 rfl) rfl rfl rfl ?_
        refine V_y (Y_subI rfl rfl) rfl rfl rfl ?_
        refine V_y (Y_addI rfl rfl) rfl rfl rfl ?_
        refine V_storeC (off := 0) (ds := [.int .i64 (w64 (s59 + (w64 (x68.to_ - x68.from_))))]) hH (i := 0) rfl Try.sizeOf3 rfl (Nat.le_of_ble_eq_true rfl) (by simp [Value.cells, Value.oneCell']) rfl hB hA rfl rfl ?_
        intro w92 hH93 ht94
        replace h83 := El.tr h83 ht94
        replace h90 := El.tr h90 ht94
        replace h91 := El.tr h91 ht94
        replace hK := Tr.trans hK ht94
        replace hr76 := Tr.trans hr76 ht94
        replace hB := Nat.le_trans hB ht94.ex.size
        replace hA := ht94.new
        replace hH : Hp w.heap.size A66 w92 (obC b32 [.int .i64 (w64 (s59 + (w64 (x68.to_ - x68.from_))))] 3 :: obO l62 (.loop { rc63 with state := .busy }) :: L67) := hH93
        obtain ⟨rfl, rfl⟩ := Prod.mk.inj (Option.some.inj h75)
        refine V_end (fun a ha95 => ?_)
        exact ⟨rfl, A66, hr76, Hp.pack (F := fun (i : Unit) => [obC b32 [.int .i64 (w64 (s59 + (w64 (x68.to_ - x68.from_))))] 3]) () hH⟩
      · intro hc101 D96 w97 A98 ht99 hH100 a ha102
        exact ⟨(D96, A98), ha102.sub ⟨rfl, trivial⟩, hH100, ht99⟩
      · intro k103 hc101 D96 w97 A98 ht99 hH100
        refine C_exit fun a ha102 => ?_
        show Exit.inBlock _ _ _ _ _
        rw [Exit.inBlock, if_pos rfl]
        exact ⟨(D96, A98), ha102.sub ⟨rfl, trivial⟩, hH100, ht99⟩
    rintro ⟨D96, A98⟩ w97 ⟨hH100, ht99⟩ a ha102
    obtain ⟨_, hH100⟩ := Hp.open hH100
    replace hK := Tr.trans hK ht99
    replace hB := Nat.le_trans hB ht99.ex.size
    replace hA := ht99.new
    replace hH : Hp w.heap.size A98 w97 (obC b32 [.int .i64 z57.1] 3 :: obO D96 (.deferred (some [])) :: []) := hH100
    refine C_at (n := ⟨34, [{ target := .collected D96, args := #[] }], none⟩) (fun _ _ => rfl) ?_ ha102
    refine C_seq ?_
    refine C_region ?_
    refine V_y (Y_load (Hp.cell (j := 0) hH (i := 0) rfl rfl) Try.isAgg3 rfl) rfl rfl rfl ?_
    refine V_y (Y_assign rfl) rfl rfl rfl ?_
    refine V_y (Y_assign rfl) rfl rfl rfl ?_
    refine V_to (fun _ _ => rfl) ?_
    obtain rfl := Option.some.inj hm
    have h106 := Hp.obj hH (i := 1) (b := D96) rfl
    obtain ⟨hH107, ht108⟩ := Hp.put (.deferred none) hH (i := 1) (b := D96) rfl hB hA
    replace hK := Tr.trans hK ht108
    replace hB := Nat.le_trans hB ht108.ex.size
    replace hA := ht108.new
    replace hH : Hp w.heap.size A98 (World.putObj w97 D96 (.deferred none)) (obC b32 [.int .i64 z57.1] 3 :: obO D96 (.deferred none) :: []) := hH107
    refine C_ret ?_
    try simp only [↓inBlock_ret, ↓then_ret]
    exact retM1 rfl h106 (Res.two Try.results67 rfl rfl) ⟨rfl, hK.kp⟩

set_option maxRecDepth 4000 in
set_option maxHeartbeats 4000000 in
theorem cal_moment_c (w : World) (m : Int) : Ret Try.prog 92 #[.int .i64 m] w fun v w' => v = .int .i64 (cal_moment m) ∧ w = w' := by
  generalize hm : cal_moment m = r
  unfold cal_moment at hm
  refine enter Try.func92 rfl Try.ntmps92 rfl ?_
  refine C_seq ?_
  refine C_region ?_
  refine V_y (Y_assign rfl) rfl rfl rfl ?_
  refine V_to (fun _ _ => rfl) ?_
  refine C_seq ?_
  refine C_seq ?_
  refine C_region ?_
  refine V_y (Y_move rfl) rfl rfl rfl ?_
  refine V_call Try.call60 rfl rfl rfl rfl (cal_within_c w m 0 3000000) ?_
  rintro _ _ ⟨rfl, rfl⟩
  refine V_y (Y_not rfl) rfl rfl rfl ?_
  refine V_to (fun _ _ => rfl) ?_
  refine C_cond rfl (fun hc1 => ?_) (fun hc1 => ?_)
  · rw [if_pos hc1] at hm
    refine C_seq ?_
    refine C_region ?_
    refine V_y (Y_assign rfl) rfl rfl rfl ?_
    refine V_to (fun _ _ => rfl) ?_
    obtain rfl := hm
    refine C_ret ?_
    try simp only [↓inBlock_ret, ↓then_ret]
    exact retQ rfl (Res.one Try.results92 rfl) ⟨rfl, rfl⟩
  · rw [if_neg (nt hc1)] at hm
    refine C_skip_to (fun _ _ => rfl) ?_
    refine C_seq ?_
    refine C_region ?_
    refine V_y (Y_assign rfl) rfl rfl rfl ?_
    refine V_to (fun _ _ => rfl) ?_
    obtain rfl := hm
    refine C_ret ?_
    try simp only [↓inBlock_ret, ↓then_ret]
    exact retQ rfl (Res.one Try.results92 rfl) ⟨rfl, rfl⟩

set_option maxRecDepth 4000 in
set_option maxHeartbeats 4000000 in
theorem cal_workOf_c (w : World) (work : Int) : Ret Try.prog 93 #[.int .i64 work] w fun v w' => v = .int .i64 (cal_workOf work) ∧ w = w' := by
  generalize hm : cal_workOf work = r
  unfold cal_workOf at hm
  refine enter Try.func93 rfl Try.ntmps93 rfl ?_
  refine C_seq ?_
  refine C_region ?_
  refine V_y (Y_assign rfl) rfl rfl rfl ?_
  refine V_to (fun _ _ => rfl) ?_
  refine C_seq ?_
  refine C_seq ?_
  refine C_region ?_
  refine V_y (Y_move rfl) rfl rfl rfl ?_
  refine V_call Try.call60 rfl rfl rfl rfl (cal_within_c w work 0 3000001) ?_
  rintro _ _ ⟨rfl, rfl⟩
  refine V_y (Y_not rfl) rfl rfl rfl ?_
  refine V_to (fun _ _ => rfl) ?_
  refine C_cond rfl (fun hc1 => ?_) (fun hc1 => ?_)
  · rw [if_pos hc1] at hm
    refine C_seq ?_
    refine C_region ?_
    refine V_y (Y_assign rfl) rfl rfl rfl ?_
    refine V_to (fun _ _ => rfl) ?_
    obtain rfl := hm
    refine C_ret ?_
    try simp only [↓inBlock_ret, ↓then_ret]
    exact retQ rfl (Res.one Try.results93 rfl) ⟨rfl, rfl⟩
  · rw [if_neg (nt hc1)] at hm
    refine C_skip_to (fun _ _ => rfl) ?_
    refine C_seq ?_
    refine C_region ?_
    refine V_y (Y_assign rfl) rfl rfl rfl ?_
    refine V_to (fun _ _ => rfl) ?_
    obtain rfl := hm
    refine C_ret ?_
    try simp only [↓inBlock_ret, ↓then_ret]
    exact retQ rfl (Res.one Try.results93 rfl) ⟨rfl, rfl⟩

set_option maxRecDepth 4000 in
set_option maxHeartbeats 4000000 in
theorem cal_Add_c (w : World) {A : Nat → Prop} (hA : ∀ b, w.heap.size ≤ b → A b) (c : cal_Calendar) (v_c0 : Value) (h_c0 : Sl A w v_c0 c.zone.changes) (v_c1 : Value) (h_c1 : Sl A w v_c1 c.week) (v_c2 : Value) (h_c2 : Sl A w v_c2 c.specials) (from_ : Int) (work : Int) {r : (Int × Int)} (hm : cal_Add c from_ work = some r) : Ret Try.prog 78 #[.agg #[.int .i64 c.zone.offset, v_c0, v_c1, v_c2], .int .i64 from_, .int .i64 work] w fun v w' => v = .tuple #[.int .i64 r.1, .int .i64 r.2] ∧ Kp w w' := by
  unfold cal_Add at hm
  refine enterM Try.func78 rfl Try.ntmps78 rfl ?_
  have hA0 := hA
  have hB := Nat.le_refl w.heap.size
  have hK : Tr w.heap.size A w A w := Tr.refl hA
  have hH : Hp w.heap.size A w [] := Hp.nil
  refine C_seq ?_
  refine C_region ?_
  refine V_box rfl rfl ?_
  intro b7 w9 h10
  have hk12 := h10.kp
  have h11 : El (α := cal_Calendar) A w9 b7 0 c := h10.el hA ⟨[.int .i64 c.zone.offset, v_c0], _, rfl, ⟨[.int .i64 c.zone.offset], _, rfl, rfl, ⟨_, rfl, h_c0⟩⟩, ⟨[v_c1], _, rfl, ⟨_, rfl, h_c1⟩, ⟨_, rfl, h_c2⟩⟩⟩
  have ht13 := Kp.tr hk12 hA hB
  replace hH := Hp.kp hH hk12
  replace h_c0 := Sl.tr h_c0 ht13
  replace h_c1 := Sl.tr h_c1 ht13
  replace h_c2 := Sl.tr h_c2 ht13
  replace hK := Tr.trans hK ht13
  replace hB := Nat.le_trans hB ht13.ex.size
  replace hA := ht13.new
  refine V_boxH (B := w.heap.size) hH rfl hB hA rfl ?_
  intro b14 w15 A16 hH17 ht18
  replace h_c0 := Sl.tr h_c0 ht18
  replace h_c1 := Sl.tr h_c1 ht18
  replace h_c2 := Sl.tr h_c2 ht18
  replace h11 := El.tr h11 ht18
  replace hK := Tr.trans hK ht18
  replace hB := Nat.le_trans hB ht18.ex.size
  replace hA := ht18.new
  replace hH : Hp w.heap.size A16 w15 (obC b14 [.int .i64 work] 3 :: []) := hH17
  refine V_allocH (B := w.heap.size) hH Try.zeroValue3 hB hA rfl ?_
  intro b19 w20 A21 hH22 ht23
  replace h_c0 := Sl.tr h_c0 ht23
  replace h_c1 := Sl.tr h_c1 ht23
  replace h_c2 := Sl.tr h_c2 ht23
  replace h11 := El.tr h11 ht23
  replace hK := Tr.trans hK ht23
  replace hB := Nat.le_trans hB ht23.ex.size
  replace hA := ht23.new
  replace hH : Hp w.heap.size A21 w20 (obC b19 [.int .i64 0] 3 :: obC b14 [.int .i64 work] 3 :: []) := hH22
  refine V_allocH (B := w.heap.size) hH Try.zeroValue29 hB hA rfl ?_
  intro b24 w25 A26 hH27 ht28
  replace h_c0 := Sl.tr h_c0 ht28
  replace h_c1 := Sl.tr h_c1 ht28
  replace h_c2 := Sl.tr h_c2 ht28
  replace h11 := El.tr h11 ht28
  replace hK := Tr.trans hK ht28
  replace hB := Nat.le_trans hB ht28.ex.size
  replace hA := ht28.new
  replace hH : Hp w.heap.size A26 w25 (obC b24 [.int .i64 0] 29 :: obC b19 [.int .i64 0] 3 :: obC b14 [.int .i64 work] 3 :: []) := hH27
  refine V_to (fun _ _ => rfl) ?_
  refine C_seq ?_
  refine C_seq ?_
  refine C_region_qt 6 Try_mixed (by kernel_rfl) ?_
  simp only [List.take, List.drop]
  obtain ⟨v29, v31, v33, h35, h30, h32, h34⟩ := El_cal_Calendar h11
  refine VQ_y (fun w' hw' => Y_loadA (At.kp h35 hw' h11.2.1) Try.isAgg28 Try.sizeOf28 rfl) rfl rfl rfl ?_
  obtain ⟨x36, hx36, hm⟩ := Option.bind_eq_some_iff.1 hm
  refine VQ_call (.int .i64 x36) Try.call29 rfl rfl rfl rfl (fun w' hw' => (cal_CheckCalendar_c w' (fun b hb => hA b (Nat.le_trans hw'.size hb)) c v29 (Sl.kp h30 hw') v31 (Sl.kp h32 hw') v33 (Sl.kp h34 hw') hx36).mono (fun _ _ h => ⟨h.1, Kp.trans hw' h.2⟩)) ?_
  refine VQ_y (fun w' hw' => Y_move rfl) rfl rfl rfl ?_
  refine VQ_call (.int .i64 (cal_moment from_)) Try.call92 rfl rfl rfl rfl (fun w' hw' => (cal_moment_c w' from_).mono (fun _ _ h => ⟨h.1, h.2 ▸ hw'⟩)) ?_
  refine VQ_y (fun w' hw' => Y_load ((World.cell?_of_block (hw'.block _ (World.block_lt_of_cell? _ _ (Hp.cell (j := 0) hH (i := 2) rfl rfl)))).trans (Hp.cell (j := 0) hH (i := 2) rfl rfl)) Try.isAgg3 rfl) rfl rfl rfl ?_
  refine VQ_call (.int .i64 (cal_workOf work)) Try.call93 rfl rfl rfl rfl (fun w' hw' => (cal_workOf_c w' work).mono (fun _ _ h => ⟨h.1, h.2 ▸ hw'⟩)) ?_
  refine VQ_tail (fun w37 hk38 => ?_)
  try simp only [List.take, List.drop]
  have ht39 := Kp.tr hk38 hA hB
  replace hH := Hp.kp hH hk38
  replace h11 := El.tr h11 ht39
  replace h30 := Sl.tr h30 ht39
  replace h32 := Sl.tr h32 ht39
  replace h34 := Sl.tr h34 ht39
  replace hK := Tr.trans hK ht39
  replace hB := Nat.le_trans hB ht39.ex.size
  replace hA := ht39.new
  refine V_buildSlice (l := ([x36, (cal_moment from_), (cal_workOf work)] : List Int)) (len := 3) Try.underlying94 Try.sizeOf29 Try.zeroValue29 rfl (by with_unfolding_all rfl) (by decide) (by decide) hA ⟨[.int .i64 x36], _, rfl, rfl, ⟨[.int .i64 (cal_moment from_)], _, rfl, rfl, ⟨[.int .i64 (cal_workOf work)], _, rfl, rfl, rfl⟩⟩⟩ rfl rfl ?_
  intro v40 w41 hk43 h42
  have ht44 := Kp.tr hk43 hA hB
  replace hH := Hp.kp hH hk43
  replace h11 := El.tr h11 ht44
  replace h30 := Sl.tr h30 ht44
  replace h32 := Sl.tr h32 ht44
  replace h34 := Sl.tr h34 ht44
  replace hK := Tr.trans hK ht44
  replace hB := Nat.le_trans hB ht44.ex.size
  replace hA := ht44.new
  obtain ⟨x45, hx45, hm⟩ := Option.bind_eq_some_iff.1 hm
  refine V_call Try.call36 rfl rfl rfl rfl (cmp_Or_api_Errno_c w41 ([x36, (cal_moment from_), (cal_workOf work)] : List Int) v40 h42 hx45) ?_
  rintro _ _ ⟨rfl, rfl⟩
  refine V_y (Y_assign rfl) rfl rfl rfl ?_
  refine V_to (fun _ _ => rfl) ?_
  refine C_seq ?_
  refine C_region ?_
  refine V_y (Y_move rfl) rfl rfl rfl ?_
  refine V_y (Y_neq rfl rfl) rfl rfl rfl ?_
  refine V_to (fun _ _ => rfl) ?_
  refine C_cond rfl (fun hc46 => ?_) (fun hc46 => ?_)
  · rw [if_pos hc46] at hm
    refine C_seq ?_
    refine C_region ?_
    refine V_y (Y_move rfl) rfl rfl rfl ?_
    refine V_storeC (off := 0) (ds := [.int .i64 0]) hH (i := 1) rfl Try.sizeOf3 rfl (Nat.le_of_ble_eq_true rfl) (by simp [Value.cells, Value.oneCell']) rfl hB hA rfl rfl ?_
    intro w47 hH48 ht49
    replace h11 := El.tr h11 ht49
    replace hK := Tr.trans hK ht49
    replace hB := Nat.le_trans hB ht49.ex.size
    replace hA := ht49.new
    replace hH : Hp w.heap.size A26 w47 (obC b24 [.int .i64 0] 29 :: obC b19 [.int .i64 0] 3 :: obC b14 [.int .i64 work] 3 :: []) := hH48
    refine V_storeC (off := 0) (ds := [.int .i64 x45]) hH (i := 0) rfl Try.sizeOf29 rfl (Nat.le_of_ble_eq_true rfl) (by simp [Value.cells, Value.oneCell']) rfl hB hA rfl rfl ?_
    intro w50 hH51 ht52
    replace h11 := El.tr h11 ht52
    replace hK := Tr.trans hK ht52
    replace hB := Nat.le_trans hB ht52.ex.size
    replace hA := ht52.new
    replace hH : Hp w.heap.size A26 w50 (obC b24 [.int .i64 x45] 29 :: obC b19 [.int .i64 0] 3 :: obC b14 [.int .i64 work] 3 :: []) := hH51
    refine V_to (fun _ _ => rfl) ?_
    obtain rfl := Option.some.inj hm
    refine C_ret ?_
    try simp only [↓inBlock_ret, ↓then_ret]
    exact retM rfl (Res.l2 Try.results78 (RL.cell rfl (loadVar_one (Hp.cell (j := 0) hH (i := 1) rfl rfl) Try.isAgg3)) (RL.cell rfl (loadVar_one (Hp.cell (j := 0) hH (i := 0) rfl rfl) Try.isAgg29))) ⟨rfl, hK.kp⟩
  · rw [if_neg (nt hc46)] at hm
    refine C_skip_to (fun _ _ => rfl) ?_
    refine C_seq ?_
    refine C_seq ?_
    refine C_region ?_
    obtain ⟨v53, v55, v57, h59, h54, h56, h58⟩ := El_cal_Calendar h11
    refine V_y (Y_loadA h59 Try.isAgg28 Try.sizeOf28 rfl) rfl rfl rfl ?_
    refine V_y (Y_move rfl) rfl rfl rfl ?_
    obtain ⟨x60, hx60, hm⟩ := Option.bind_eq_some_iff.1 hm
    refine V_call Try.call75 rfl rfl rfl rfl (cal_Calendar_open_c w41 hA c v53 h54 v55 h56 v57 h58 from_ 3000001 hx60) ?_
    rintro _ w67 ⟨b61, b63, b65, rfl, h62, h64, h66, hk68⟩
    have ht69 := Kp.tr hk68 hA hB
    replace hH := Hp.kp hH hk68
    replace h11 := El.tr h11 ht69
    replace h54 := Sl.tr h54 ht69
    replace h56 := Sl.tr h56 ht69
    replace h58 := Sl.tr h58 ht69
    replace hK := Tr.trans hK ht69
    replace hB := Nat.le_trans hB ht69.ex.size
    replace hA := ht69.new
    refine V_to (fun _ _ => rfl) ?_
    have hH74 : Hp w.heap.size A26 w67 ((fun (s71 : (Int × Int × Int)) => obE (fun (i : Unit) => [obC b24 [.int .i64 s71.1] 29, obC b19 [.int .i64 s71.2.1] 3, obC b14 [.int .i64 s71.2.2] 3])) (0, 0, work) :: []) := Hp.pack (F := fun (i : Unit) => [obC b24 [.int .i64 (0, 0, work).1] 29, obC b19 [.int .i64 (0, 0, work).2.1] 3, obC b14 [.int .i64 (0, 0, work).2.2] 3]) () hH
    obtain ⟨z70, hz70, hm⟩ := Option.bind_eq_some_iff.1 hm
    refine C_cutN (ι := Nat × (Nat → Prop)) (fun i => ⟨41, [{ target := .collected i.1, args := #[] }], none⟩) (fun i => [(6, .pointer (some ⟨b19, 0, none⟩)), (7, .pointer (some ⟨b24, 0, none⟩))]) (fun i w' => z70.2 ≠ some 0 ∧ Hp w.heap.size i.2 w' ((fun (s71 : (Int × Int × Int)) => obE (fun (i : Unit) => [obC b24 [.int .i64 s71.1] 29, obC b19 [.int .i64 s71.2.1] 3, obC b14 [.int .i64 s71.2.2] 3])) z70.1 :: obO i.1 (.deferred (some [])) :: []) ∧ Tr w.heap.size A26 w67 i.2 w') ?_ ?_
    · refine C_block ?_
      refine C_rangeFunc (B := w.heap.size) (A := A26) (L := []) (X := cal_Span) (fun (x80 : cal_Span) => [.agg #[.int .i64 x80.from_, .int .i64 x80.to_]]) (fun (s71 : (Int × Int × Int)) => obE (fun (i : Unit) => [obC b24 [.int .i64 s71.1] 29, obC b19 [.int .i64 s71.2.1] 3, obC b14 [.int .i64 s71.2.2] 3])) (fun (x80 : cal_Span) (s72 : (Int × Int × Int)) => if (decide ((w64 (x80.to_ - x80.from_)) ≤ s72.2.2)) = true then some ((s72.1, s72.2.1, w64 (s72.2.2 - (w64 (x80.to_ - x80.from_)))), none) else some ((0, w64 (x80.from_ + s72.2.2), s72.2.2), some 0)) (fun k => if k = 0 then .ret else .exit 0) (s0 := (0, 0, work)) (zf := z70) rfl rfl rfl (by decide) (fun _ => rfl) hB hA hH74 87 _ rfl Try.call87 ?_ ?_ ?_ ?_
      · intro Ys yv w1 A1 L1 h1 h2 h3 h4 h0 h5
        exact (cal_Calendar_open_1_c w1 h1 h2 (yieldB (fun (x80 : cal_Span) (s72 : (Int × Int × Int)) => if (decide ((w64 (x80.to_ - x80.from_)) ≤ s72.2.2)) = true then some ((s72.1, s72.2.1, w64 (s72.2.2 - (w64 (x80.to_ - x80.from_)))), none) else some ((0, w64 (x80.from_ + s72.2.2), s72.2.2), some 0))) Ys yv h0 ((0, 0, work), none) h5 x60.1 b61 (El.tr h62 h3) x60.2.1 b63 (El.tr h64 h3) x60.2.2 b65 (El.tr h66 h3) h4 hz70).mono fun _ _ ⟨A3, _, hh, tt⟩ => ⟨A3, tt, hh⟩
      · intro l75 rc76 w77 A78 L79 x80 s72 s73 j81 hst82 hB83 hA84 ht85 hH86 h87
        obtain ⟨_, hH86⟩ := Hp.open hH86
        replace h62 := El.tr h62 ht85
        replace h64 := El.tr h64 ht85
        replace h66 := El.tr h66 ht85
        replace hK := Tr.trans hK ht85
        replace hB := Nat.le_trans hB ht85.ex.size
        replace hA := ht85.new
        replace hH : Hp w.heap.size A78 w77 (obC b24 [.int .i64 s72.1] 29 :: obC b19 [.int .i64 s72.2.1] 3 :: obC b14 [.int .i64 s72.2.2] 3 :: obO l75 (.loop rc76) :: L79) := hH86
        have hr88 : Tr w.heap.size A78 w77 A78 w77 := Tr.refl hA
        show C _ _ _ _ _ _
        refine C_region ?_
        refine V_alloc Try.zeroValue48 rfl ?_
        intro b90 w91 h92
        refine V_storeNew h92 Try.sizeOf48 rfl rfl rfl rfl (by exact (List.forall_mem_cons.2 ⟨rfl, (List.forall_mem_cons.2 ⟨rfl, (fun _ h => nomatch h)⟩)⟩)) ?_
        intro w93 h94
        have hk96 := h94.kp
        have h95 : El (α := cal_Span) A78 w93 b90 0 x80 := h94.el hA ⟨[.int .i64 x80.from_], _, rfl, rfl, rfl⟩
        have ht97 := Kp.tr hk96 hA hB
        replace hH := Hp.kp hH hk96
        replace h62 := El.tr h62 ht97
        replace h64 := El.tr h64 ht97
        replace h66 := El.tr h66 ht97
        replace hK := Tr.trans hK ht97
        replace hr88 := Tr.trans hr88 ht97
        replace hB := Nat.le_trans hB ht97.ex.size
        replace hA := ht97.new
        refine V_end (fun a ha98 => ?_)
        refine begin_at hH (i := 3) rfl hst82 hB hA (fun w99 hH100 ht101 => ?_) ha98
        replace h95 := El.tr h95 ht101
        replace hK := Tr.trans hK ht101
        replace hr88 := Tr.trans hr88 ht101
        replace hB := Nat.le_trans hB ht101.ex.size
        replace hA := ht101.new
        replace hH : Hp w.heap.size A78 w99 (obC b24 [.int .i64 s72.1] 29 :: obC b19 [.int .i64 s72.2.1] 3 :: obC b14 [.int .i64 s72.2.2] 3 :: obO l75 (.loop { rc76 with state := .busy }) :: L79) := hH100
        refine C_block ?_
        refine C_seq ?_
        refine C_region ?_
        have h102 := El_cal_Span_1 h95
        refine V_y (Y_fieldAddr Try.underlying48 rfl Try.sizeOf3 (by decide) rfl) rfl rfl rfl ?_
        refine V_y (Y_load (El.int h102) Try.isAgg3 rfl) rfl rfl rfl ?_
        have h103 := El_cal_Span_0 h95
        refine V_y (Y_fieldAddr Try.underlying48 rfl Try.sizeOf3 (by decide) rfl) rfl rfl rfl ?_
        refine V_y (Y_load (El.int h103) Try.isAgg3 rfl) rfl rfl rfl ?_
        refine V_y (Y_subI rfl rfl) rfl rfl rfl ?_
        refine V_y (Y_assign rfl) rfl rfl rfl ?_
        refine V_to (fun _ _ => rfl) ?_
        refine C_seq ?_
        refine C_region ?_
        refine V_y (Y_load (Hp.cell (j := 0) hH (i := 2) rfl rfl) Try.isAgg3 rfl) rfl rfl rfl ?_
        refine V_y (Y_move rfl) rfl rfl rfl ?_
        refine V_y (Y_geq rfl rfl) rfl rfl rfl ?_
        refine V_to (fun _ _ => rfl) ?_
        refine C_cond rfl (fun hc104 => ?_) (fun hc104 => ?_)
        · rw [if_pos hc104] at h87
          refine C_region ?_
          refine V_y (Y_load (Hp.cell (j := 0) hH (i := 2) rfl rfl) Try.isAgg3 rfl) rfl rfl rfl ?_
          refine V_y (Y_move rfl) rfl rfl rfl ?_
          refine V_y (Y_subI rfl rfl) rfl rfl rfl ?_
          refine V_storeC (off := 0) (ds := [.int .i64 (w64 (s72.2.2 - (w64 (x80.to_ - x80.from_))))]) hH (i := 2) rfl Try.sizeOf3 rfl (Nat.le_of_ble_eq_true rfl) (by simp [Value.cells, Value.oneCell']) rfl hB hA rfl rfl ?_
          intro w105 hH106 ht107
          replace h95 := El.tr h95 ht107
          replace hK := Tr.trans hK ht107
          replace hr88 := Tr.trans hr88 ht107
          replace hB := Nat.le_trans hB ht107.ex.size
          replace hA := ht107.new
          replace hH : Hp w.heap.size A78 w105 (obC b24 [.int .i64 s72.1] 29 :: obC b19 [.int .i64 s72.2.1] 3 :: obC b14 [.int .i64 (w64 (s72.2.2 - (w64 (x80.to_ - x80.from_))))] 3 :: obO l75 (.loop { rc76 with state := .busy }) :: L79) := hH106
          obtain ⟨rfl, rfl⟩ := Prod.mk.inj (Option.some.inj h87)
          refine V_end (fun a ha108 => ?_)
          exact ⟨rfl, A78, hr88, Hp.pack (F := fun (i : Unit) => [obC b24 [.int .i64 (s72.1, s72.2.1, w64 (s72.2.2 - (w64 (x80.to_ - x80.from_)))).1] 29, obC b19 [.int .i64 (s72.1, s72.2.1, w64 (s72.2.2 - (w64 (x80.to_ - x80.from_)))).2.1] 3, obC b14 [.int .i64 (s72.1, s72.2.1, w64 (s72.2.2 - (w64 (x80.to_ - x80.from_)))).2.2] 3]) () hH⟩
        · rw [if_neg (nt hc104)] at h87
          refine C_seq ?_
          refine C_region ?_
          have h109 := El_cal_Span_0 h95
          refine V_y (Y_fieldAddr Try.underlying48 rfl Try.sizeOf3 (by decide) rfl) rfl rfl rfl ?_
          refine V_y (Y_load (El.int h109) Try.isAgg3 rfl) rfl rfl rfl ?_
          refine V_y (Y_load (Hp.cell (j := 0) hH (i := 2) rfl rfl) Try.isAgg3 rfl) rfl rfl rfl ?_
          refine V_y (Y_addI rfl rfl) rfl rfl rfl ?_
          refine V_storeC (off := 0) (ds := [.int .i64 (w64 (x80.from_ + s72.2.2))]) hH (i := 1) rfl Try.sizeOf3 rfl (Nat.le_of_ble_eq_true rfl) (by simp [Value.cells, Value.oneCell']) rfl hB hA rfl rfl ?_
          intro w110 hH111 ht112
          replace h95 := El.tr h95 ht112
          replace h109 := El.tr h109 ht112
          replace hK := Tr.trans hK ht112
          replace hr88 := Tr.trans hr88 ht112
          replace hB := Nat.le_trans hB ht112.ex.size
          replace hA := ht112.new
          replace hH : Hp w.heap.size A78 w110 (obC b24 [.int .i64 s72.1] 29 :: obC b19 [.int .i64 (w64 (x80.from_ + s72.2.2))] 3 :: obC b14 [.int .i64 s72.2.2] 3 :: obO l75 (.loop { rc76 with state := .busy }) :: L79) := hH111
          refine V_storeC (off := 0) (ds := [.int .i64 0]) hH (i := 0) rfl Try.sizeOf29 rfl (Nat.le_of_ble_eq_true rfl) (by simp [Value.cells, Value.oneCell']) rfl hB hA rfl rfl ?_
          intro w113 hH114 ht115
          replace h95 := El.tr h95 ht115
          replace h109 := El.tr h109 ht115
          replace hK := Tr.trans hK ht115
          replace hr88 := Tr.trans hr88 ht115
          replace hB := Nat.le_trans hB ht115.ex.size
          replace hA := ht115.new
          replace hH : Hp w.heap.size A78 w113 (obC b24 [.int .i64 0] 29 :: obC b19 [.int .i64 (w64 (x80.from_ + s72.2.2))] 3 :: obC b14 [.int .i64 s72.2.2] 3 :: obO l75 (.loop { rc76 with state := .busy }) :: L79) := hH114
          refine V_to (fun _ _ => rfl) ?_
          obtain ⟨rfl, rfl⟩ := Prod.mk.inj (Option.some.inj h87)
          refine C_ret (fun a ha116 => ?_)
          exact ⟨rfl, A78, hr88, Hp.pack (F := fun (i : Unit) => [obC b24 [.int .i64 (0, w64 (x80.from_ + s72.2.2), s72.2.2).1] 29, obC b19 [.int .i64 (0, w64 (x80.from_ + s72.2.2), s72.2.2).2.1] 3, obC b14 [.int .i64 (0, w64 (x80.from_ + s72.2.2), s72.2.2).2.2] 3]) () hH⟩
      · intro hc122 D117 w118 A119 ht120 hH121 a ha123
        exact ⟨(D117, A119), ha123.sub ⟨rfl, rfl, trivial⟩, (by rw [hc122]; simp), hH121, ht120⟩
      · intro k124 hc122 D117 w118 A119 ht120 hH121
        by_cases hc125 : k124 = 0
        · subst hc125
          rw [if_pos hc122] at hm
          obtain ⟨_, hH121⟩ := Hp.open hH121
          replace hK := Tr.trans hK ht120
          replace hB := Nat.le_trans hB ht120.ex.size
          replace hA := ht120.new
          replace hH : Hp w.heap.size A119 w118 (obC b24 [.int .i64 z70.1.1] 29 :: obC b19 [.int .i64 z70.1.2.1] 3 :: obC b14 [.int .i64 z70.1.2.2] 3 :: obO D117 (.deferred (some [])) :: []) := hH121
          show C _ _ .ret _ _ _
          obtain rfl := Option.some.inj hm
          have h126 := Hp.obj hH (i := 3) (b := D117) rfl
          obtain ⟨hH127, ht128⟩ := Hp.put (.deferred none) hH (i := 3) (b := D117) rfl hB hA
          replace hK := Tr.trans hK ht128
          replace hB := Nat.le_trans hB ht128.ex.size
          replace hA := ht128.new
          replace hH : Hp w.heap.size A119 (World.putObj w118 D117 (.deferred none)) (obC b24 [.int .i64 z70.1.1] 29 :: obC b19 [.int .i64 z70.1.2.1] 3 :: obC b14 [.int .i64 z70.1.2.2] 3 :: obO D117 (.deferred none) :: []) := hH127
          refine C_ret ?_
          try simp only [↓inBlock_ret, ↓then_ret]
          exact retM1 rfl h126 (Res.l2 Try.results78 (RL.cell rfl (loadVar_one (Hp.cell (j := 0) hH (i := 1) rfl rfl) Try.isAgg3)) (RL.cell rfl (loadVar_one (Hp.cell (j := 0) hH (i := 0) rfl rfl) Try.isAgg29))) ⟨rfl, hK.kp⟩
        · show C _ _ (if k124 = 0 then _ else _) _ _ _
          rw [if_neg hc125]
          refine C_exit fun a ha123 => ?_
          show Exit.inBlock _ _ _ _ _
          rw [Exit.inBlock, if_pos rfl]
          exact ⟨(D117, A119), ha123.sub ⟨rfl, rfl, trivial⟩, (by rw [hc122]; simpa using hc125), hH121, ht120⟩
    rintro ⟨D117, A119⟩ w118 ⟨hc129, hH121, ht120⟩ a ha123
    rw [if_neg hc129] at hm
    obtain ⟨_, hH121⟩ := Hp.open hH121
    replace hK := Tr.trans hK ht120
    replace hB := Nat.le_trans hB ht120.ex.size
    replace hA := ht120.new
    replace hH : Hp w.heap.size A119 w118 (obC b24 [.int .i64 z70.1.1] 29 :: obC b19 [.int .i64 z70.1.2.1] 3 :: obC b14 [.int .i64 z70.1.2.2] 3 :: obO D117 (.deferred (some [])) :: []) := hH121
    refine C_at (n := ⟨41, [{ target := .collected D117, args := #[] }], none⟩) (fun _ _ => rfl) ?_ ha123
    refine C_seq ?_
    refine C_region ?_
    refine V_storeC (off := 0) (ds := [.int .i64 0]) hH (i := 1) rfl Try.sizeOf3 rfl (Nat.le_of_ble_eq_true rfl) (by simp [Value.cells, Value.oneCell']) rfl hB hA rfl rfl ?_
    intro w130 hH131 ht132
    replace hK := Tr.trans hK ht132
    replace hB := Nat.le_trans hB ht132.ex.size
    replace hA := ht132.new
    replace hH : Hp w.heap.size A119 w130 (obC b24 [.int .i64 z70.1.1] 29 :: obC b19 [.int .i64 0] 3 :: obC b14 [.int .i64 z70.1.2.2] 3 :: obO D117 (.deferred (some [])) :: []) := hH131
    refine V_storeC (off := 0) (ds := [.int .i64 7]) hH (i := 0) rfl Try.sizeOf29 rfl (Nat.le_of_ble_eq_true rfl) (by simp [Value.cells, Value.oneCell']) rfl hB hA rfl rfl ?_
    intro w133 hH134 ht135
    replace hK := Tr.trans hK ht135
    replace hB := Nat.le_trans hB ht135.ex.size
    replace hA := ht135.new
    replace hH : Hp w.heap.size A119 w133 (obC b24 [.int .i64 7] 29 :: obC b19 [.int .i64 0] 3 :: obC b14 [.int .i64 z70.1.2.2] 3 :: obO D117 (.deferred (some [])) :: []) := hH134
    refine V_to (fun _ _ => rfl) ?_
    obtain rfl := Option.some.inj hm
    have h136 := Hp.obj hH (i := 3) (b := D117) rfl
    obtain ⟨hH137, ht138⟩ := Hp.put (.deferred none) hH (i := 3) (b := D117) rfl hB hA
    replace hK := Tr.trans hK ht138
    replace hB := Nat.le_trans hB ht138.ex.size
    replace hA := ht138.new
    replace hH : Hp w.heap.size A119 (World.putObj w133 D117 (.deferred none)) (obC b24 [.int .i64 7] 29 :: obC b19 [.int .i64 0] 3 :: obC b14 [.int .i64 z70.1.2.2] 3 :: obO D117 (.deferred none) :: []) := hH137
    refine C_ret ?_
    try simp only [↓inBlock_ret, ↓then_ret]
    exact retM1 rfl h136 (Res.l2 Try.results78 (RL.cell rfl (loadVar_one (Hp.cell (j := 0) hH (i := 1) rfl rfl) Try.isAgg3)) (RL.cell rfl (loadVar_one (Hp.cell (j := 0) hH (i := 0) rfl rfl) Try.isAgg29))) ⟨rfl, hK.kp⟩

set_option maxRecDepth 4000 in
set_option maxHeartbeats 4000000 in
theorem level_counted_c (w : World) {A : Nat → Prop} (hA : ∀ b, w.heap.size ≤ b → A b) (c : level_Clock) (v_c : Value) (h_c : Sl A w v_c c.pieces) (cals : (List cal_Calendar)) (v_cals : Value) (h_cals : Sl A w v_cals cals) (k_ : Int) {r : (Int × Bool)} (hm : level_counted c cals k_ = some r) : Ret Try.prog 49 #[.agg #[.int .i64 c.kind, .int .i64 c.level, .int .i64 c.minutes, .int .i64 c.start, .int .i64 c.stop, .int .i64 c.end_, v_c], v_cals, .int .i64 k_] w fun v w' => v = .tuple #[.int .i64 r.1, .bool r.2] ∧ Kp w w' := by
  unfold level_counted at hm
  refine enter Try.func49 rfl Try.ntmps49 rfl ?_
  have hA0 := hA
  have hB := Nat.le_refl w.heap.size
  have hK : Tr w.heap.size A w A w := Tr.refl hA
  have hH : Hp w.heap.size A w [] := Hp.nil
  refine C_seq ?_
  refine C_region ?_
  refine V_box rfl rfl ?_
  intro b5 w6 h7
  have hk9 := h7.kp
  have h8 : El (α := level_Clock) A w6 b5 0 c := h7.el hA ⟨[.int .i64 c.kind], _, rfl, rfl, ⟨[.int .i64 c.level], _, rfl, rfl, ⟨[.int .i64 c.minutes], _, rfl, rfl, ⟨[.int .i64 c.start], _, rfl, rfl, ⟨[.int .i64 c.stop], _, rfl, rfl, ⟨[.int .i64 c.end_], _, rfl, rfl, ⟨_, rfl, h_c⟩⟩⟩⟩⟩⟩⟩
  have ht10 := Kp.tr hk9 hA hB
  replace hH := Hp.kp hH hk9
  replace h_c := Sl.tr h_c ht10
  replace h_cals := Sl.tr h_cals ht10
  replace hK := Tr.trans hK ht10
  replace hB := Nat.le_trans hB ht10.ex.size
  replace hA := ht10.new
  refine V_y (Y_assign rfl) rfl rfl rfl ?_
  refine V_y (Y_assign rfl) rfl rfl rfl ?_
  refine V_to (fun _ _ => rfl) ?_
  refine C_seq ?_
  refine C_seq ?_
  refine C_region ?_
  have h11 := El_level_Clock_6 h8
  refine V_y (Y_fieldAddr Try.underlying35 rfl Try.sizeOf33 (by decide) rfl) rfl rfl rfl ?_
  obtain ⟨v12, h13, h14⟩ := El.list h11
  refine V_y (Y_load h13 Try.isAgg33 rfl) rfl rfl rfl ?_
  refine V_y (Y_lenSl h14 rfl Try.underlying33 rfl) rfl rfl rfl ?_
  refine V_y (Y_move rfl) rfl rfl rfl ?_
  refine V_to (fun _ _ => rfl) ?_
  have hn35 := Sl.le h14
  obtain ⟨o15, ho15, hm⟩ := Option.bind_eq_some_iff.1 hm
  refine C_cutG (ι := (Int × (Nat → Prop))) (fun ⟨s16, A22⟩ => []) (fun ⟨s16, A22⟩ => fun w' => o15 = .fin s16 ∧ Hp w.heap.size A22 w' ([]) ∧ Tr w.heap.size A w6 A22 w') ?_ ?_
  · refine C_block ?_
    refine C_range ho15 (fun k18 s24 a w' => ∃ i : (Nat → Prop), Has ⟨60, [], none⟩ a ([(1, v_cals), (2, .int .i64 s24), (16, v12), (17, .int .i64 (c.pieces.length : Int)), (18, .int .i64 (k18 : Int))]) ∧ Hp w.heap.size i w' ([]) ∧ Tr w.heap.size A w6 i w') (fun a ha => ⟨A, ha.sub ⟨rfl, rfl, rfl, rfl, rfl, trivial⟩, ⟨hH, Tr.refl hA⟩⟩) ?_
    rintro K k18 s24 a w25 ⟨A26, ha96, hH27, hr17⟩ hle31 K34 h33
    refine C_of ?_ ha96
    replace h_cals := Sl.tr h_cals hr17
    replace h14 := Sl.tr h14 hr17
    replace hK := Tr.trans hK hr17
    replace hB := Nat.le_trans hB hr17.ex.size
    replace hA := hr17.new
    replace hH : Hp w.heap.size A26 w25 ([]) := hH27
    refine C_seq (C_region (V_y (Y_lss rfl rfl) rfl rfl rfl (V_to (fun _ _ => rfl) ?_)))
    refine C_seq ?_
    refine C_cond rfl (fun hc36 => ?_) (fun hc36 => ?_)
    · have hlt32 := lt_of_dec hc36
      obtain ⟨x28, h29, h30⟩ := K34 hlt32
      refine C_skip_to (fun _ _ => rfl) ?_
      refine C_seq ?_
      refine C_block ?_
      refine C_seq ?_
      refine C_region ?_
      obtain ⟨x37, hx37, h29⟩ := Option.bind_eq_some_iff.1 h29
      refine V_indexAddr h14 hx37 Try.underlying33 Try.sizeOf64 rfl rfl rfl ?_
      intro b38 o39 h40
      obtain ⟨h41, _⟩ := El_level_Piece h40
      refine V_y (Y_loadA h41 Try.isAgg64 Try.sizeOf64 rfl) rfl rfl rfl ?_
      refine V_alloc Try.zeroValue64 rfl ?_
      intro b42 w43 h44
      refine V_storeNew h44 Try.sizeOf64 rfl rfl rfl rfl (by exact (List.forall_mem_cons.2 ⟨rfl, (List.forall_mem_cons.2 ⟨rfl, (List.forall_mem_cons.2 ⟨rfl, (fun _ h => nomatch h)⟩)⟩)⟩)) ?_
      intro w45 h46
      have hk48 := h46.kp
      have h47 : El (α := level_Piece) A26 w45 b42 0 x37 := h46.el hA ⟨[.int .i64 x37.from_], _, rfl, rfl, ⟨[.int .i64 x37.to_], _, rfl, rfl, rfl⟩⟩
      have ht49 := Kp.tr hk48 hA hB
      replace hH := Hp.kp hH hk48
      replace h_cals := Sl.tr h_cals ht49
      replace h14 := Sl.tr h14 ht49
      replace h40 := El.tr h40 ht49
      replace hK := Tr.trans hK ht49
      replace hr17 := Tr.trans hr17 ht49
      replace hB := Nat.le_trans hB ht49.ex.size
      replace hA := ht49.new
      refine V_to (fun _ _ => rfl) ?_
      refine C_seq ?_
      refine C_region ?_
      have h50 := El_level_Piece_1 h47
      refine V_y (Y_fieldAddr Try.underlying64 rfl Try.sizeOf3 (by decide) rfl) rfl rfl rfl ?_
      refine V_y (Y_load (El.int h50) Try.isAgg3 rfl) rfl rfl rfl ?_
      refine V_y (Y_assign rfl) rfl rfl rfl ?_
      refine V_to (fun _ _ => rfl) ?_
      refine C_seq ?_
      refine C_seq ?_
      refine C_region ?_
      refine V_y (Y_move rfl) rfl rfl rfl ?_
      refine V_y (Y_eql rfl rfl) rfl rfl rfl ?_
      refine V_to (fun _ _ => rfl) ?_
      obtain ⟨s52, ho51, h29⟩ := Option.bind_eq_some_iff.1 h29
      refine C_cutG (ι := Unit) (fun (_ : Unit) => [(1, v_cals), (2, .int .i64 s24), (9, .pointer (some ⟨b42, 0, none⟩)), (10, .int .i64 s52), (16, v12), (17, .int .i64 (c.pieces.length : Int)), (18, .int .i64 (k18 : Int))]) (fun (_ : Unit) => fun w' => w45 = w') ?_ ?_
      · refine C_cond rfl (fun hc57 => ?_) (fun hc57 => ?_)
        · rw [if_pos hc57] at ho51
          refine C_region ?_
          refine V_y (Y_assign rfl) rfl rfl rfl ?_
          obtain rfl := Option.some.inj ho51
          refine V_end (fun a ha58 => ?_)
          exact ⟨(), ha58.sub ⟨rfl, rfl, rfl, rfl, rfl, rfl, rfl, trivial⟩, rfl⟩
        · rw [if_neg (nt hc57)] at ho51
          obtain rfl := Option.some.inj ho51
          refine C_skip (fun a ha59 => ?_)
          exact ⟨(), ha59.sub ⟨rfl, rfl, rfl, rfl, rfl, rfl, rfl, trivial⟩, rfl⟩
      rintro _ _ rfl a ha56
      refine C_at (n := ⟨60, [], none⟩) (fun _ _ => rfl) ?_ ha56
      refine C_seq ?_
      refine C_region_q Try_mixed (by kernel_rfl) ?_
      refine VQ_y (fun w' hw' => Y_move rfl) rfl rfl rfl ?_
      have h60 := El_level_Piece_2 h47
      refine VQ_y (fun w' hw' => Y_fieldAddr Try.underlying64 rfl Try.sizeOf3 (by decide) rfl) rfl rfl rfl ?_
      refine VQ_y (fun w' hw' => Y_load (El.int (El.kp h60 hw')) Try.isAgg3 rfl) rfl rfl rfl ?_
      obtain ⟨x61, hx61, h29⟩ := Option.bind_eq_some_iff.1 h29
      refine VQ_indexAddr h_cals hx61 Try.underlying36 Try.sizeOf28 rfl rfl rfl ?_
      intro b62 o63 h64
      obtain ⟨v65, v67, v69, h71, h66, h68, h70⟩ := El_cal_Calendar h64
      refine VQ_y (fun w' hw' => Y_loadA (At.kp h71 hw' h64.2.1) Try.isAgg28 Try.sizeOf28 rfl) rfl rfl rfl ?_
      have h72 := El_level_Piece_0 h47
      refine VQ_y (fun w' hw' => Y_fieldAddr Try.underlying64 rfl Try.sizeOf3 (by decide) rfl) rfl rfl rfl ?_
      refine VQ_y (fun w' hw' => Y_load (El.int (El.kp h72 hw')) Try.isAgg3 rfl) rfl rfl rfl ?_
      refine VQ_y (fun w' hw' => Y_move rfl) rfl rfl rfl ?_
      obtain ⟨x73, hx73, h29⟩ := Option.bind_eq_some_iff.1 h29
      refine VQ_call (.tuple #[.int .i64 x73.1, .int .i64 x73.2]) Try.call67 rfl rfl rfl rfl (fun w' hw' => (cal_Worked_c w' (fun b hb => hA b (Nat.le_trans hw'.size hb)) x61 v65 (Sl.kp h66 hw') v67 (Sl.kp h68 hw') v69 (Sl.kp h70 hw') x37.from_ s52 hx73).mono (fun _ _ h => ⟨h.1, Kp.trans hw' h.2⟩)) ?_
      refine VQ_y (fun w' hw' => Y_move rfl) rfl rfl rfl ?_
      refine VQ_y (fun w' hw' => Y_extract rfl rfl) rfl rfl rfl ?_
      refine VQ_y (fun w' hw' => Y_extract rfl rfl) rfl rfl rfl ?_
      refine VQ_y (fun w' hw' => Y_assign rfl) rfl rfl rfl ?_
      refine VQ_y (fun w' hw' => Y_assign rfl) rfl rfl rfl ?_
      refine VQ_to (fun _ _ => rfl) (fun w74 hk75 => ?_)
      have ht76 := Kp.tr hk75 hA hB
      replace hH := Hp.kp hH hk75
      replace h_cals := Sl.tr h_cals ht76
      replace h14 := Sl.tr h14 ht76
      replace h47 := El.tr h47 ht76
      replace hK := Tr.trans hK ht76
      replace hr17 := Tr.trans hr17 ht76
      replace hB := Nat.le_trans hB ht76.ex.size
      replace hA := ht76.new
      refine C_seq ?_
      refine C_seq ?_
      refine C_region ?_
      refine V_y (Y_move rfl) rfl rfl rfl ?_
      refine V_y (Y_move rfl) rfl rfl rfl ?_
      refine V_y (Y_lss rfl rfl) rfl rfl rfl ?_
      refine V_to (fun _ _ => rfl) ?_
      refine C_cond rfl (fun hc77 => ?_) (fun hc77 => ?_)
      · rw [if_pos hc77] at h29
        refine C_seq ?_
        refine C_region_q Try_mixed (by kernel_rfl) ?_
        refine VQ_y (fun w' hw' => Y_move rfl) rfl rfl rfl ?_
        have h78 := El_level_Piece_2 h47
        refine VQ_y (fun w' hw' => Y_fieldAddr Try.underlying64 rfl Try.sizeOf3 (by decide) rfl) rfl rfl rfl ?_
        refine VQ_y (fun w' hw' => Y_load (El.int (El.kp h78 hw')) Try.isAgg3 rfl) rfl rfl rfl ?_
        refine VQ_indexAddr h_cals hx61 Try.underlying36 Try.sizeOf28 rfl rfl rfl ?_
        intro b79 o80 h81
        obtain ⟨v82, v84, v86, h88, h83, h85, h87⟩ := El_cal_Calendar h81
        refine VQ_y (fun w' hw' => Y_loadA (At.kp h88 hw' h81.2.1) Try.isAgg28 Try.sizeOf28 rfl) rfl rfl rfl ?_
        have h89 := El_level_Piece_0 h47
        refine VQ_y (fun w' hw' => Y_fieldAddr Try.underlying64 rfl Try.sizeOf3 (by decide) rfl) rfl rfl rfl ?_
        refine VQ_y (fun w' hw' => Y_load (El.int (El.kp h89 hw')) Try.isAgg3 rfl) rfl rfl rfl ?_
        refine VQ_y (fun w' hw' => Y_move rfl) rfl rfl rfl ?_
        obtain ⟨x90, hx90, h29⟩ := Option.bind_eq_some_iff.1 h29
        refine VQ_call (.tuple #[.int .i64 x90.1, .int .i64 x90.2]) Try.call78 rfl rfl rfl rfl (fun w' hw' => (cal_Add_c w' (fun b hb => hA b (Nat.le_trans hw'.size hb)) x61 v82 (Sl.kp h83 hw') v84 (Sl.kp h85 hw') v86 (Sl.kp h87 hw') x37.from_ s24 hx90).mono (fun _ _ h => ⟨h.1, Kp.trans hw' h.2⟩)) ?_
        refine VQ_y (fun w' hw' => Y_move rfl) rfl rfl rfl ?_
        refine VQ_y (fun w' hw' => Y_extract rfl rfl) rfl rfl rfl ?_
        refine VQ_y (fun w' hw' => Y_extract rfl rfl) rfl rfl rfl ?_
        refine VQ_y (fun w' hw' => Y_assign rfl) rfl rfl rfl ?_
        refine VQ_y (fun w' hw' => Y_assign rfl) rfl rfl rfl ?_
        refine VQ_to (fun _ _ => rfl) (fun w91 hk92 => ?_)
        have ht93 := Kp.tr hk92 hA hB
        replace hH := Hp.kp hH hk92
        replace hK := Tr.trans hK ht93
        replace hr17 := Tr.trans hr17 ht93
        replace hB := Nat.le_trans hB ht93.ex.size
        replace hA := ht93.new
        refine C_seq ?_
        refine C_region ?_
        refine V_y (Y_move rfl) rfl rfl rfl ?_
        refine V_y (Y_move rfl) rfl rfl rfl ?_
        refine V_y (Y_eql rfl rfl) rfl rfl rfl ?_
        refine V_y (Y_assign rfl) rfl rfl rfl ?_
        refine V_y (Y_assign rfl) rfl rfl rfl ?_
        refine V_to (fun _ _ => rfl) ?_
        obtain rfl := Option.some.inj h29
        obtain rfl := (h30 : Lp.rt _ = _)
        rw [Lp.andThen_rt] at hm
        obtain rfl := Option.some.inj hm
        refine C_ret ?_
        try simp only [↓inBlock_ret, ↓then_ret]
        exact retQ rfl (Res.two Try.results49 rfl rfl) ⟨rfl, hK.kp⟩
      · rw [if_neg (nt hc77)] at h29
        refine C_skip_to (fun _ _ => rfl) ?_
        refine C_region ?_
        refine V_y (Y_move rfl) rfl rfl rfl ?_
        refine V_y (Y_move rfl) rfl rfl rfl ?_
        refine V_y (Y_subI rfl rfl) rfl rfl rfl ?_
        refine V_y (Y_assign rfl) rfl rfl rfl ?_
        refine V_to (fun _ _ => rfl) ?_
        refine C_region ?_
        refine V_y (Y_addI rfl rfl) rfl rfl rfl ?_
        refine V_y (Y_move rfl) rfl rfl rfl ?_
        obtain rfl := Option.some.inj h29
        refine V_end (fun a ha94 => ?_)
        exact ⟨w64 (s24 - x73.1), hlt32, h30, ⟨A26, ha94.sub ⟨rfl, rfl, rfl, rfl, (congrArg (fun z => some (Value.int .i64 z)) (w64_succ hlt32 hn35)), trivial⟩, ⟨hH, hr17⟩⟩⟩
    · refine C_exit (fun a ha95 => ?_)
      exact ⟨(s24, A26), ha95.sub trivial, ⟨(h33 (eq_of_dec hle31 hc36)).symm, hH, hr17⟩⟩
  rintro ⟨s16, A22⟩ w19 ⟨rfl, hH23, hk20⟩ a ha21
  rw [Lp.andThen_fin] at hm
  replace hK := Tr.trans hK hk20
  replace hB := Nat.le_trans hB hk20.ex.size
  replace hA := hk20.new
  replace hH : Hp w.heap.size A22 w19 ([]) := hH23
  refine C_at (n := ⟨60, [], none⟩) (fun _ _ => rfl) ?_ ha21
  refine C_seq ?_
  refine C_region ?_
  refine V_y (Y_assign rfl) rfl rfl rfl ?_
  refine V_y (Y_assign rfl) rfl rfl rfl ?_
  refine V_to (fun _ _ => rfl) ?_
  obtain rfl := Option.some.inj hm
  refine C_ret ?_
  try simp only [↓inBlock_ret, ↓then_ret]
  exact retQ rfl (Res.two Try.results49 rfl rfl) ⟨rfl, hK.kp⟩

set_option maxRecDepth 4000 in
set_option maxHeartbeats 4000000 in
theorem level_due_c (w : World) {A : Nat → Prop} (hA : ∀ b, w.heap.size ≤ b → A b) (c : level_Clock) (v_c : Value) (h_c : Sl A w v_c c.pieces) (cals : (List cal_Calendar)) (v_cals : Value) (h_cals : Sl A w v_cals cals) {r : Int} (hm : level_due c cals = some r) : Ret Try.prog 31 #[.agg #[.int .i64 c.kind, .int .i64 c.level, .int .i64 c.minutes, .int .i64 c.start, .int .i64 c.stop, .int .i64 c.end_, v_c], v_cals] w fun v w' => v = .int .i64 r ∧ Kp w w' := by
  unfold level_due at hm
  refine enter Try.func31 rfl Try.ntmps31 rfl ?_
  have hA0 := hA
  have hB := Nat.le_refl w.heap.size
  have hK : Tr w.heap.size A w A w := Tr.refl hA
  have hH : Hp w.heap.size A w [] := Hp.nil
  refine C_seq ?_
  refine C_region ?_
  refine V_box rfl rfl ?_
  intro b5 w6 h7
  have hk9 := h7.kp
  have h8 : El (α := level_Clock) A w6 b5 0 c := h7.el hA ⟨[.int .i64 c.kind], _, rfl, rfl, ⟨[.int .i64 c.level], _, rfl, rfl, ⟨[.int .i64 c.minutes], _, rfl, rfl, ⟨[.int .i64 c.start], _, rfl, rfl, ⟨[.int .i64 c.stop], _, rfl, rfl, ⟨[.int .i64 c.end_], _, rfl, rfl, ⟨_, rfl, h_c⟩⟩⟩⟩⟩⟩⟩
  have ht10 := Kp.tr hk9 hA hB
  replace hH := Hp.kp hH hk9
  replace h_c := Sl.tr h_c ht10
  replace h_cals := Sl.tr h_cals ht10
  replace hK := Tr.trans hK ht10
  replace hB := Nat.le_trans hB ht10.ex.size
  replace hA := ht10.new
  refine V_y (Y_assign rfl) rfl rfl rfl ?_
  refine V_to (fun _ _ => rfl) ?_
  refine C_seq ?_
  refine C_seq ?_
  refine C_region ?_
  obtain ⟨v11, h13, h12⟩ := El_level_Clock h8
  refine V_y (Y_loadA h13 Try.isAgg35 Try.sizeOf35 rfl) rfl rfl rfl ?_
  refine V_y (Y_move rfl) rfl rfl rfl ?_
  have h14 := El_level_Clock_2 h8
  refine V_y (Y_fieldAddr Try.underlying35 rfl Try.sizeOf3 (by decide) rfl) rfl rfl rfl ?_
  refine V_y (Y_load (El.int h14) Try.isAgg3 rfl) rfl rfl rfl ?_
  obtain ⟨x15, hx15, hm⟩ := Option.bind_eq_some_iff.1 hm
  refine V_call Try.call49 rfl rfl rfl rfl (level_counted_c w6 hA c v11 h12 cals v_cals h_cals c.minutes hx15) ?_
  rintro _ w17 ⟨rfl, hk18⟩
  have ht19 := Kp.tr hk18 hA hB
  replace hH := Hp.kp hH hk18
  replace h_cals := Sl.tr h_cals ht19
  replace h8 := El.tr h8 ht19
  replace h12 := Sl.tr h12 ht19
  replace h14 := El.tr h14 ht19
  replace hK := Tr.trans hK ht19
  replace hB := Nat.le_trans hB ht19.ex.size
  replace hA := ht19.new
  refine V_y (Y_move rfl) rfl rfl rfl ?_
  refine V_y (Y_extract rfl rfl) rfl rfl rfl ?_
  refine V_y (Y_extract rfl rfl) rfl rfl rfl ?_
  refine V_y (Y_assign rfl) rfl rfl rfl ?_
  refine V_y (Y_assign rfl) rfl rfl rfl ?_
  refine V_to (fun _ _ => rfl) ?_
  refine C_seq ?_
  refine C_region ?_
  refine V_y (Y_move rfl) rfl rfl rfl ?_
  refine V_to (fun _ _ => rfl) ?_
  refine C_cond rfl (fun hc20 => ?_) (fun hc20 => ?_)
  · rw [if_pos hc20] at hm
    refine C_seq ?_
    refine C_region ?_
    refine V_y (Y_move rfl) rfl rfl rfl ?_
    refine V_y (Y_assign rfl) rfl rfl rfl ?_
    refine V_to (fun _ _ => rfl) ?_
    obtain rfl := Option.some.inj hm
    refine C_ret ?_
    try simp only [↓inBlock_ret, ↓then_ret]
    exact retQ rfl (Res.one Try.results31 rfl) ⟨rfl, hK.kp⟩
  · rw [if_neg (nt hc20)] at hm
    refine C_skip_to (fun _ _ => rfl) ?_
    refine C_seq ?_
    refine C_region ?_
    refine V_y (Y_assign rfl) rfl rfl rfl ?_
    refine V_to (fun _ _ => rfl) ?_
    obtain rfl := Option.some.inj hm
    refine C_ret ?_
    try simp only [↓inBlock_ret, ↓then_ret]
    exact retQ rfl (Res.one Try.results31 rfl) ⟨rfl, hK.kp⟩

set_option maxRecDepth 4000 in
set_option maxHeartbeats 4000000 in
theorem level_DueFrom_c (w : World) {A : Nat → Prop} (hA : ∀ b, w.heap.size ≤ b → A b) (c : cal_Calendar) (v_c0 : Value) (h_c0 : Sl A w v_c0 c.zone.changes) (v_c1 : Value) (h_c1 : Sl A w v_c1 c.week) (v_c2 : Value) (h_c2 : Sl A w v_c2 c.specials) (start : Int) (minutes : Int) {r : (Int × Int)} (hm : level_DueFrom c start minutes = some r) : Ret Try.prog 10 #[.agg #[.int .i64 c.zone.offset, v_c0, v_c1, v_c2], .int .i64 start, .int .i64 minutes] w fun v w' => v = .tuple #[.int .i64 r.1, .int .i64 r.2] ∧ Kp w w' := by
  unfold level_DueFrom at hm
  refine enter Try.func10 rfl Try.ntmps10 rfl ?_
  have hA0 := hA
  have hB := Nat.le_refl w.heap.size
  have hK : Tr w.heap.size A w A w := Tr.refl hA
  have hH : Hp w.heap.size A w [] := Hp.nil
  refine C_seq ?_
  refine C_region ?_
  refine V_box rfl rfl ?_
  intro b7 w9 h10
  have hk12 := h10.kp
  have h11 : El (α := cal_Calendar) A w9 b7 0 c := h10.el hA ⟨[.int .i64 c.zone.offset, v_c0], _, rfl, ⟨[.int .i64 c.zone.offset], _, rfl, rfl, ⟨_, rfl, h_c0⟩⟩, ⟨[v_c1], _, rfl, ⟨_, rfl, h_c1⟩, ⟨_, rfl, h_c2⟩⟩⟩
  have ht13 := Kp.tr hk12 hA hB
  replace hH := Hp.kp hH hk12
  replace h_c0 := Sl.tr h_c0 ht13
  replace h_c1 := Sl.tr h_c1 ht13
  replace h_c2 := Sl.tr h_c2 ht13
  replace hK := Tr.trans hK ht13
  replace hB := Nat.le_trans hB ht13.ex.size
  replace hA := ht13.new
  refine V_y (Y_assign rfl) rfl rfl rfl ?_
  refine V_y (Y_assign rfl) rfl rfl rfl ?_
  refine V_to (fun _ _ => rfl) ?_
  refine C_seq ?_
  refine C_seq ?_
  refine C_region ?_
  obtain ⟨v14, v16, v18, h20, h15, h17, h19⟩ := El_cal_Calendar h11
  refine V_y (Y_loadA h20 Try.isAgg28 Try.sizeOf28 rfl) rfl rfl rfl ?_
  obtain ⟨x21, hx21, hm⟩ := Option.bind_eq_some_iff.1 hm
  refine V_call Try.call29 rfl rfl rfl rfl (cal_CheckCalendar_c w9 hA c v14 h15 v16 h17 v18 h19 hx21) ?_
  rintro _ w22 ⟨rfl, hk23⟩
  have ht24 := Kp.tr hk23 hA hB
  replace hH := Hp.kp hH hk23
  replace h11 := El.tr h11 ht24
  replace h15 := Sl.tr h15 ht24
  replace h17 := Sl.tr h17 ht24
  replace h19 := Sl.tr h19 ht24
  replace hK := Tr.trans hK ht24
  replace hB := Nat.le_trans hB ht24.ex.size
  replace hA := ht24.new
  refine V_y (Y_assign rfl) rfl rfl rfl ?_
  refine V_to (fun _ _ => rfl) ?_
  refine C_seq ?_
  refine C_region ?_
  refine V_y (Y_move rfl) rfl rfl rfl ?_
  refine V_y (Y_neq rfl rfl) rfl rfl rfl ?_
  refine V_to (fun _ _ => rfl) ?_
  refine C_cond rfl (fun hc25 => ?_) (fun hc25 => ?_)
  · rw [if_pos hc25] at hm
    refine C_seq ?_
    refine C_region ?_
    refine V_y (Y_move rfl) rfl rfl rfl ?_
    refine V_y (Y_assign rfl) rfl rfl rfl ?_
    refine V_y (Y_assign rfl) rfl rfl rfl ?_
    refine V_to (fun _ _ => rfl) ?_
    obtain rfl := Option.some.inj hm
    refine C_ret ?_
    try simp only [↓inBlock_ret, ↓then_ret]
    exact retQ rfl (Res.two Try.results10 rfl rfl) ⟨rfl, hK.kp⟩
  · rw [if_neg (nt hc25)] at hm
    refine C_skip_to (fun _ _ => rfl) ?_
    refine C_seq ?_
    refine C_seq ?_
    refine C_region ?_
    refine V_y (Y_move rfl) rfl rfl rfl ?_
    refine V_call Try.call30 rfl rfl rfl rfl (level_within_c w22 start 0 3000000) ?_
    rintro _ _ ⟨rfl, rfl⟩
    refine V_y (Y_not rfl) rfl rfl rfl ?_
    refine V_y (Y_move rfl) rfl rfl rfl ?_
    refine V_cut 4 (fun _ : Unit => [(1, .int .i64 start), (2, .int .i64 minutes), (3, .pointer (some ⟨b7, 0, none⟩)), (21, .bool ((!(level_within start 0 3000000)) || (!(level_within minutes 0 100000))))]) (fun _ w' => w22 = w') ?_ ?_
    · simp only [List.take, List.drop]
      rcases Bool.eq_false_or_eq_true (!(level_within start 0 3000000)) with hc26 | hc26
      · refine V_gn rfl rfl rfl hc26 rfl rfl rfl ?_
        refine V_gn rfl rfl rfl hc26 rfl rfl rfl ?_
        refine V_gn rfl rfl rfl hc26 rfl rfl rfl ?_
        refine V_y (Y_pick_te rfl hc26 rfl) rfl rfl rfl ?_
        exact V_end fun a ha => ⟨(), ha.sub ⟨rfl, rfl, rfl, (by rw [hc26]; rfl), trivial⟩, rfl⟩
      · refine V_ge rfl rfl rfl hc26 ?_
        refine V_y (Y_move rfl) rfl rfl rfl ?_
        refine V_ge rfl rfl rfl hc26 ?_
        refine V_call Try.call30 rfl rfl rfl rfl (level_within_c w22 minutes 0 100000) ?_
        rintro _ _ ⟨rfl, rfl⟩
        refine V_ge rfl rfl rfl hc26 ?_
        refine V_y (Y_not rfl) rfl rfl rfl ?_
        refine V_y (Y_pick_fe rfl hc26 rfl) rfl rfl rfl ?_
        exact V_end fun a ha => ⟨(), ha.sub ⟨rfl, rfl, rfl, (by rw [hc26]; rfl), trivial⟩, rfl⟩
    simp only [List.take, List.drop]
    rintro _ _ rfl
    refine V_to (fun _ _ => rfl) ?_
    refine C_cond rfl (fun hc28 => ?_) (fun hc28 => ?_)
    · rw [if_pos hc28] at hm
      refine C_seq ?_
      refine C_region ?_
      refine V_y (Y_assign rfl) rfl rfl rfl ?_
      refine V_y (Y_assign rfl) rfl rfl rfl ?_
      refine V_to (fun _ _ => rfl) ?_
      obtain rfl := Option.some.inj hm
      refine C_ret ?_
      try simp only [↓inBlock_ret, ↓then_ret]
      exact retQ rfl (Res.two Try.results10 rfl rfl) ⟨rfl, hK.kp⟩
    · rw [if_neg (nt hc28)] at hm
      refine C_skip_to (fun _ _ => rfl) ?_
      refine C_seq ?_
      refine C_region ?_
      refine V_y (Y_move rfl) rfl rfl rfl ?_
      refine V_y (Y_move rfl) rfl rfl rfl ?_
      refine V_y (Y_build Try.underlying64 Try.zeroValue64 (Try_places64 _ Try.underlying64) rfl (by with_unfolding_all rfl)) rfl rfl rfl ?_
      refine V_buildSlice (l := ([(⟨start, (-1), 0⟩ : level_Piece)] : List level_Piece)) (len := 1) Try.underlying33 Try.sizeOf64 Try.zeroValue64 rfl (by with_unfolding_all rfl) (by decide) (by decide) hA ⟨[.int .i64 start, .int .i64 (-1), .int .i64 0], _, rfl, ⟨[.int .i64 start], _, rfl, rfl, ⟨[.int .i64 (-1)], _, rfl, rfl, rfl⟩⟩, rfl⟩ rfl rfl ?_
      intro v29 w30 hk32 h31
      have ht33 := Kp.tr hk32 hA hB
      replace hH := Hp.kp hH hk32
      replace h11 := El.tr h11 ht33
      replace hK := Tr.trans hK ht33
      replace hB := Nat.le_trans hB ht33.ex.size
      replace hA := ht33.new
      refine V_y (Y_build (cells := #[.int .i64 0, .int .i64 0, .int .i64 minutes, .int .i64 0, .int .i64 0, .int .i64 0, v29]) Try.underlying35 Try.zeroValue35 (Try_places35 _ Try.underlying35) rfl (by obtain ⟨a34, c35, e36, _⟩ := Sl.form h31; subst e36; with_unfolding_all rfl)) rfl rfl rfl ?_
      obtain ⟨v37, v39, v41, h43, h38, h40, h42⟩ := El_cal_Calendar h11
      refine V_y (Y_loadA h43 Try.isAgg28 Try.sizeOf28 rfl) rfl rfl rfl ?_
      refine V_buildSlice (l := ([c] : List cal_Calendar)) (len := 1) Try.underlying36 Try.sizeOf28 Try.zeroValue28 rfl (by with_unfolding_all rfl) (by decide) (by decide) hA ⟨[.int .i64 c.zone.offset, v37, v39, v41], _, rfl, ⟨[.int .i64 c.zone.offset, v37], _, rfl, ⟨[.int .i64 c.zone.offset], _, rfl, rfl, ⟨_, rfl, h38⟩⟩, ⟨[v39], _, rfl, ⟨_, rfl, h40⟩, ⟨_, rfl, h42⟩⟩⟩, rfl⟩ rfl rfl ?_
      intro v44 w45 hk47 h46
      have ht48 := Kp.tr hk47 hA hB
      replace hH := Hp.kp hH hk47
      replace h11 := El.tr h11 ht48
      replace h31 := Sl.tr h31 ht48
      replace h38 := Sl.tr h38 ht48
      replace h40 := Sl.tr h40 ht48
      replace h42 := Sl.tr h42 ht48
      replace hK := Tr.trans hK ht48
      replace hB := Nat.le_trans hB ht48.ex.size
      replace hA := ht48.new
      obtain ⟨x49, hx49, hm⟩ := Option.bind_eq_some_iff.1 hm
      refine V_call Try.call31 rfl rfl rfl rfl (level_due_c w45 hA (⟨0, 0, minutes, 0, 0, 0, ([(⟨start, (-1), 0⟩ : level_Piece)] : List level_Piece)⟩ : level_Clock) v29 h31 ([c] : List cal_Calendar) v44 h46 hx49) ?_
      rintro _ w50 ⟨rfl, hk51⟩
      have ht52 := Kp.tr hk51 hA hB
      replace hH := Hp.kp hH hk51
      replace h11 := El.tr h11 ht52
      replace h31 := Sl.tr h31 ht52
      replace h38 := Sl.tr h38 ht52
      replace h40 := Sl.tr h40 ht52
      replace h42 := Sl.tr h42 ht52
      replace h46 := Sl.tr h46 ht52
      replace hK := Tr.trans hK ht52
      replace hB := Nat.le_trans hB ht52.ex.size
      replace hA := ht52.new
      refine V_y (Y_assign rfl) rfl rfl rfl ?_
      refine V_y (Y_assign rfl) rfl rfl rfl ?_
      refine V_to (fun _ _ => rfl) ?_
      obtain rfl := Option.some.inj hm
      refine C_ret ?_
      try simp only [↓inBlock_ret, ↓then_ret]
      exact retQ rfl (Res.two Try.results10 rfl rfl) ⟨rfl, hK.kp⟩

set_option maxRecDepth 4000 in
set_option maxHeartbeats 4000000 in
theorem portref2_ZoneFault_1_c (w : World) (n : Int) : Ret Try.prog 84 #[.int .i64 n] w fun v w' => v = .bool (portref2_ZoneFault_1 n) ∧ w = w' := by
  generalize hm : portref2_ZoneFault_1 n = r
  unfold portref2_ZoneFault_1 at hm
  refine enter Try.func84 rfl Try.ntmps84 rfl ?_
  refine C_seq ?_
  refine C_region ?_
  refine V_y (Y_assign rfl) rfl rfl rfl ?_
  refine V_to (fun _ _ => rfl) ?_
  refine C_seq ?_
  refine C_region ?_
  refine V_y (Y_move rfl) rfl rfl rfl ?_
  refine V_y (Y_lss rfl rfl) rfl rfl rfl ?_
  refine V_y (Y_move rfl) rfl rfl rfl ?_
  refine V_cut 3 (fun _ : Unit => [(8, .bool ((decide (n < (-1440))) || (decide ((1440 : Int) < n))))]) (fun _ w' => w = w') ?_ ?_
  · simp only [List.take, List.drop]
    rcases Bool.eq_false_or_eq_true (decide (n < (-1440))) with hc1 | hc1
    · refine V_gn rfl rfl rfl hc1 rfl rfl rfl ?_
      refine V_gn rfl rfl rfl hc1 rfl rfl rfl ?_
      refine V_y (Y_pick_te rfl hc1 rfl) rfl rfl rfl ?_
      exact V_end fun a ha => ⟨(), ha.sub ⟨(by rw [hc1]; rfl), trivial⟩, rfl⟩
    · refine V_ge rfl rfl rfl hc1 ?_
      refine V_y (Y_move rfl) rfl rfl rfl ?_
      refine V_ge rfl rfl rfl hc1 ?_
      refine V_y (Y_gtr rfl rfl) rfl rfl rfl ?_
      refine V_y (Y_pick_fe rfl hc1 rfl) rfl rfl rfl ?_
      exact V_end fun a ha => ⟨(), ha.sub ⟨(by rw [hc1]; rfl), trivial⟩, rfl⟩
  simp only [List.take, List.drop]
  rintro _ _ rfl
  refine V_y (Y_assign rfl) rfl rfl rfl ?_
  refine V_to (fun _ _ => rfl) ?_
  obtain rfl := hm
  refine C_ret ?_
  try simp only [↓inBlock_ret, ↓then_ret]
  exact retQ rfl (Res.one Try.results84 rfl) ⟨rfl, rfl⟩

set_option maxRecDepth 4000 in
set_option maxHeartbeats 4000000 in
theorem portref2_ZoneFault_c (w : World) {A : Nat → Prop} (hA : ∀ b, w.heap.size ≤ b → A b) (z : cal_Zone) (v_z : Value) (h_z : Sl A w v_z z.changes) {r : Int} (hm : portref2_ZoneFault z = some r) : Ret Try.prog 61 #[.agg #[.int .i64 z.offset, v_z]] w fun v w' => v = .int .i64 r ∧ Kp w w' := by
  unfold portref2_ZoneFault at hm
  refine enter Try.func61 rfl Try.ntmps61 rfl ?_
  have hA0 := hA
  have hB := Nat.le_refl w.heap.size
  have hK : Tr w.heap.size A w A w := Tr.refl hA
  have hH : Hp w.heap.size A w [] := Hp.nil
  refine C_seq ?_
  refine C_region ?_
  refine V_box rfl rfl ?_
  intro b3 w4 h5
  have hk7 := h5.kp
  have h6 : El (α := cal_Zone) A w4 b3 0 z := h5.el hA ⟨[.int .i64 z.offset], _, rfl, rfl, ⟨_, rfl, h_z⟩⟩
  have ht8 := Kp.tr hk7 hA hB
  replace hH := Hp.kp hH hk7
  replace h_z := Sl.tr h_z ht8
  replace hK := Tr.trans hK ht8
  replace hB := Nat.le_trans hB ht8.ex.size
  replace hA := ht8.new
  refine V_y (Y_assign rfl) rfl rfl rfl ?_
  refine V_to (fun _ _ => rfl) ?_
  refine C_seq ?_
  refine C_region ?_
  refine V_y (Y_assign rfl) rfl rfl rfl ?_
  refine V_to (fun _ _ => rfl) ?_
  refine C_seq ?_
  refine C_seq ?_
  refine C_region ?_
  refine V_y (Y_move rfl) rfl rfl rfl ?_
  have h9 := El_cal_Zone_0 h6
  refine V_y (Y_fieldAddr Try.underlying24 rfl Try.sizeOf3 (by decide) rfl) rfl rfl rfl ?_
  refine V_y (Y_load (El.int h9) Try.isAgg3 rfl) rfl rfl rfl ?_
  refine V_call Try.call84 rfl rfl rfl rfl (portref2_ZoneFault_1_c w4 z.offset) ?_
  rintro _ _ ⟨rfl, rfl⟩
  refine V_to (fun _ _ => rfl) ?_
  refine C_cond rfl (fun hc10 => ?_) (fun hc10 => ?_)
  · rw [if_pos hc10] at hm
    refine C_seq ?_
    refine C_region ?_
    refine V_y (Y_assign rfl) rfl rfl rfl ?_
    refine V_to (fun _ _ => rfl) ?_
    obtain rfl := Option.some.inj hm
    refine C_ret ?_
    try simp only [↓inBlock_ret, ↓then_ret]
    exact retQ rfl (Res.one Try.results61 rfl) ⟨rfl, hK.kp⟩
  · rw [if_neg (nt hc10)] at hm
    refine C_skip_to (fun _ _ => rfl) ?_
    refine C_seq ?_
    refine C_seq ?_
    refine C_region ?_
    have h11 := El_cal_Zone_1 h6
    refine V_y (Y_fieldAddr Try.underlying24 rfl Try.sizeOf22 (by decide) rfl) rfl rfl rfl ?_
    obtain ⟨v12, h13, h14⟩ := El.list h11
    refine V_y (Y_load h13 Try.isAgg22 rfl) rfl rfl rfl ?_
    refine V_y (Y_lenSl h14 rfl Try.underlying22 rfl) rfl rfl rfl ?_
    refine V_y (Y_gtr rfl rfl) rfl rfl rfl ?_
    refine V_to (fun _ _ => rfl) ?_
    refine C_cond rfl (fun hc15 => ?_) (fun hc15 => ?_)
    · rw [if_pos hc15] at hm
      refine C_seq ?_
      refine C_region ?_
      refine V_y (Y_assign rfl) rfl rfl rfl ?_
      refine V_to (fun _ _ => rfl) ?_
      obtain rfl := Option.some.inj hm
      refine C_ret ?_
      try simp only [↓inBlock_ret, ↓then_ret]
      exact retQ rfl (Res.one Try.results61 rfl) ⟨rfl, hK.kp⟩
    · rw [if_neg (nt hc15)] at hm
      refine C_skip_to (fun _ _ => rfl) ?_
      refine C_seq ?_
      refine C_region ?_
      have h16 := El_cal_Zone_0 h6
      refine V_y (Y_fieldAddr Try.underlying24 rfl Try.sizeOf3 (by decide) rfl) rfl rfl rfl ?_
      refine V_y (Y_load (El.int h16) Try.isAgg3 rfl) rfl rfl rfl ?_
      refine V_y (Y_assign rfl) rfl rfl rfl ?_
      refine V_to (fun _ _ => rfl) ?_
      refine C_seq ?_
      refine C_seq ?_
      refine C_region ?_
      have h17 := El_cal_Zone_1 h6
      refine V_y (Y_fieldAddr Try.underlying24 rfl Try.sizeOf22 (by decide) rfl) rfl rfl rfl ?_
      obtain ⟨v18, h19, h20⟩ := El.list h17
      refine V_y (Y_load h19 Try.isAgg22 rfl) rfl rfl rfl ?_
      refine V_y (Y_lenSl h20 rfl Try.underlying22 rfl) rfl rfl rfl ?_
      refine V_y (Y_move rfl) rfl rfl rfl ?_
      refine V_to (fun _ _ => rfl) ?_
      have hn41 := Sl.le h20
      obtain ⟨o21, ho21, hm⟩ := Option.bind_eq_some_iff.1 hm
      refine C_cutG (ι := (Int × (Nat → Prop))) (fun ⟨s22, A28⟩ => []) (fun ⟨s22, A28⟩ => fun w' => o21 = .fin s22 ∧ Hp w.heap.size A28 w' ([]) ∧ Tr w.heap.size A w4 A28 w') ?_ ?_
      · refine C_block ?_
        refine C_range ho21 (fun k24 s30 a w' => ∃ i : (Nat → Prop), Has ⟨63, [], none⟩ a ([(1, .pointer (some ⟨b3, 0, none⟩)), (3, .func (.func 84) #[] #[]), (4, .int .i64 s30), (18, v18), (19, .int .i64 (z.changes.length : Int)), (20, .int .i64 (k24 : Int))]) ∧ Hp w.heap.size i w' ([]) ∧ Tr w.heap.size A w4 i w') (fun a ha => ⟨A, ha.sub ⟨rfl, rfl, rfl, rfl, rfl, rfl, trivial⟩, ⟨hH, Tr.refl hA⟩⟩) ?_
        rintro K k24 s30 a w31 ⟨A32, ha97, hH33, hr23⟩ hle37 K40 h39
        refine C_of ?_ ha97
        replace h6 := El.tr h6 hr23
        replace h20 := Sl.tr h20 hr23
        replace hK := Tr.trans hK hr23
        replace hB := Nat.le_trans hB hr23.ex.size
        replace hA := hr23.new
        replace hH : Hp w.heap.size A32 w31 ([]) := hH33
        refine C_seq (C_region (V_y (Y_lss rfl rfl) rfl rfl rfl (V_to (fun _ _ => rfl) ?_)))
        refine C_seq ?_
        refine C_cond rfl (fun hc42 => ?_) (fun hc42 => ?_)
        · have hlt38 := lt_of_dec hc42
          obtain ⟨x34, h35, h36⟩ := K40 hlt38
          refine C_skip_to (fun _ _ => rfl) ?_
          refine C_seq ?_
          refine C_block ?_
          refine C_seq ?_
          refine C_region ?_
          refine V_y (Y_move rfl) rfl rfl rfl ?_
          obtain ⟨x43, hx43, h35⟩ := Option.bind_eq_some_iff.1 h35
          refine V_indexAddr h20 hx43 Try.underlying22 Try.sizeOf116 rfl rfl rfl ?_
          intro b44 o45 h46
          obtain ⟨h47, _⟩ := El_cal_Change h46
          refine V_y (Y_loadA h47 Try.isAgg116 Try.sizeOf116 rfl) rfl rfl rfl ?_
          refine V_alloc Try.zeroValue116 rfl ?_
          intro b48 w49 h50
          refine V_y (Y_assign rfl) rfl rfl rfl ?_
          refine V_storeNew h50 Try.sizeOf116 rfl rfl rfl rfl (by exact (List.forall_mem_cons.2 ⟨rfl, (List.forall_mem_cons.2 ⟨rfl, (fun _ h => nomatch h)⟩)⟩)) ?_
          intro w51 h52
          have hk54 := h52.kp
          have h53 : El (α := cal_Change) A32 w51 b48 0 x43 := h52.el hA ⟨[.int .i64 x43.at_], _, rfl, rfl, rfl⟩
          have ht55 := Kp.tr hk54 hA hB
          replace hH := Hp.kp hH hk54
          replace h6 := El.tr h6 ht55
          replace h20 := Sl.tr h20 ht55
          replace h46 := El.tr h46 ht55
          replace hK := Tr.trans hK ht55
          replace hr23 := Tr.trans hr23 ht55
          replace hB := Nat.le_trans hB ht55.ex.size
          replace hA := ht55.new
          refine V_to (fun _ _ => rfl) ?_
          refine C_seq ?_
          refine C_block ?_
          refine C_seq ?_
          obtain ⟨s57, ho56, h35⟩ := Option.bind_eq_some_iff.1 h35
          refine C_cutG (ι := (Nat → Prop)) (fun (A62 : (Nat → Prop)) => [(1, .pointer (some ⟨b3, 0, none⟩)), (3, .func (.func 84) #[] #[]), (4, .int .i64 s30), (5, .int .i64 (k24 : Int)), (6, .pointer (some ⟨b48, 0, none⟩)), (18, v18), (19, .int .i64 (z.changes.length : Int)), (20, .int .i64 (k24 : Int)), (25, .bool s57)]) (fun (A62 : (Nat → Prop)) => fun w' => Hp w.heap.size A62 w' ([]) ∧ Tr w.heap.size A32 w51 A62 w') ?_ ?_
          · have hr58 : Tr w.heap.size A32 w51 A32 w51 := Tr.refl hA
            refine C_region ?_
            have h64 := El_cal_Change_0 h53
            refine V_y (Y_fieldAddr Try.underlying116 rfl Try.sizeOf3 (by decide) rfl) rfl rfl rfl ?_
            refine V_y (Y_load (El.int h64) Try.isAgg3 rfl) rfl rfl rfl ?_
            refine V_y (Y_lss rfl rfl) rfl rfl rfl ?_
            refine V_y (Y_move rfl) rfl rfl rfl ?_
            rcases Bool.eq_false_or_eq_true (decide (x43.at_ < 1)) with hc65 | hc65
            · rw [if_pos hc65] at ho56
              refine V_gn rfl rfl rfl hc65 rfl rfl rfl ?_
              refine V_gn rfl rfl rfl hc65 rfl rfl rfl ?_
              refine V_gn rfl rfl rfl hc65 rfl rfl rfl ?_
              refine V_y (Y_pick_te rfl hc65 rfl) rfl rfl rfl ?_
              refine V_y (Y_move rfl) rfl rfl rfl ?_
              rcases Bool.eq_false_or_eq_true (true) with hc66 | hc66
              · rw [if_pos hc66] at ho56
                refine V_gn rfl rfl rfl hc66 rfl rfl rfl ?_
                refine V_gn rfl rfl rfl hc66 rfl rfl rfl ?_
                refine V_gn rfl rfl rfl hc66 rfl rfl rfl ?_
                refine V_gn rfl rfl rfl hc66 rfl rfl rfl ?_
                refine V_y (Y_pick_te rfl hc66 rfl) rfl rfl rfl ?_
                refine V_y (Y_assign rfl) rfl rfl rfl ?_
                obtain rfl := Option.some.inj ho56
                refine V_end (fun a ha67 => ?_)
                exact ⟨A32, ha67.sub ⟨rfl, rfl, rfl, rfl, rfl, rfl, rfl, rfl, rfl, trivial⟩, ⟨hH, hr58⟩⟩
              · rw [if_neg (nt hc66)] at ho56
                refine V_ge rfl rfl rfl hc66 ?_
                refine V_y (Y_move rfl) rfl rfl rfl ?_
                refine V_ge rfl rfl rfl hc66 ?_
                have h68 := El_cal_Change_1 h53
                refine V_y (Y_fieldAddr Try.underlying116 rfl Try.sizeOf3 (by decide) rfl) rfl rfl rfl ?_
                refine V_ge rfl rfl rfl hc66 ?_
                refine V_y (Y_load (El.int h68) Try.isAgg3 rfl) rfl rfl rfl ?_
                refine V_ge rfl rfl rfl hc66 ?_
                refine V_call Try.call84 rfl rfl rfl rfl (portref2_ZoneFault_1_c w51 x43.offset) ?_
                rintro _ _ ⟨rfl, rfl⟩
                refine V_y (Y_pick_fe rfl hc66 rfl) rfl rfl rfl ?_
                refine V_y (Y_assign rfl) rfl rfl rfl ?_
                obtain rfl := Option.some.inj ho56
                refine V_end (fun a ha69 => ?_)
                exact ⟨A32, ha69.sub ⟨rfl, rfl, rfl, rfl, rfl, rfl, rfl, rfl, rfl, trivial⟩, ⟨hH, hr58⟩⟩
            · rw [if_neg (nt hc65)] at ho56
              refine V_ge rfl rfl rfl hc65 ?_
              have h70 := El_cal_Change_0 h53
              refine V_y (Y_fieldAddr Try.underlying116 rfl Try.sizeOf3 (by decide) rfl) rfl rfl rfl ?_
              refine V_ge rfl rfl rfl hc65 ?_
              refine V_y (Y_load (El.int h70) Try.isAgg3 rfl) rfl rfl rfl ?_
              refine V_ge rfl rfl rfl hc65 ?_
              refine V_y (Y_gtr rfl rfl) rfl rfl rfl ?_
              refine V_y (Y_pick_fe rfl hc65 rfl) rfl rfl rfl ?_
              refine V_y (Y_move rfl) rfl rfl rfl ?_
              rcases Bool.eq_false_or_eq_true (decide ((3000000 : Int) < x43.at_)) with hc71 | hc71
              · rw [if_pos hc71] at ho56
                refine V_gn rfl rfl rfl hc71 rfl rfl rfl ?_
                refine V_gn rfl rfl rfl hc71 rfl rfl rfl ?_
                refine V_gn rfl rfl rfl hc71 rfl rfl rfl ?_
                refine V_gn rfl rfl rfl hc71 rfl rfl rfl ?_
                refine V_y (Y_pick_te rfl hc71 rfl) rfl rfl rfl ?_
                refine V_y (Y_assign rfl) rfl rfl rfl ?_
                obtain rfl := Option.some.inj ho56
                refine V_end (fun a ha72 => ?_)
                exact ⟨A32, ha72.sub ⟨rfl, rfl, rfl, rfl, rfl, rfl, rfl, rfl, rfl, trivial⟩, ⟨hH, hr58⟩⟩
              · rw [if_neg (nt hc71)] at ho56
                refine V_ge rfl rfl rfl hc71 ?_
                refine V_y (Y_move rfl) rfl rfl rfl ?_
                refine V_ge rfl rfl rfl hc71 ?_
                have h73 := El_cal_Change_1 h53
                refine V_y (Y_fieldAddr Try.underlying116 rfl Try.sizeOf3 (by decide) rfl) rfl rfl rfl ?_
                refine V_ge rfl rfl rfl hc71 ?_
                refine V_y (Y_load (El.int h73) Try.isAgg3 rfl) rfl rfl rfl ?_
                refine V_ge rfl rfl rfl hc71 ?_
                refine V_call Try.call84 rfl rfl rfl rfl (portref2_ZoneFault_1_c w51 x43.offset) ?_
                rintro _ _ ⟨rfl, rfl⟩
                refine V_y (Y_pick_fe rfl hc71 rfl) rfl rfl rfl ?_
                refine V_y (Y_assign rfl) rfl rfl rfl ?_
                obtain rfl := Option.some.inj ho56
                refine V_end (fun a ha74 => ?_)
                exact ⟨A32, ha74.sub ⟨rfl, rfl, rfl, rfl, rfl, rfl, rfl, rfl, rfl, trivial⟩, ⟨hH, hr58⟩⟩
          rintro A62 w59 ⟨hH63, hk60⟩ a ha61
          replace h6 := El.tr h6 hk60
          replace h20 := Sl.tr h20 hk60
          replace h53 := El.tr h53 hk60
          replace hK := Tr.trans hK hk60
          replace hr23 := Tr.trans hr23 hk60
          replace hB := Nat.le_trans hB hk60.ex.size
          replace hA := hk60.new
          replace hH : Hp w.heap.size A62 w59 ([]) := hH63
          refine C_at (n := ⟨63, [], none⟩) (fun _ _ => rfl) ?_ ha61
          refine C_cond rfl (fun hc75 => ?_) (fun hc75 => ?_)
          · rw [if_pos hc75] at h35
            refine C_seq ?_
            refine C_region ?_
            refine V_y (Y_assign rfl) rfl rfl rfl ?_
            refine V_to (fun _ _ => rfl) ?_
            obtain rfl := Option.some.inj h35
            obtain rfl := (h36 : Lp.rt _ = _)
            rw [Lp.andThen_rt] at hm
            obtain rfl := Option.some.inj hm
            refine C_ret ?_
            try simp only [↓inBlock_ret, ↓then_ret]
            exact retQ rfl (Res.one Try.results61 rfl) ⟨rfl, hK.kp⟩
          · rw [if_neg (nt hc75)] at h35
            refine C_seq ?_
            refine C_region_q Try_mixed (by kernel_rfl) ?_
            refine VQ_y (fun w' hw' => Y_move rfl) rfl rfl rfl ?_
            refine VQ_y (fun w' hw' => Y_gtr rfl rfl) rfl rfl rfl ?_
            refine VQ_y (fun w' hw' => Y_move rfl) rfl rfl rfl ?_
            obtain ⟨s77, hs77, h35⟩ := Option.bind_eq_some_iff.1 h35
            refine VQ_cut 11 (fun _ : Unit => [(1, .pointer (some ⟨b3, 0, none⟩)), (3, .func (.func 84) #[] #[]), (4, .int .i64 s30), (6, .pointer (some ⟨b48, 0, none⟩)), (18, v18), (19, .int .i64 (z.changes.length : Int)), (20, .int .i64 (k24 : Int)), (54, .bool s77)]) (fun _ => True) ?_ ?_
            · simp only [List.take, List.drop]
              rcases Bool.eq_false_or_eq_true (decide ((0 : Int) < (k24 : Int))) with hc76 | hc76
              · rw [if_pos hc76] at hs77
                refine VQ_ge rfl rfl rfl hc76 ?_
                have h78 := El_cal_Change_0 h53
                refine VQ_y (fun w' hw' => Y_fieldAddr Try.underlying116 rfl Try.sizeOf3 (by decide) rfl) rfl rfl rfl ?_
                refine VQ_ge rfl rfl rfl hc76 ?_
                refine VQ_y (fun w' hw' => Y_load (El.int (El.kp h78 hw')) Try.isAgg3 rfl) rfl rfl rfl ?_
                refine VQ_ge rfl rfl rfl hc76 ?_
                have h79 := El_cal_Zone_1 h6
                refine VQ_y (fun w' hw' => Y_fieldAddr Try.underlying24 rfl Try.sizeOf22 (by decide) rfl) rfl rfl rfl ?_
                refine VQ_ge rfl rfl rfl hc76 ?_
                obtain ⟨v80, h81, h82⟩ := El.list h79
                refine VQ_y (fun w' hw' => Y_load ((World.cell?_of_block (hw'.block _ (World.block_lt_of_cell? _ _ h81))).trans h81) Try.isAgg22 rfl) rfl rfl rfl ?_
                refine VQ_ge rfl rfl rfl hc76 ?_
                refine VQ_y (fun w' hw' => Y_move rfl) rfl rfl rfl ?_
                refine VQ_ge rfl rfl rfl hc76 ?_
                refine VQ_y (fun w' hw' => Y_subI rfl rfl) rfl rfl rfl ?_
                refine VQ_ge rfl rfl rfl hc76 ?_
                obtain ⟨x83, hx83, hs77⟩ := Option.bind_eq_some_iff.1 hs77
                refine VQ_indexAddr h82 hx83 Try.underlying22 Try.sizeOf116 rfl rfl rfl ?_
                intro b84 o85 h86
                refine VQ_ge rfl rfl rfl hc76 ?_
                have h87 := El_cal_Change_0 h86
                refine VQ_y (fun w' hw' => Y_fieldAddr Try.underlying116 rfl Try.sizeOf3 (by decide) rfl) rfl rfl rfl ?_
                refine VQ_ge rfl rfl rfl hc76 ?_
                refine VQ_y (fun w' hw' => Y_load (El.int (El.kp h87 hw')) Try.isAgg3 rfl) rfl rfl rfl ?_
                refine VQ_ge rfl rfl rfl hc76 ?_
                refine VQ_y (fun w' hw' => Y_leq rfl rfl) rfl rfl rfl ?_
                refine VQ_y (fun _ _ => Y_pick_te rfl hc76 rfl) rfl rfl rfl ?_
                obtain rfl := Option.some.inj hs77
                exact VQ_end fun a ha => ⟨(), ha.sub ⟨rfl, rfl, rfl, rfl, rfl, rfl, rfl, rfl, trivial⟩, trivial⟩
              · rw [if_neg (nt hc76)] at hs77
                refine VQ_gn rfl rfl rfl hc76 rfl rfl rfl ?_
                refine VQ_gn rfl rfl rfl hc76 rfl rfl rfl ?_
                refine VQ_gn rfl rfl rfl hc76 rfl rfl rfl ?_
                refine VQ_gn rfl rfl rfl hc76 rfl rfl rfl ?_
                refine VQ_gn rfl rfl rfl hc76 rfl rfl rfl ?_
                refine VQ_gn rfl rfl rfl hc76 rfl rfl rfl ?_
                refine VQ_gn rfl rfl rfl hc76 rfl rfl rfl ?_
                refine VQ_gn rfl rfl rfl hc76 rfl rfl rfl ?_
                refine VQ_gn rfl rfl rfl hc76 rfl rfl rfl ?_
                refine VQ_gn rfl rfl rfl hc76 rfl rfl rfl ?_
                refine VQ_y (fun _ _ => Y_pick_fe rfl hc76 rfl) rfl rfl rfl ?_
                obtain rfl := Option.some.inj hs77
                exact VQ_end fun a ha => ⟨(), ha.sub ⟨rfl, rfl, rfl, rfl, rfl, rfl, rfl, rfl, trivial⟩, trivial⟩
            simp only [List.take, List.drop]
            rintro _ _
            refine VQ_y (fun w' hw' => Y_assign rfl) rfl rfl rfl ?_
            refine VQ_to (fun _ _ => rfl) (fun w88 hk89 => ?_)
            have ht90 := Kp.tr hk89 hA hB
            replace hH := Hp.kp hH hk89
            replace h6 := El.tr h6 ht90
            replace h20 := Sl.tr h20 ht90
            replace h53 := El.tr h53 ht90
            replace hK := Tr.trans hK ht90
            replace hr23 := Tr.trans hr23 ht90
            replace hB := Nat.le_trans hB ht90.ex.size
            replace hA := ht90.new
            refine C_cond rfl (fun hc91 => ?_) (fun hc91 => ?_)
            · rw [if_pos hc91] at h35
              refine C_seq ?_
              refine C_region ?_
              refine V_y (Y_assign rfl) rfl rfl rfl ?_
              refine V_to (fun _ _ => rfl) ?_
              obtain rfl := Option.some.inj h35
              obtain rfl := (h36 : Lp.rt _ = _)
              rw [Lp.andThen_rt] at hm
              obtain rfl := Option.some.inj hm
              refine C_ret ?_
              try simp only [↓inBlock_ret, ↓then_ret]
              exact retQ rfl (Res.one Try.results61 rfl) ⟨rfl, hK.kp⟩
            · rw [if_neg (nt hc91)] at h35
              refine C_seq ?_
              refine C_region ?_
              have h92 := El_cal_Change_1 h53
              refine V_y (Y_fieldAddr Try.underlying116 rfl Try.sizeOf3 (by decide) rfl) rfl rfl rfl ?_
              refine V_y (Y_load (El.int h92) Try.isAgg3 rfl) rfl rfl rfl ?_
              refine V_y (Y_move rfl) rfl rfl rfl ?_
              refine V_y (Y_eql rfl rfl) rfl rfl rfl ?_
              refine V_y (Y_assign rfl) rfl rfl rfl ?_
              refine V_to (fun _ _ => rfl) ?_
              refine C_cond rfl (fun hc93 => ?_) (fun hc93 => ?_)
              · rw [if_pos hc93] at h35
                refine C_seq ?_
                refine C_region ?_
                refine V_y (Y_assign rfl) rfl rfl rfl ?_
                refine V_to (fun _ _ => rfl) ?_
                obtain rfl := Option.some.inj h35
                obtain rfl := (h36 : Lp.rt _ = _)
                rw [Lp.andThen_rt] at hm
                obtain rfl := Option.some.inj hm
                refine C_ret ?_
                try simp only [↓inBlock_ret, ↓then_ret]
                exact retQ rfl (Res.one Try.results61 rfl) ⟨rfl, hK.kp⟩
              · rw [if_neg (nt hc93)] at h35
                refine C_skip_to (fun _ _ => rfl) ?_
                refine C_region ?_
                have h94 := El_cal_Change_1 h53
                refine V_y (Y_fieldAddr Try.underlying116 rfl Try.sizeOf3 (by decide) rfl) rfl rfl rfl ?_
                refine V_y (Y_load (El.int h94) Try.isAgg3 rfl) rfl rfl rfl ?_
                refine V_y (Y_assign rfl) rfl rfl rfl ?_
                refine V_to (fun _ _ => rfl) ?_
                refine C_region ?_
                refine V_y (Y_addI rfl rfl) rfl rfl rfl ?_
                refine V_y (Y_move rfl) rfl rfl rfl ?_
                obtain rfl := Option.some.inj h35
                refine V_end (fun a ha95 => ?_)
                exact ⟨x43.offset, hlt38, h36, ⟨A62, ha95.sub ⟨rfl, rfl, rfl, rfl, rfl, (congrArg (fun z => some (Value.int .i64 z)) (w64_succ hlt38 hn41)), trivial⟩, ⟨hH, hr23⟩⟩⟩
        · refine C_exit (fun a ha96 => ?_)
          exact ⟨(s30, A32), ha96.sub trivial, ⟨(h39 (eq_of_dec hle37 hc42)).symm, hH, hr23⟩⟩
      rintro ⟨s22, A28⟩ w25 ⟨rfl, hH29, hk26⟩ a ha27
      rw [Lp.andThen_fin] at hm
      replace hK := Tr.trans hK hk26
      replace hB := Nat.le_trans hB hk26.ex.size
      replace hA := hk26.new
      replace hH : Hp w.heap.size A28 w25 ([]) := hH29
      refine C_at (n := ⟨63, [], none⟩) (fun _ _ => rfl) ?_ ha27
      refine C_seq ?_
      refine C_region ?_
      refine V_y (Y_assign rfl) rfl rfl rfl ?_
      refine V_to (fun _ _ => rfl) ?_
      obtain rfl := Option.some.inj hm
      refine C_ret ?_
      try simp only [↓inBlock_ret, ↓then_ret]
      exact retQ rfl (Res.one Try.results61 rfl) ⟨rfl, hK.kp⟩

end Go.Proofs.Ytpfoimbklbkcpaa.W
