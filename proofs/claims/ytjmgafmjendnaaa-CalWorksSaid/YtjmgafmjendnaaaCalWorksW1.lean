/-
  Written by program (gen.py) from the IR of the dump: each function computes its model.
-/
import Derived.Test.YtjmgafmjendnaaaCalWorksW0
namespace Go.Proofs.Ytjmgafmjendnaaa.W
open Go Go.RowKit Go.Pu Go.Gw Go.Proofs Go.Proofs.Ytjmgafmjendnaaa.M
set_option linter.unusedVariables false

set_option maxRecDepth 4000 in
set_option maxHeartbeats 4000000 in
theorem cal_Calendar_shifts_1_c (w : World) {A : Nat → Prop} {B : Nat} (hB : B ≤ w.heap.size) (hA : ∀ b, w.heap.size ≤ b → A b) {yield_S : Type} (yield : cal_Span → yield_S → Option (Bool × yield_S)) (yield_Y : yield_S → Ob) (yield_v : Value) (yield_one : yield_v.cells.toList = [yield_v]) (yield_s : yield_S) (yield_spec : ∀ (w2 : World) (A2 : Nat → Prop) (L2 : List Ob) (x : cal_Span) (z : yield_S) (b : Bool) (z2 : yield_S), B ≤ w2.heap.size → (∀ b, w2.heap.size ≤ b → A2 b) → Tr B A w A2 w2 → Hp B A2 w2 (yield_Y z :: L2) → yield x z = some (b, z2) → CallV Try.prog yield_v [.agg #[.int .i64 x.from_, .int .i64 x.to_]] w2 fun v w3 => v = .bool b ∧ ∃ A3, Tr B A2 w2 A3 w3 ∧ Hp B A3 w3 (yield_Y z2 :: L2)) (p1 : cal_Calendar) (b_p1 : Nat) (h_p1 : El A w b_p1 0 p1) (p2 : Int) (b_p2 : Nat) (h_p2 : El A w b_p2 0 p2) (p3 : Int) (b_p3 : Nat) (h_p3 : El A w b_p3 0 p3) {L : List Ob} (hH : Hp B A w (yield_Y yield_s :: L)) {r : yield_S} (hm : cal_Calendar_shifts_1 yield yield_s p1 p2 p3 = some r) : Ret Try.prog 109 #[yield_v, .pointer (some ⟨b_p1, 0, none⟩), .pointer (some ⟨b_p2, 0, none⟩), .pointer (some ⟨b_p3, 0, none⟩)] w fun v w' => ∃ A1 : Nat → Prop, v = .tuple #[] ∧ Hp B A1 w' (yield_Y r :: L) ∧ Tr B A w A1 w' := by
  unfold cal_Calendar_shifts_1 at hm
  refine enter Try.func109 rfl Try.ntmps109 rfl ?_
  have hK : Tr B A w A w := Tr.refl hA
  refine C_seq ?_
  refine C_region ?_
  refine V_box rfl rfl ?_
  intro b1 w2 h3
  have hk4 := h3.kp
  have h5 : Vb A w2 b1 yield_v := h3.vb hA yield_one
  have ht6 := Kp.tr hk4 hA hB
  replace hH := Hp.kp hH hk4
  replace h_p1 := El.tr h_p1 ht6
  replace h_p2 := El.tr h_p2 ht6
  replace h_p3 := El.tr h_p3 ht6
  replace hK := Tr.trans hK ht6
  replace hB := Nat.le_trans hB ht6.ex.size
  replace hA := ht6.new
  refine V_to (fun _ _ => rfl) ?_
  refine C_seq ?_
  refine C_region ?_
  have h7 := El_cal_Calendar_0 h_p1
  refine V_y (Y_fieldAddr Try.underlying48 rfl Try.sizeOf24 (by decide) rfl) rfl rfl rfl ?_
  obtain ⟨v8, h10, h9⟩ := El_cal_Zone h7
  refine V_y (Y_loadA h10 Try.isAgg24 Try.sizeOf24 rfl) rfl rfl rfl ?_
  obtain ⟨x11, hx11, hm⟩ := Option.bind_eq_some_iff.1 hm
  refine V_call Try.call63 rfl rfl rfl rfl (cal_Zone_parts_c w2 hA p1.zone v8 h9 hx11) ?_
  rintro v12 w14 ⟨_, rfl, h13, hk15⟩
  obtain ⟨A16, ht17, hH18⟩ := Hp.addOwnd hH hB hA hk15 h13
  replace h_p1 := El.tr h_p1 ht17
  replace h_p2 := El.tr h_p2 ht17
  replace h_p3 := El.tr h_p3 ht17
  replace h5 := Vb.tr h5 ht17
  replace h7 := El.tr h7 ht17
  replace h9 := Sl.tr h9 ht17
  replace hK := Tr.trans hK ht17
  replace hB := Nat.le_trans hB ht17.ex.size
  replace hA := ht17.new
  replace hH : Hp B A16 w14 (obS (α := cal_part) 92 v12 x11 :: yield_Y yield_s :: L) := hH18
  refine V_y (Y_lenSl (Hp.any (α := cal_part) (e := 92) (v := v12) (l := x11) hH (i := 0) rfl) rfl Try.underlying89 rfl) rfl rfl rfl ?_
  refine V_y (Y_move rfl) rfl rfl rfl ?_
  refine V_to (fun _ _ => rfl) ?_
  have hn39 := Hp.le (α := cal_part) (e := 92) (v := v12) (l := x11) hH (i := 0) rfl
  obtain ⟨o19, ho19, hm⟩ := Option.bind_eq_some_iff.1 hm
  refine C_cutG (ι := (yield_S × (Nat → Prop))) (fun ⟨s20, A26⟩ => []) (fun ⟨s20, A26⟩ => fun w' => o19 = .fin s20 ∧ Hp B A26 w' (obS (α := cal_part) 92 v12 x11 :: yield_Y s20 :: L) ∧ Tr B A16 w14 A26 w') ?_ ?_
  · refine C_block ?_
    refine C_range ho19 (fun k22 s28 a w' => ∃ i : (Nat → Prop), Has ⟨52, [], none⟩ a ([(1, .pointer (some ⟨b_p1, 0, none⟩)), (2, .pointer (some ⟨b_p2, 0, none⟩)), (3, .pointer (some ⟨b_p3, 0, none⟩)), (4, .pointer (some ⟨b1, 0, none⟩)), (13, v12), (14, .int .i64 (x11.length : Int)), (15, .int .i64 (k22 : Int))]) ∧ Hp B i w' (obS (α := cal_part) 92 v12 x11 :: yield_Y s28 :: L) ∧ Tr B A16 w14 i w') (fun a ha => ⟨A16, ha.sub ⟨rfl, rfl, rfl, rfl, rfl, rfl, rfl, trivial⟩, ⟨hH, Tr.refl hA⟩⟩) ?_
    rintro K k22 s28 a w29 ⟨A30, ha119, hH31, hr21⟩ hle35 K38 h37
    refine C_of ?_ ha119
    replace h_p1 := El.tr h_p1 hr21
    replace h_p2 := El.tr h_p2 hr21
    replace h_p3 := El.tr h_p3 hr21
    replace h5 := Vb.tr h5 hr21
    replace hK := Tr.trans hK hr21
    replace hB := Nat.le_trans hB hr21.ex.size
    replace hA := hr21.new
    replace hH : Hp B A30 w29 (obS (α := cal_part) 92 v12 x11 :: yield_Y s28 :: L) := hH31
    refine C_seq (C_region (V_y (Y_lss rfl rfl) rfl rfl rfl (V_to (fun _ _ => rfl) ?_)))
    refine C_seq ?_
    refine C_cond rfl (fun hc40 => ?_) (fun hc40 => ?_)
    · have hlt36 := lt_of_dec hc40
      obtain ⟨x32, h33, h34⟩ := K38 hlt36
      refine C_skip_to (fun _ _ => rfl) ?_
      refine C_seq ?_
      obtain ⟨o41, ho41, h33⟩ := Option.bind_eq_some_iff.1 h33
      refine C_cutG (ι := (yield_S × (Nat → Prop))) (fun ⟨s42, A47⟩ => [(1, .pointer (some ⟨b_p1, 0, none⟩)), (2, .pointer (some ⟨b_p2, 0, none⟩)), (3, .pointer (some ⟨b_p3, 0, none⟩)), (4, .pointer (some ⟨b1, 0, none⟩)), (13, v12), (14, .int .i64 (x11.length : Int)), (15, .int .i64 (k22 : Int))]) (fun ⟨s42, A47⟩ => fun w' => o41 = .fin s42 ∧ Hp B A47 w' (obS (α := cal_part) 92 v12 x11 :: yield_Y s42 :: L) ∧ Tr B A30 w29 A47 w') ?_ ?_
      · have hr43 : Tr B A30 w29 A30 w29 := Tr.refl hA
        refine C_block ?_
        refine C_seq ?_
        refine C_region ?_
        obtain ⟨x49, hx49, ho41⟩ := Option.bind_eq_some_iff.1 ho41
        refine V_indexAddrH (α := cal_part) (e := 92) (v := v12) (l := x11) hH (i := 0) rfl hx49 Try.underlying89 Try.sizeOf92 rfl rfl rfl ?_
        intro b50 o51 h52 hl53
        obtain ⟨h54, _⟩ := El_cal_part h52
        refine V_y (Y_loadA h54 Try.isAgg92 Try.sizeOf92 rfl) rfl rfl rfl ?_
        refine V_alloc Try.zeroValue92 rfl ?_
        intro b55 w56 h57
        refine V_storeNew h57 Try.sizeOf92 rfl rfl rfl rfl (by exact (List.forall_mem_cons.2 ⟨rfl, (List.forall_mem_cons.2 ⟨rfl, (List.forall_mem_cons.2 ⟨rfl, (fun _ h => nomatch h)⟩)⟩)⟩)) ?_
        intro w58 h59
        have hk61 := h59.kp
        have h60 : El (α := cal_part) A30 w58 b55 0 x49 := h59.el hA ⟨[.int .i64 x49.from_], _, rfl, rfl, ⟨[.int .i64 x49.to_], _, rfl, rfl, rfl⟩⟩
        have ht62 := Kp.tr hk61 hA hB
        replace hH := Hp.kp hH hk61
        replace h_p1 := El.tr h_p1 ht62
        replace h_p2 := El.tr h_p2 ht62
        replace h_p3 := El.tr h_p3 ht62
        replace h5 := Vb.tr h5 ht62
        replace h52 := El.kp h52 hk61
        replace hK := Tr.trans hK ht62
        replace hr21 := Tr.trans hr21 ht62
        replace hr43 := Tr.trans hr43 ht62
        replace hB := Nat.le_trans hB ht62.ex.size
        replace hA := ht62.new
        refine V_to (fun _ _ => rfl) ?_
        refine C_seq ?_
        refine C_region_def (B := B) (k := 8) [(7, 3, .int .i64 0), (8, 3, .int .i64 0)] [(22, 3), (26, 7)] Try_mixed (by kernel_rfl) rfl ⟨⟨_, _, _, rfl, by simp⟩, Try.zeroValue3, ⟨⟨_, _, _, rfl, by simp⟩, Try.zeroValue3, trivial⟩⟩ ⟨⟨_, _, _, rfl, by decide, by decide⟩, by decide, rfl, Try.sizeOf3, ⟨⟨_, _, _, rfl, by decide, by decide⟩, by decide, rfl, Try.sizeOf3, trivial⟩⟩ rfl rfl (by decide) (by simp [Value.cells]) hH hB hA ?_
        simp only [List.take]
        refine VQ_y (fun w' hw' => Y_load (El.int (El.kp h_p2 hw')) Try.isAgg3 rfl) rfl rfl rfl ?_
        have h70 := El_cal_part_0 h60
        refine VQ_y (fun w' hw' => Y_fieldAddr Try.underlying92 rfl Try.sizeOf3 (by decide) rfl) rfl rfl rfl ?_
        refine VQ_y (fun w' hw' => Y_load (El.int (El.kp h70 hw')) Try.isAgg3 rfl) rfl rfl rfl ?_
        refine VQ_y (fun w' hw' => Y_max2 rfl rfl) rfl rfl rfl ?_
        refine VQ_y (fun w' hw' => Y_load (El.int (El.kp h_p3 hw')) Try.isAgg3 rfl) rfl rfl rfl ?_
        have h71 := El_cal_part_1 h60
        refine VQ_y (fun w' hw' => Y_fieldAddr Try.underlying92 rfl Try.sizeOf3 (by decide) rfl) rfl rfl rfl ?_
        refine VQ_y (fun w' hw' => Y_load (El.int (El.kp h71 hw')) Try.isAgg3 rfl) rfl rfl rfl ?_
        refine VQ_y (fun w' hw' => Y_min2 rfl rfl) rfl rfl rfl ?_
        refine VQ_end fun a ha => ⟨_, [.int .i64 (if p2 < x49.from_ then x49.from_ else p2), .int .i64 (if x49.to_ < p3 then x49.to_ else p3)], ha, rfl, rfl, (by intro v hv; simp only [List.mem_cons, List.not_mem_nil, or_false] at hv; rcases hv with rfl | rfl <;> exact ⟨rfl, rfl⟩), fun b63 w65 A66 hH67 ht68 a ha69 => ?_⟩
        replace h_p1 := El.tr h_p1 ht68
        replace h_p2 := El.tr h_p2 ht68
        replace h_p3 := El.tr h_p3 ht68
        replace h5 := Vb.tr h5 ht68
        replace h60 := El.tr h60 ht68
        replace h70 := El.tr h70 ht68
        replace h71 := El.tr h71 ht68
        replace hK := Tr.trans hK ht68
        replace hr21 := Tr.trans hr21 ht68
        replace hr43 := Tr.trans hr43 ht68
        replace hB := Nat.le_trans hB ht68.ex.size
        replace hA := ht68.new
        replace hH : Hp B A66 w65 (obC (b63 0) [.int .i64 (if p2 < x49.from_ then x49.from_ else p2)] 3 :: obC (b63 1) [.int .i64 (if x49.to_ < p3 then x49.to_ else p3)] 3 :: obS (α := cal_part) 92 v12 x11 :: yield_Y s28 :: L) := hH67
        obtain ⟨A72, ht73, h74, hH75⟩ := Hp.freezeC (α := Int) (x := (if p2 < x49.from_ then x49.from_ else p2)) hH (i := 0) rfl hA rfl
        replace h_p1 := El.tr h_p1 ht73
        replace h_p2 := El.tr h_p2 ht73
        replace h_p3 := El.tr h_p3 ht73
        replace h5 := Vb.tr h5 ht73
        replace h60 := El.tr h60 ht73
        replace h70 := El.tr h70 ht73
        replace h71 := El.tr h71 ht73
        replace hK := Tr.trans hK ht73
        replace hr21 := Tr.trans hr21 ht73
        replace hr43 := Tr.trans hr43 ht73
        replace hB := Nat.le_trans hB ht73.ex.size
        replace hA := ht73.new
        replace hH : Hp B A72 w65 (obC (b63 1) [.int .i64 (if x49.to_ < p3 then x49.to_ else p3)] 3 :: obS (α := cal_part) 92 v12 x11 :: yield_Y s28 :: L) := hH75
        obtain ⟨A76, ht77, h78, hH79⟩ := Hp.freezeC (α := Int) (x := (if x49.to_ < p3 then x49.to_ else p3)) hH (i := 0) rfl hA rfl
        replace h_p1 := El.tr h_p1 ht77
        replace h_p2 := El.tr h_p2 ht77
        replace h_p3 := El.tr h_p3 ht77
        replace h5 := Vb.tr h5 ht77
        replace h60 := El.tr h60 ht77
        replace h70 := El.tr h70 ht77
        replace h71 := El.tr h71 ht77
        replace h74 := El.tr h74 ht77
        replace hK := Tr.trans hK ht77
        replace hr21 := Tr.trans hr21 ht77
        replace hr43 := Tr.trans hr43 ht77
        replace hB := Nat.le_trans hB ht77.ex.size
        replace hA := ht77.new
        replace hH : Hp B A76 w65 (obS (α := cal_part) 92 v12 x11 :: yield_Y s28 :: L) := hH79
        refine C_at (n := ⟨52, [], none⟩) (fun _ _ => rfl) ?_ ha69
        refine C_seq ?_
        refine C_region ?_
        refine V_y (Y_makeFunc rfl rfl) rfl rfl rfl ?_
        refine V_y (Y_assign rfl) rfl rfl rfl ?_
        refine V_to (fun _ _ => rfl) ?_
        refine C_seq ?_
        refine C_seq ?_
        refine C_region ?_
        refine V_y (Y_load (El.int h74) Try.isAgg3 rfl) rfl rfl rfl ?_
        refine V_y (Y_load (El.int h78) Try.isAgg3 rfl) rfl rfl rfl ?_
        refine V_y (Y_geq rfl rfl) rfl rfl rfl ?_
        refine V_to (fun _ _ => rfl) ?_
        refine C_cond rfl (fun hc80 => ?_) (fun hc80 => ?_)
        · rw [if_pos hc80] at ho41
          obtain rfl := Option.some.inj ho41
          refine C_exit (fun a ha81 => ?_)
          exact ⟨(s28, A76), ha81.sub ⟨rfl, rfl, rfl, rfl, rfl, rfl, rfl, trivial⟩, ⟨rfl, hH, hr43⟩⟩
        · rw [if_neg (nt hc80)] at ho41
          refine C_skip_to (fun _ _ => rfl) ?_
          refine C_seq ?_
          refine C_region ?_
          refine V_y (Y_load (El.int h74) Try.isAgg3 rfl) rfl rfl rfl ?_
          have h82 := El_cal_part_2 h60
          refine V_y (Y_fieldAddr Try.underlying92 rfl Try.sizeOf3 (by decide) rfl) rfl rfl rfl ?_
          refine V_y (Y_load (El.int h82) Try.isAgg3 rfl) rfl rfl rfl ?_
          refine V_y (Y_addI rfl rfl) rfl rfl rfl ?_
          obtain ⟨x83, hx83, ho41⟩ := Option.bind_eq_some_iff.1 ho41
          refine V_call Try.call60 rfl rfl rfl rfl (cal_floor_c w65 (w64 ((if p2 < x49.from_ then x49.from_ else p2) + x49.offset)) 1440 hx83) ?_
          rintro _ _ ⟨rfl, rfl⟩
          refine V_y (Y_subI rfl rfl) rfl rfl rfl ?_
          refine V_y (Y_assign rfl) rfl rfl rfl ?_
          refine V_to (fun _ _ => rfl) ?_
          obtain ⟨o84, ho84, ho41⟩ := Option.bind_eq_some_iff.1 ho41
          refine C_cutG (ι := ((Int × yield_S) × (Nat → Prop))) (fun ⟨s85, A91⟩ => [(1, .pointer (some ⟨b_p1, 0, none⟩)), (2, .pointer (some ⟨b_p2, 0, none⟩)), (3, .pointer (some ⟨b_p3, 0, none⟩)), (4, .pointer (some ⟨b1, 0, none⟩)), (13, v12), (14, .int .i64 (x11.length : Int)), (15, .int .i64 (k22 : Int))]) (fun ⟨s85, A91⟩ => fun w' => o84 = .fin s85 ∧ Hp B A91 w' (obS (α := cal_part) 92 v12 x11 :: yield_Y s85.2 :: L) ∧ Tr B A76 w65 A91 w') ?_ ?_
          · refine C_block ?_
            refine C_while ho84 (fun s93 a w' => ∃ i : (Nat → Prop), Has ⟨52, [], none⟩ a ([(1, .pointer (some ⟨b_p1, 0, none⟩)), (2, .pointer (some ⟨b_p2, 0, none⟩)), (3, .pointer (some ⟨b_p3, 0, none⟩)), (4, .pointer (some ⟨b1, 0, none⟩)), (6, .pointer (some ⟨b55, 0, none⟩)), (8, .pointer (some ⟨(b63 1), 0, none⟩)), (9, .func (.func 110) #[] #[.pointer (some ⟨b_p1, 0, none⟩), .pointer (some ⟨b55, 0, none⟩), .pointer (some ⟨(b63 0), 0, none⟩), .pointer (some ⟨(b63 1), 0, none⟩), .pointer (some ⟨b1, 0, none⟩)]), (10, .int .i64 s93.1), (13, v12), (14, .int .i64 (x11.length : Int)), (15, .int .i64 (k22 : Int))]) ∧ Hp B i w' (obS (α := cal_part) 92 v12 x11 :: yield_Y s93.2 :: L) ∧ Tr B A76 w65 i w') (fun a ha => ⟨A76, ha.sub ⟨rfl, rfl, rfl, rfl, rfl, rfl, rfl, rfl, rfl, rfl, rfl, trivial⟩, ⟨hH, Tr.refl hA⟩⟩) ?_
            rintro K s93 a w94 ⟨A95, ha115, hH96, hr86⟩ K103
            refine C_of ?_ ha115
            replace h_p1 := El.tr h_p1 hr86
            replace h_p2 := El.tr h_p2 hr86
            replace h_p3 := El.tr h_p3 hr86
            replace h5 := Vb.tr h5 hr86
            replace h60 := El.tr h60 hr86
            replace h78 := El.tr h78 hr86
            replace h74 := El.tr h74 hr86
            replace hK := Tr.trans hK hr86
            replace hr21 := Tr.trans hr21 hr86
            replace hr43 := Tr.trans hr43 hr86
            replace hB := Nat.le_trans hB hr86.ex.size
            replace hA := hr86.new
            replace hH : Hp B A95 w94 (obS (α := cal_part) 92 v12 x11 :: yield_Y s93.2 :: L) := hH96
            obtain ⟨x97, h98, h99⟩ := K103
            refine C_seq ?_
            refine C_seq ?_
            refine C_region ?_
            refine V_y (Y_move rfl) rfl rfl rfl ?_
            refine V_y (Y_load (El.int h78) Try.isAgg3 rfl) rfl rfl rfl ?_
            refine V_y (Y_subI rfl rfl) rfl rfl rfl ?_
            have h104 := El_cal_part_2 h60
            refine V_y (Y_fieldAddr Try.underlying92 rfl Try.sizeOf3 (by decide) rfl) rfl rfl rfl ?_
            refine V_y (Y_load (El.int h104) Try.isAgg3 rfl) rfl rfl rfl ?_
            refine V_y (Y_addI rfl rfl) rfl rfl rfl ?_
            obtain ⟨x105, hx105, h98⟩ := Option.bind_eq_some_iff.1 h98
            refine V_call Try.call60 rfl rfl rfl rfl (cal_floor_c w94 (w64 ((w64 ((if x49.to_ < p3 then x49.to_ else p3) - 1)) + x49.offset)) 1440 hx105) ?_
            rintro _ _ ⟨rfl, rfl⟩
            refine V_y (Y_leq rfl rfl) rfl rfl rfl ?_
            refine V_to (fun _ _ => rfl) ?_
            refine C_cond rfl (fun hc106 => ?_) (fun hc106 => ?_)
            · rw [if_pos hc106] at h98
              refine C_skip_to (fun _ _ => rfl) ?_
              refine C_seq ?_
              refine C_block ?_
              refine C_seq ?_
              refine C_region ?_
              refine V_y (Y_move rfl) rfl rfl rfl ?_
              refine V_y (Y_move rfl) rfl rfl rfl ?_
              replace hH : Hp B A95 w94 (yield_Y s93.2 :: obS (α := cal_part) 92 v12 x11 :: L) := Hp.front hH (i := 1) rfl
              obtain ⟨x107, hx107, h98⟩ := Option.bind_eq_some_iff.1 h98
              refine V_call Try.call110 rfl rfl rfl rfl (cal_Calendar_shifts_1_1_c w94 hB hA s93.1 p1 b_p1 h_p1 x49 b55 h60 (if p2 < x49.from_ then x49.from_ else p2) (b63 0) h74 (if x49.to_ < p3 then x49.to_ else p3) (b63 1) h78 yield yield_Y yield_v yield_one s93.2 (fun w2 A2 L2 x2 z2 b2 z3 h1 h2 h3 => yield_spec w2 A2 L2 x2 z2 b2 z3 h1 h2 (Tr.trans hK h3)) b1 h5 hH hx107) ?_
              rintro _ w108 ⟨A109, rfl, hH110, ht111⟩
              replace h_p1 := El.tr h_p1 ht111
              replace h_p2 := El.tr h_p2 ht111
              replace h_p3 := El.tr h_p3 ht111
              replace h5 := Vb.tr h5 ht111
              replace h60 := El.tr h60 ht111
              replace h78 := El.tr h78 ht111
              replace h74 := El.tr h74 ht111
              replace hK := Tr.trans hK ht111
              replace hr21 := Tr.trans hr21 ht111
              replace hr43 := Tr.trans hr43 ht111
              replace hr86 := Tr.trans hr86 ht111
              replace hB := Nat.le_trans hB ht111.ex.size
              replace hA := ht111.new
              replace hH : Hp B A109 w108 (yield_Y x107.2 :: obS (α := cal_part) 92 v12 x11 :: L) := hH110
              refine V_y (Y_not rfl) rfl rfl rfl ?_
              refine V_to (fun _ _ => rfl) ?_
              refine C_cond rfl (fun hc112 => ?_) (fun hc112 => ?_)
              · rw [if_pos hc112] at h98
                obtain rfl := Option.some.inj h98
                obtain rfl := (h99 : Lp.rt _ = _)
                rw [Lp.andThen_rt] at ho41
                obtain rfl := Option.some.inj ho41
                rw [Lp.andThen_rt] at h33
                obtain rfl := Option.some.inj h33
                obtain rfl := (h34 : Lp.rt _ = _)
                rw [Lp.andThen_rt] at hm
                obtain rfl := Option.some.inj hm
                replace hH : Hp B A109 w108 (yield_Y x107.2 :: L) := Hp.drop hH (i := 1) rfl
                refine C_ret ?_
                try simp only [↓inBlock_ret, ↓then_ret]
                exact retQ rfl (Res.zero Try.results109) ⟨A109, rfl, hH, hK⟩
              · rw [if_neg (nt hc112)] at h98
                refine C_skip_to (fun _ _ => rfl) ?_
                refine C_region ?_
                refine V_y (Y_move rfl) rfl rfl rfl ?_
                refine V_y (Y_addI rfl rfl) rfl rfl rfl ?_
                refine V_y (Y_assign rfl) rfl rfl rfl ?_
                obtain rfl := Option.some.inj h98
                refine V_end (fun a ha113 => ?_)
                replace hH : Hp B A109 w108 (obS (α := cal_part) 92 v12 x11 :: yield_Y x107.2 :: L) := Hp.front hH (i := 1) rfl
                exact ⟨(w64 (s93.1 + 1), x107.2), h99, ⟨A109, ha113.sub ⟨rfl, rfl, rfl, rfl, rfl, rfl, rfl, rfl, rfl, rfl, rfl, trivial⟩, ⟨hH, hr86⟩⟩⟩
            · rw [if_neg (nt hc106)] at h98
              obtain rfl := Option.some.inj h98
              refine C_exit (fun a ha114 => ?_)
              exact ⟨((s93.1, s93.2), A95), ha114.sub ⟨rfl, rfl, rfl, rfl, rfl, rfl, rfl, trivial⟩, ⟨h99.symm, hH, hr86⟩⟩
          rintro ⟨s85, A91⟩ w88 ⟨rfl, hH92, hk89⟩ a ha90
          rw [Lp.andThen_fin] at ho41
          replace h_p1 := El.tr h_p1 hk89
          replace h_p2 := El.tr h_p2 hk89
          replace h_p3 := El.tr h_p3 hk89
          replace h5 := Vb.tr h5 hk89
          replace hK := Tr.trans hK hk89
          replace hr21 := Tr.trans hr21 hk89
          replace hr43 := Tr.trans hr43 hk89
          replace hB := Nat.le_trans hB hk89.ex.size
          replace hA := hk89.new
          replace hH : Hp B A91 w88 (obS (α := cal_part) 92 v12 x11 :: yield_Y s85.2 :: L) := hH92
          obtain rfl := Option.some.inj ho41
          exact ⟨(s85.2, A91), ha90.sub ⟨rfl, rfl, rfl, rfl, rfl, rfl, rfl, trivial⟩, ⟨rfl, hH, hr43⟩⟩
      rintro ⟨s42, A47⟩ w44 ⟨rfl, hH48, hk45⟩ a ha46
      rw [Lp.andThen_fin] at h33
      replace h_p1 := El.tr h_p1 hk45
      replace h_p2 := El.tr h_p2 hk45
      replace h_p3 := El.tr h_p3 hk45
      replace h5 := Vb.tr h5 hk45
      replace hK := Tr.trans hK hk45
      replace hr21 := Tr.trans hr21 hk45
      replace hB := Nat.le_trans hB hk45.ex.size
      replace hA := hk45.new
      replace hH : Hp B A47 w44 (obS (α := cal_part) 92 v12 x11 :: yield_Y s42 :: L) := hH48
      refine C_at (n := ⟨52, [], none⟩) (fun _ _ => rfl) ?_ ha46
      refine C_region ?_
      refine V_y (Y_addI rfl rfl) rfl rfl rfl ?_
      refine V_y (Y_move rfl) rfl rfl rfl ?_
      obtain rfl := Option.some.inj h33
      refine V_end (fun a ha117 => ?_)
      exact ⟨s42, hlt36, h34, ⟨A47, ha117.sub ⟨rfl, rfl, rfl, rfl, rfl, rfl, (congrArg (fun z => some (Value.int .i64 z)) (w64_succ hlt36 hn39)), trivial⟩, ⟨hH, hr21⟩⟩⟩
    · refine C_exit (fun a ha118 => ?_)
      exact ⟨(s28, A30), ha118.sub trivial, ⟨(h37 (eq_of_dec hle35 hc40)).symm, hH, hr21⟩⟩
  rintro ⟨s20, A26⟩ w23 ⟨rfl, hH27, hk24⟩ a ha25
  rw [Lp.andThen_fin] at hm
  replace hK := Tr.trans hK hk24
  replace hB := Nat.le_trans hB hk24.ex.size
  replace hA := hk24.new
  replace hH : Hp B A26 w23 (obS (α := cal_part) 92 v12 x11 :: yield_Y s20 :: L) := hH27
  obtain rfl := Option.some.inj hm
  replace hH : Hp B A26 w23 (yield_Y s20 :: obS (α := cal_part) 92 v12 x11 :: L) := Hp.front hH (i := 1) rfl
  replace hH : Hp B A26 w23 (yield_Y s20 :: L) := Hp.drop hH (i := 1) rfl
  try simp only [↓inBlock_ret, ↓then_ret]
  exact normQ (retQ rfl (Res.zero Try.results109) ⟨A26, rfl, hH, hK⟩ a ha25)

set_option maxRecDepth 4000 in
set_option maxHeartbeats 4000000 in
theorem cal_Calendar_open_1_c (w : World) {A : Nat → Prop} {B : Nat} (hB : B ≤ w.heap.size) (hA : ∀ b, w.heap.size ≤ b → A b) {yield_S : Type} (yield : cal_Span → yield_S → Option (Bool × yield_S)) (yield_Y : yield_S → Ob) (yield_v : Value) (yield_one : yield_v.cells.toList = [yield_v]) (yield_s : yield_S) (yield_spec : ∀ (w2 : World) (A2 : Nat → Prop) (L2 : List Ob) (x : cal_Span) (z : yield_S) (b : Bool) (z2 : yield_S), B ≤ w2.heap.size → (∀ b, w2.heap.size ≤ b → A2 b) → Tr B A w A2 w2 → Hp B A2 w2 (yield_Y z :: L2) → yield x z = some (b, z2) → CallV Try.prog yield_v [.agg #[.int .i64 x.from_, .int .i64 x.to_]] w2 fun v w3 => v = .bool b ∧ ∃ A3, Tr B A2 w2 A3 w3 ∧ Hp B A3 w3 (yield_Y z2 :: L2)) (p1 : cal_Calendar) (b_p1 : Nat) (h_p1 : El A w b_p1 0 p1) (p2 : Int) (b_p2 : Nat) (h_p2 : El A w b_p2 0 p2) (p3 : Int) (b_p3 : Nat) (h_p3 : El A w b_p3 0 p3) {L : List Ob} (hH : Hp B A w (yield_Y yield_s :: L)) {r : yield_S} (hm : cal_Calendar_open_1 yield yield_s p1 p2 p3 = some r) : Ret Try.prog 93 #[yield_v, .pointer (some ⟨b_p1, 0, none⟩), .pointer (some ⟨b_p2, 0, none⟩), .pointer (some ⟨b_p3, 0, none⟩)] w fun v w' => ∃ A1 : Nat → Prop, v = .tuple #[] ∧ Hp B A1 w' (yield_Y r :: L) ∧ Tr B A w A1 w' := by
  unfold cal_Calendar_open_1 at hm
  refine enterM Try.func93 rfl Try.ntmps93 rfl ?_
  have hK : Tr B A w A w := Tr.refl hA
  refine C_seq ?_
  refine C_region ?_
  refine V_box rfl rfl ?_
  intro b1 w2 h3
  have hk4 := h3.kp
  have h5 : Vb A w2 b1 yield_v := h3.vb hA yield_one
  have ht6 := Kp.tr hk4 hA hB
  replace hH := Hp.kp hH hk4
  replace h_p1 := El.tr h_p1 ht6
  replace h_p2 := El.tr h_p2 ht6
  replace h_p3 := El.tr h_p3 ht6
  replace hK := Tr.trans hK ht6
  replace hB := Nat.le_trans hB ht6.ex.size
  replace hA := ht6.new
  refine V_to (fun _ _ => rfl) ?_
  refine C_seq ?_
  refine C_region ?_
  refine V_y (Y_build Try.underlying69 Try.zeroValue69 (Try_places69 _ Try.underlying69) rfl (by with_unfolding_all rfl)) rfl rfl rfl ?_
  refine V_allocH (B := B) hH Try.zeroValue69 hB hA rfl ?_
  intro b7 w9 A10 hH11 ht12
  replace h_p1 := El.tr h_p1 ht12
  replace h_p2 := El.tr h_p2 ht12
  replace h_p3 := El.tr h_p3 ht12
  replace h5 := Vb.tr h5 ht12
  replace hK := Tr.trans hK ht12
  replace hB := Nat.le_trans hB ht12.ex.size
  replace hA := ht12.new
  replace hH : Hp B A10 w9 (obC b7 [.int .i64 0, .int .i64 0] 69 :: yield_Y yield_s :: L) := hH11
  refine V_storeC (off := 0) (ds := [.int .i64 (-1), .int .i64 (-1)]) hH (i := 0) rfl Try.sizeOf69 rfl (Nat.le_of_ble_eq_true rfl) (by simp [Value.cells, Value.oneCell']) rfl hB hA rfl rfl ?_
  intro w13 hH14 ht15
  replace h_p1 := El.tr h_p1 ht15
  replace h_p2 := El.tr h_p2 ht15
  replace h_p3 := El.tr h_p3 ht15
  replace h5 := Vb.tr h5 ht15
  replace hK := Tr.trans hK ht15
  replace hB := Nat.le_trans hB ht15.ex.size
  replace hA := ht15.new
  replace hH : Hp B A10 w13 (obC b7 [.int .i64 (-1), .int .i64 (-1)] 69 :: yield_Y yield_s :: L) := hH14
  refine V_to (fun _ _ => rfl) ?_
  refine C_seq ?_
  refine C_seq ?_
  refine C_region ?_
  obtain ⟨v16, v18, v20, h22, h17, h19, h21⟩ := El_cal_Calendar h_p1
  refine V_y (Y_loadA h22 Try.isAgg48 Try.sizeOf48 rfl) rfl rfl rfl ?_
  refine V_y (Y_load (El.int h_p2) Try.isAgg3 rfl) rfl rfl rfl ?_
  refine V_y (Y_load (El.int h_p3) Try.isAgg3 rfl) rfl rfl rfl ?_
  obtain ⟨x23, hx23, hm⟩ := Option.bind_eq_some_iff.1 hm
  refine V_call Try.call94 rfl rfl rfl rfl (cal_Calendar_shifts_c w13 hA p1 v16 h17 v18 h19 v20 h21 p2 p3 hx23) ?_
  rintro _ w30 ⟨b24, b26, b28, rfl, h25, h27, h29, hk31⟩
  have ht32 := Kp.tr hk31 hA hB
  replace hH := Hp.kp hH hk31
  replace h_p1 := El.tr h_p1 ht32
  replace h_p2 := El.tr h_p2 ht32
  replace h_p3 := El.tr h_p3 ht32
  replace h5 := Vb.tr h5 ht32
  replace h17 := Sl.tr h17 ht32
  replace h19 := Sl.tr h19 ht32
  replace h21 := Sl.tr h21 ht32
  replace hK := Tr.trans hK ht32
  replace hB := Nat.le_trans hB ht32.ex.size
  replace hA := ht32.new
  refine V_to (fun _ _ => rfl) ?_
  have hH37 : Hp B A10 w30 ((fun (s34 : (cal_Span × yield_S)) => obE (fun (i : Unit) => [obC b7 [.int .i64 s34.1.from_, .int .i64 s34.1.to_] 69, yield_Y s34.2])) ((⟨(-1), (-1)⟩ : cal_Span), yield_s) :: L) := Hp.pack (F := fun (i : Unit) => [obC b7 [.int .i64 ((⟨(-1), (-1)⟩ : cal_Span), yield_s).1.from_, .int .i64 ((⟨(-1), (-1)⟩ : cal_Span), yield_s).1.to_] 69, yield_Y ((⟨(-1), (-1)⟩ : cal_Span), yield_s).2]) () hH
  obtain ⟨z33, hz33, hm⟩ := Option.bind_eq_some_iff.1 hm
  refine C_cutN (ι := Nat × (Nat → Prop)) (fun i => ⟨41, [{ target := .collected i.1, args := #[] }], none⟩) (fun i => [(4, .pointer (some ⟨b1, 0, none⟩)), (5, .pointer (some ⟨b7, 0, none⟩))]) (fun i w' => z33.2 ≠ some 0 ∧ Hp B i.2 w' ((fun (s34 : (cal_Span × yield_S)) => obE (fun (i : Unit) => [obC b7 [.int .i64 s34.1.from_, .int .i64 s34.1.to_] 69, yield_Y s34.2])) z33.1 :: obO i.1 (.deferred (some [])) :: L) ∧ Tr B A10 w30 i.2 w') ?_ ?_
  · refine C_block ?_
    refine C_rangeFunc (B := B) (A := A10) (L := L) (X := cal_Span) (fun (x43 : cal_Span) => [.agg #[.int .i64 x43.from_, .int .i64 x43.to_]]) (fun (s34 : (cal_Span × yield_S)) => obE (fun (i : Unit) => [obC b7 [.int .i64 s34.1.from_, .int .i64 s34.1.to_] 69, yield_Y s34.2])) (fun (x43 : cal_Span) (s35 : (cal_Span × yield_S)) => Option.bind (α := Lp _ _) (Option.bind (α := Lp _ _) (Option.bind (α := Lp _ _) (if (decide (s35.1.from_ < 0)) = true then some (.fin (x43, s35.2)) else Option.bind (α := Lp _ _) (if (decide (x43.from_ ≤ s35.1.to_)) = true then some (.fin ((⟨s35.1.from_, (if s35.1.to_ < x43.to_ then x43.to_ else s35.1.to_)⟩ : cal_Span), s35.2)) else Option.bind (yield s35.1 s35.2) fun x110 => if (!x110.1) = true then some (.rt ((s35.1, x110.2), some 0)) else some (.fin (x43, x110.2))) fun o96 => o96.andThen (fun y => some (.rt y)) fun s97 => some (.fin (s97.1, s97.2))) fun o81 => o81.andThen (fun y => some (.rt y)) fun s82 => some (.fin (s82.1, s82.2))) fun o73 => o73.andThen (fun y => some (.rt y)) fun s74 => some (.fin (s74.1, s74.2))) fun o65 => o65.andThen (fun y => some y) fun s66 => some ((s66.1, s66.2), none)) (fun k => if k = 0 then .ret else .exit 0) (s0 := ((⟨(-1), (-1)⟩ : cal_Span), yield_s)) (zf := z33) rfl rfl rfl (by decide) (fun _ => rfl) hB hA hH37 109 _ rfl Try.call109 ?_ ?_ ?_ ?_
    · intro Ys yv w1 A1 L1 h1 h2 h3 h4 h0 h5
      exact (cal_Calendar_shifts_1_c w1 h1 h2 (yieldB (fun (x43 : cal_Span) (s35 : (cal_Span × yield_S)) => Option.bind (α := Lp _ _) (Option.bind (α := Lp _ _) (Option.bind (α := Lp _ _) (if (decide (s35.1.from_ < 0)) = true then some (.fin (x43, s35.2)) else Option.bind (α := Lp _ _) (if (decide (x43.from_ ≤ s35.1.to_)) = true then some (.fin ((⟨s35.1.from_, (if s35.1.to_ < x43.to_ then x43.to_ else s35.1.to_)⟩ : cal_Span), s35.2)) else Option.bind (yield s35.1 s35.2) fun x110 => if (!x110.1) = true then some (.rt ((s35.1, x110.2), some 0)) else some (.fin (x43, x110.2))) fun o96 => o96.andThen (fun y => some (.rt y)) fun s97 => some (.fin (s97.1, s97.2))) fun o81 => o81.andThen (fun y => some (.rt y)) fun s82 => some (.fin (s82.1, s82.2))) fun o73 => o73.andThen (fun y => some (.rt y)) fun s74 => some (.fin (s74.1, s74.2))) fun o65 => o65.andThen (fun y => some y) fun s66 => some ((s66.1, s66.2), none))) Ys yv h0 (((⟨(-1), (-1)⟩ : cal_Span), yield_s), none) h5 x23.1 b24 (El.tr h25 h3) x23.2.1 b26 (El.tr h27 h3) x23.2.2 b28 (El.tr h29 h3) h4 hz33).mono fun _ _ ⟨A3, _, hh, tt⟩ => ⟨A3, tt, hh⟩
    · intro l38 rc39 w40 A41 L42 x43 s35 s36 j44 hst45 hB46 hA47 ht48 hH49 h50
      obtain ⟨_, hH49⟩ := Hp.open hH49
      replace h5 := Vb.tr h5 ht48
      replace h25 := El.tr h25 ht48
      replace h27 := El.tr h27 ht48
      replace h29 := El.tr h29 ht48
      replace hK := Tr.trans hK ht48
      replace hB := Nat.le_trans hB ht48.ex.size
      replace hA := ht48.new
      replace hH : Hp B A41 w40 (obC b7 [.int .i64 s35.1.from_, .int .i64 s35.1.to_] 69 :: yield_Y s35.2 :: obO l38 (.loop rc39) :: L42) := hH49
      have hr51 : Tr B A41 w40 A41 w40 := Tr.refl hA
      show C _ _ _ _ _ _
      refine C_region ?_
      refine V_alloc Try.zeroValue69 rfl ?_
      intro b53 w54 h55
      refine V_storeNew h55 Try.sizeOf69 rfl rfl rfl rfl (by exact (List.forall_mem_cons.2 ⟨rfl, (List.forall_mem_cons.2 ⟨rfl, (fun _ h => nomatch h)⟩)⟩)) ?_
      intro w56 h57
      have hk59 := h57.kp
      have h58 : El (α := cal_Span) A41 w56 b53 0 x43 := h57.el hA ⟨[.int .i64 x43.from_], _, rfl, rfl, rfl⟩
      have ht60 := Kp.tr hk59 hA hB
      replace hH := Hp.kp hH hk59
      replace h5 := Vb.tr h5 ht60
      replace h25 := El.tr h25 ht60
      replace h27 := El.tr h27 ht60
      replace h29 := El.tr h29 ht60
      replace hK := Tr.trans hK ht60
      replace hr51 := Tr.trans hr51 ht60
      replace hB := Nat.le_trans hB ht60.ex.size
      replace hA := ht60.new
      refine V_end (fun a ha61 => ?_)
      refine begin_at hH (i := 2) rfl hst45 hB hA (fun w62 hH63 ht64 => ?_) ha61
      replace h5 := Vb.tr h5 ht64
      replace h58 := El.tr h58 ht64
      replace hK := Tr.trans hK ht64
      replace hr51 := Tr.trans hr51 ht64
      replace hB := Nat.le_trans hB ht64.ex.size
      replace hA := ht64.new
      replace hH : Hp B A41 w62 (obC b7 [.int .i64 s35.1.from_, .int .i64 s35.1.to_] 69 :: yield_Y s35.2 :: obO l38 (.loop { rc39 with state := .busy }) :: L42) := hH63
      obtain ⟨o65, ho65, h50⟩ := Option.bind_eq_some_iff.1 h50
      refine C_cutG (ι := ((cal_Span × yield_S) × (Nat → Prop))) (fun ⟨s66, A71⟩ => []) (fun ⟨s66, A71⟩ => fun w' => o65 = .fin s66 ∧ Hp B A71 w' (obC b7 [.int .i64 s66.1.from_, .int .i64 s66.1.to_] 69 :: yield_Y s66.2 :: obO l38 (.loop { rc39 with state := .busy }) :: L42) ∧ Tr B A41 w62 A71 w') ?_ ?_
      · have hr67 : Tr B A41 w62 A41 w62 := Tr.refl hA
        refine C_block ?_
        obtain ⟨o73, ho73, ho65⟩ := Option.bind_eq_some_iff.1 ho65
        refine C_cutG (ι := ((cal_Span × yield_S) × (Nat → Prop))) (fun ⟨s74, A79⟩ => []) (fun ⟨s74, A79⟩ => fun w' => o73 = .fin s74 ∧ Hp B A79 w' (obC b7 [.int .i64 s74.1.from_, .int .i64 s74.1.to_] 69 :: yield_Y s74.2 :: obO l38 (.loop { rc39 with state := .busy }) :: L42) ∧ Tr B A41 w62 A79 w') ?_ ?_
        · have hr75 : Tr B A41 w62 A41 w62 := Tr.refl hA
          refine C_block ?_
          refine C_seq ?_
          refine C_region ?_
          refine V_y (Y_fieldAddrC (off2 := 0) Try.underlying69 rfl Try.sizeOf3 (by decide) rfl rfl) rfl rfl rfl ?_
          refine V_y (Y_load (Hp.cell (j := 0) hH (i := 0) rfl rfl) Try.isAgg3 rfl) rfl rfl rfl ?_
          refine V_y (Y_lss rfl rfl) rfl rfl rfl ?_
          refine V_y (Y_assign rfl) rfl rfl rfl ?_
          refine V_to (fun _ _ => rfl) ?_
          obtain ⟨o81, ho81, ho73⟩ := Option.bind_eq_some_iff.1 ho73
          refine C_cutG (ι := ((cal_Span × yield_S) × (Nat → Prop))) (fun ⟨s82, A87⟩ => []) (fun ⟨s82, A87⟩ => fun w' => o81 = .fin s82 ∧ Hp B A87 w' (obC b7 [.int .i64 s82.1.from_, .int .i64 s82.1.to_] 69 :: yield_Y s82.2 :: obO l38 (.loop { rc39 with state := .busy }) :: L42) ∧ Tr B A41 w62 A87 w') ?_ ?_
          · have hr83 : Tr B A41 w62 A41 w62 := Tr.refl hA
            refine C_cond rfl (fun hc89 => ?_) (fun hc89 => ?_)
            · rw [if_pos hc89] at ho81
              refine C_region ?_
              obtain ⟨h90, _⟩ := El_cal_Span h58
              refine V_y (Y_loadA h90 Try.isAgg69 Try.sizeOf69 rfl) rfl rfl rfl ?_
              refine V_storeC (off := 0) (ds := [.int .i64 x43.from_, .int .i64 x43.to_]) hH (i := 0) rfl Try.sizeOf69 rfl (Nat.le_of_ble_eq_true rfl) (by simp [Value.cells, Value.oneCell']) rfl hB hA rfl rfl ?_
              intro w91 hH92 ht93
              replace h5 := Vb.tr h5 ht93
              replace h58 := El.tr h58 ht93
              replace hK := Tr.trans hK ht93
              replace hr51 := Tr.trans hr51 ht93
              replace hr67 := Tr.trans hr67 ht93
              replace hr75 := Tr.trans hr75 ht93
              replace hr83 := Tr.trans hr83 ht93
              replace hB := Nat.le_trans hB ht93.ex.size
              replace hA := ht93.new
              replace hH : Hp B A41 w91 (obC b7 [.int .i64 x43.from_, .int .i64 x43.to_] 69 :: yield_Y s35.2 :: obO l38 (.loop { rc39 with state := .busy }) :: L42) := hH92
              obtain rfl := Option.some.inj ho81
              refine V_end (fun a ha94 => ?_)
              exact ⟨((x43, s35.2), A41), ha94.sub trivial, ⟨rfl, hH, hr83⟩⟩
            · rw [if_neg (nt hc89)] at ho81
              refine C_seq ?_
              refine C_region ?_
              have h95 := El_cal_Span_0 h58
              refine V_y (Y_fieldAddr Try.underlying69 rfl Try.sizeOf3 (by decide) rfl) rfl rfl rfl ?_
              refine V_y (Y_load (El.int h95) Try.isAgg3 rfl) rfl rfl rfl ?_
              refine V_y (Y_fieldAddrC (off2 := 1) Try.underlying69 rfl Try.sizeOf3 (by decide) rfl rfl) rfl rfl rfl ?_
              refine V_y (Y_load (Hp.cell (j := 1) hH (i := 0) rfl rfl) Try.isAgg3 rfl) rfl rfl rfl ?_
              refine V_y (Y_leq rfl rfl) rfl rfl rfl ?_
              refine V_y (Y_assign rfl) rfl rfl rfl ?_
              refine V_to (fun _ _ => rfl) ?_
              obtain ⟨o96, ho96, ho81⟩ := Option.bind_eq_some_iff.1 ho81
              refine C_cutG (ι := ((cal_Span × yield_S) × (Nat → Prop))) (fun ⟨s97, A102⟩ => []) (fun ⟨s97, A102⟩ => fun w' => o96 = .fin s97 ∧ Hp B A102 w' (obC b7 [.int .i64 s97.1.from_, .int .i64 s97.1.to_] 69 :: yield_Y s97.2 :: obO l38 (.loop { rc39 with state := .busy }) :: L42) ∧ Tr B A41 w62 A102 w') ?_ ?_
              · have hr98 : Tr B A41 w62 A41 w62 := Tr.refl hA
                refine C_cond rfl (fun hc104 => ?_) (fun hc104 => ?_)
                · rw [if_pos hc104] at ho96
                  refine C_region ?_
                  refine V_y (Y_fieldAddrC (off2 := 1) Try.underlying69 rfl Try.sizeOf3 (by decide) rfl rfl) rfl rfl rfl ?_
                  refine V_y (Y_load (Hp.cell (j := 1) hH (i := 0) rfl rfl) Try.isAgg3 rfl) rfl rfl rfl ?_
                  have h105 := El_cal_Span_1 h58
                  refine V_y (Y_fieldAddr Try.underlying69 rfl Try.sizeOf3 (by decide) rfl) rfl rfl rfl ?_
                  refine V_y (Y_load (El.int h105) Try.isAgg3 rfl) rfl rfl rfl ?_
                  refine V_y (Y_max2 rfl rfl) rfl rfl rfl ?_
                  refine V_y (Y_fieldAddrC (off2 := 1) Try.underlying69 rfl Try.sizeOf3 (by decide) rfl rfl) rfl rfl rfl ?_
                  refine V_storeC (off := 1) (ds := [.int .i64 s35.1.from_, .int .i64 (if s35.1.to_ < x43.to_ then x43.to_ else s35.1.to_)]) hH (i := 0) rfl Try.sizeOf3 rfl (Nat.le_of_ble_eq_true rfl) (by simp [Value.cells, Value.oneCell']) rfl hB hA rfl rfl ?_
                  intro w106 hH107 ht108
                  replace h5 := Vb.tr h5 ht108
                  replace h58 := El.tr h58 ht108
                  replace h105 := El.tr h105 ht108
                  replace hK := Tr.trans hK ht108
                  replace hr51 := Tr.trans hr51 ht108
                  replace hr67 := Tr.trans hr67 ht108
                  replace hr75 := Tr.trans hr75 ht108
                  replace hr83 := Tr.trans hr83 ht108
                  replace hr98 := Tr.trans hr98 ht108
                  replace hB := Nat.le_trans hB ht108.ex.size
                  replace hA := ht108.new
                  replace hH : Hp B A41 w106 (obC b7 [.int .i64 s35.1.from_, .int .i64 (if s35.1.to_ < x43.to_ then x43.to_ else s35.1.to_)] 69 :: yield_Y s35.2 :: obO l38 (.loop { rc39 with state := .busy }) :: L42) := hH107
                  obtain rfl := Option.some.inj ho96
                  refine V_end (fun a ha109 => ?_)
                  exact ⟨(((⟨s35.1.from_, (if s35.1.to_ < x43.to_ then x43.to_ else s35.1.to_)⟩ : cal_Span), s35.2), A41), ha109.sub trivial, ⟨rfl, hH, hr98⟩⟩
                · rw [if_neg (nt hc104)] at ho96
                  refine C_seq ?_
                  refine C_seq ?_
                  refine C_region ?_
                  refine V_y (Y_load h5.2.2 Try.isAgg119 rfl) rfl rfl rfl ?_
                  refine V_y (Y_loadA (Hp.part (off := 0) (n := 2) (ds := [.int .i64 s35.1.from_, .int .i64 s35.1.to_]) hH (i := 0) rfl rfl) Try.isAgg69 Try.sizeOf69 rfl) rfl rfl rfl ?_
                  obtain ⟨x110, hx110, ho96⟩ := Option.bind_eq_some_iff.1 ho96
                  replace hH : Hp B A41 w62 (yield_Y s35.2 :: obC b7 [.int .i64 s35.1.from_, .int .i64 s35.1.to_] 69 :: obO l38 (.loop { rc39 with state := .busy }) :: L42) := Hp.front hH (i := 1) rfl
                  refine V_callV rfl rfl rfl (yield_spec w62 _ _ s35.1 _ x110.1 x110.2 hB hA hK hH hx110) ?_
                  rintro _ w111 ⟨rfl, A112, ht114, hH113⟩
                  replace h5 := Vb.tr h5 ht114
                  replace h58 := El.tr h58 ht114
                  replace hK := Tr.trans hK ht114
                  replace hr51 := Tr.trans hr51 ht114
                  replace hr67 := Tr.trans hr67 ht114
                  replace hr75 := Tr.trans hr75 ht114
                  replace hr83 := Tr.trans hr83 ht114
                  replace hr98 := Tr.trans hr98 ht114
                  replace hB := Nat.le_trans hB ht114.ex.size
                  replace hA := ht114.new
                  replace hH : Hp B A112 w111 (yield_Y x110.2 :: obC b7 [.int .i64 s35.1.from_, .int .i64 s35.1.to_] 69 :: obO l38 (.loop { rc39 with state := .busy }) :: L42) := hH113
                  refine V_y (Y_not rfl) rfl rfl rfl ?_
                  refine V_to (fun _ _ => rfl) ?_
                  refine C_cond rfl (fun hc115 => ?_) (fun hc115 => ?_)
                  · rw [if_pos hc115] at ho96
                    obtain rfl := Option.some.inj ho96
                    rw [Lp.andThen_rt] at ho81
                    obtain rfl := Option.some.inj ho81
                    rw [Lp.andThen_rt] at ho73
                    obtain rfl := Option.some.inj ho73
                    rw [Lp.andThen_rt] at ho65
                    obtain rfl := Option.some.inj ho65
                    rw [Lp.andThen_rt] at h50
                    obtain ⟨rfl, rfl⟩ := Prod.mk.inj (Option.some.inj h50)
                    refine C_ret (fun a ha116 => ?_)
                    replace hH : Hp B A112 w111 (obO l38 (.loop { rc39 with state := .busy }) :: yield_Y x110.2 :: obC b7 [.int .i64 s35.1.from_, .int .i64 s35.1.to_] 69 :: L42) := Hp.front hH (i := 2) rfl
                    replace hH : Hp B A112 w111 (yield_Y x110.2 :: obO l38 (.loop { rc39 with state := .busy }) :: obC b7 [.int .i64 s35.1.from_, .int .i64 s35.1.to_] 69 :: L42) := Hp.front hH (i := 1) rfl
                    replace hH : Hp B A112 w111 (obC b7 [.int .i64 s35.1.from_, .int .i64 s35.1.to_] 69 :: yield_Y x110.2 :: obO l38 (.loop { rc39 with state := .busy }) :: L42) := Hp.front hH (i := 2) rfl
                    exact ⟨rfl, A112, hr51, Hp.pack (F := fun (i : Unit) => [obC b7 [.int .i64 (s35.1, x110.2).1.from_, .int .i64 (s35.1, x110.2).1.to_] 69, yield_Y (s35.1, x110.2).2]) () hH⟩
                  · rw [if_neg (nt hc115)] at ho96
                    refine C_skip_to (fun _ _ => rfl) ?_
                    refine C_region ?_
                    obtain ⟨h117, _⟩ := El_cal_Span h58
                    refine V_y (Y_loadA h117 Try.isAgg69 Try.sizeOf69 rfl) rfl rfl rfl ?_
                    refine V_storeC (off := 0) (ds := [.int .i64 x43.from_, .int .i64 x43.to_]) hH (i := 1) rfl Try.sizeOf69 rfl (Nat.le_of_ble_eq_true rfl) (by simp [Value.cells, Value.oneCell']) rfl hB hA rfl rfl ?_
                    intro w118 hH119 ht120
                    replace h58 := El.tr h58 ht120
                    replace hK := Tr.trans hK ht120
                    replace hr51 := Tr.trans hr51 ht120
                    replace hr67 := Tr.trans hr67 ht120
                    replace hr75 := Tr.trans hr75 ht120
                    replace hr83 := Tr.trans hr83 ht120
                    replace hr98 := Tr.trans hr98 ht120
                    replace hB := Nat.le_trans hB ht120.ex.size
                    replace hA := ht120.new
                    replace hH : Hp B A112 w118 (yield_Y x110.2 :: obC b7 [.int .i64 x43.from_, .int .i64 x43.to_] 69 :: obO l38 (.loop { rc39 with state := .busy }) :: L42) := hH119
                    obtain rfl := Option.some.inj ho96
                    refine V_end (fun a ha121 => ?_)
                    replace hH : Hp B A112 w118 (obO l38 (.loop { rc39 with state := .busy }) :: yield_Y x110.2 :: obC b7 [.int .i64 x43.from_, .int .i64 x43.to_] 69 :: L42) := Hp.front hH (i := 2) rfl
                    replace hH : Hp B A112 w118 (yield_Y x110.2 :: obO l38 (.loop { rc39 with state := .busy }) :: obC b7 [.int .i64 x43.from_, .int .i64 x43.to_] 69 :: L42) := Hp.front hH (i := 1) rfl
                    replace hH : Hp B A112 w118 (obC b7 [.int .i64 x43.from_, .int .i64 x43.to_] 69 :: yield_Y x110.2 :: obO l38 (.loop { rc39 with state := .busy }) :: L42) := Hp.front hH (i := 2) rfl
                    exact ⟨((x43, x110.2), A112), ha121.sub trivial, ⟨rfl, hH, hr98⟩⟩
              rintro ⟨s97, A102⟩ w99 ⟨rfl, hH103, hk100⟩ a ha101
              rw [Lp.andThen_fin] at ho81
              replace hK := Tr.trans hK hk100
              replace hr51 := Tr.trans hr51 hk100
              replace hr67 := Tr.trans hr67 hk100
              replace hr75 := Tr.trans hr75 hk100
              replace hr83 := Tr.trans hr83 hk100
              replace hB := Nat.le_trans hB hk100.ex.size
              replace hA := hk100.new
              replace hH : Hp B A102 w99 (obC b7 [.int .i64 s97.1.from_, .int .i64 s97.1.to_] 69 :: yield_Y s97.2 :: obO l38 (.loop { rc39 with state := .busy }) :: L42) := hH103
              obtain rfl := Option.some.inj ho81
              exact ⟨((s97.1, s97.2), A102), ha101.sub trivial, ⟨rfl, hH, hr83⟩⟩
          rintro ⟨s82, A87⟩ w84 ⟨rfl, hH88, hk85⟩ a ha86
          rw [Lp.andThen_fin] at ho73
          replace hK := Tr.trans hK hk85
          replace hr51 := Tr.trans hr51 hk85
          replace hr67 := Tr.trans hr67 hk85
          replace hr75 := Tr.trans hr75 hk85
          replace hB := Nat.le_trans hB hk85.ex.size
          replace hA := hk85.new
          replace hH : Hp B A87 w84 (obC b7 [.int .i64 s82.1.from_, .int .i64 s82.1.to_] 69 :: yield_Y s82.2 :: obO l38 (.loop { rc39 with state := .busy }) :: L42) := hH88
          obtain rfl := Option.some.inj ho73
          exact ⟨((s82.1, s82.2), A87), ha86.sub trivial, ⟨rfl, hH, hr75⟩⟩
        rintro ⟨s74, A79⟩ w76 ⟨rfl, hH80, hk77⟩ a ha78
        rw [Lp.andThen_fin] at ho65
        replace hK := Tr.trans hK hk77
        replace hr51 := Tr.trans hr51 hk77
        replace hr67 := Tr.trans hr67 hk77
        replace hB := Nat.le_trans hB hk77.ex.size
        replace hA := hk77.new
        replace hH : Hp B A79 w76 (obC b7 [.int .i64 s74.1.from_, .int .i64 s74.1.to_] 69 :: yield_Y s74.2 :: obO l38 (.loop { rc39 with state := .busy }) :: L42) := hH80
        obtain rfl := Option.some.inj ho65
        exact ⟨((s74.1, s74.2), A79), ha78.sub trivial, ⟨rfl, hH, hr67⟩⟩
      rintro ⟨s66, A71⟩ w68 ⟨rfl, hH72, hk69⟩ a ha70
      rw [Lp.andThen_fin] at h50
      replace hK := Tr.trans hK hk69
      replace hr51 := Tr.trans hr51 hk69
      replace hB := Nat.le_trans hB hk69.ex.size
      replace hA := hk69.new
      replace hH : Hp B A71 w68 (obC b7 [.int .i64 s66.1.from_, .int .i64 s66.1.to_] 69 :: yield_Y s66.2 :: obO l38 (.loop { rc39 with state := .busy }) :: L42) := hH72
      obtain ⟨rfl, rfl⟩ := Prod.mk.inj (Option.some.inj h50)
      exact ⟨rfl, A71, hr51, Hp.pack (F := fun (i : Unit) => [obC b7 [.int .i64 (s66.1, s66.2).1.from_, .int .i64 (s66.1, s66.2).1.to_] 69, yield_Y (s66.1, s66.2).2]) () hH⟩
    · intro hc131 D126 w127 A128 ht129 hH130 a ha132
      exact ⟨(D126, A128), ha132.sub ⟨rfl, rfl, trivial⟩, (by rw [hc131]; simp), hH130, ht129⟩
    · intro k133 hc131 D126 w127 A128 ht129 hH130
      by_cases hc134 : k133 = 0
      · subst hc134
        rw [if_pos hc131] at hm
        obtain ⟨_, hH130⟩ := Hp.open hH130
        replace hK := Tr.trans hK ht129
        replace hB := Nat.le_trans hB ht129.ex.size
        replace hA := ht129.new
        replace hH : Hp B A128 w127 (obC b7 [.int .i64 z33.1.1.from_, .int .i64 z33.1.1.to_] 69 :: yield_Y z33.1.2 :: obO D126 (.deferred (some [])) :: L) := hH130
        show C _ _ .ret _ _ _
        obtain rfl := Option.some.inj hm
        have h135 := Hp.obj hH (i := 2) (b := D126) rfl
        obtain ⟨hH136, ht137⟩ := Hp.put (.deferred none) hH (i := 2) (b := D126) rfl hB hA
        replace hK := Tr.trans hK ht137
        replace hB := Nat.le_trans hB ht137.ex.size
        replace hA := ht137.new
        replace hH : Hp B A128 (World.putObj w127 D126 (.deferred none)) (obC b7 [.int .i64 z33.1.1.from_, .int .i64 z33.1.1.to_] 69 :: yield_Y z33.1.2 :: obO D126 (.deferred none) :: L) := hH136
        replace hH : Hp B A128 (World.putObj w127 D126 (.deferred none)) (yield_Y z33.1.2 :: obC b7 [.int .i64 z33.1.1.from_, .int .i64 z33.1.1.to_] 69 :: obO D126 (.deferred none) :: L) := Hp.front hH (i := 1) rfl
        replace hH : Hp B A128 (World.putObj w127 D126 (.deferred none)) (yield_Y z33.1.2 :: obO D126 (.deferred none) :: L) := Hp.drop hH (i := 1) rfl
        replace hH : Hp B A128 (World.putObj w127 D126 (.deferred none)) (yield_Y z33.1.2 :: L) := Hp.drop hH (i := 1) rfl
        refine C_ret ?_
        try simp only [↓inBlock_ret, ↓then_ret]
        exact retM1 rfl h135 (Res.zero Try.results93) ⟨A128, rfl, hH, hK⟩
      · show C _ _ (if k133 = 0 then _ else _) _ _ _
        rw [if_neg hc134]
        refine C_exit fun a ha132 => ?_
        show Exit.inBlock _ _ _ _ _
        rw [Exit.inBlock, if_pos rfl]
        exact ⟨(D126, A128), ha132.sub ⟨rfl, rfl, trivial⟩, (by rw [hc131]; simpa using hc134), hH130, ht129⟩
  rintro ⟨D126, A128⟩ w127 ⟨hc138, hH130, ht129⟩ a ha132
  rw [if_neg hc138] at hm
  obtain ⟨_, hH130⟩ := Hp.open hH130
  replace h5 := Vb.tr h5 ht129
  replace hK := Tr.trans hK ht129
  replace hB := Nat.le_trans hB ht129.ex.size
  replace hA := ht129.new
  replace hH : Hp B A128 w127 (obC b7 [.int .i64 z33.1.1.from_, .int .i64 z33.1.1.to_] 69 :: yield_Y z33.1.2 :: obO D126 (.deferred (some [])) :: L) := hH130
  refine C_at (n := ⟨41, [{ target := .collected D126, args := #[] }], none⟩) (fun _ _ => rfl) ?_ ha132
  refine C_seq ?_
  refine C_region ?_
  refine V_y (Y_fieldAddrC (off2 := 0) Try.underlying69 rfl Try.sizeOf3 (by decide) rfl rfl) rfl rfl rfl ?_
  refine V_y (Y_load (Hp.cell (j := 0) hH (i := 0) rfl rfl) Try.isAgg3 rfl) rfl rfl rfl ?_
  refine V_y (Y_geq rfl rfl) rfl rfl rfl ?_
  refine V_to (fun _ _ => rfl) ?_
  obtain ⟨s140, ho139, hm⟩ := Option.bind_eq_some_iff.1 hm
  refine C_cutG (ι := (Nat → Prop)) (fun (A145 : (Nat → Prop)) => []) (fun (A145 : (Nat → Prop)) => fun w' => Hp B A145 w' (obC b7 [.int .i64 z33.1.1.from_, .int .i64 z33.1.1.to_] 69 :: yield_Y s140 :: obO D126 (.deferred (some [])) :: L) ∧ Tr B A128 w127 A145 w') ?_ ?_
  · have hr141 : Tr B A128 w127 A128 w127 := Tr.refl hA
    refine C_cond rfl (fun hc147 => ?_) (fun hc147 => ?_)
    · rw [if_pos hc147] at ho139
      refine C_region ?_
      refine V_y (Y_load h5.2.2 Try.isAgg119 rfl) rfl rfl rfl ?_
      refine V_y (Y_loadA (Hp.part (off := 0) (n := 2) (ds := [.int .i64 z33.1.1.from_, .int .i64 z33.1.1.to_]) hH (i := 0) rfl rfl) Try.isAgg69 Try.sizeOf69 rfl) rfl rfl rfl ?_
      obtain ⟨x148, hx148, ho139⟩ := Option.bind_eq_some_iff.1 ho139
      replace hH : Hp B A128 w127 (yield_Y z33.1.2 :: obC b7 [.int .i64 z33.1.1.from_, .int .i64 z33.1.1.to_] 69 :: obO D126 (.deferred (some [])) :: L) := Hp.front hH (i := 1) rfl
      refine V_callV rfl rfl rfl (yield_spec w127 _ _ z33.1.1 _ x148.1 x148.2 hB hA hK hH hx148) ?_
      rintro _ w149 ⟨rfl, A150, ht152, hH151⟩
      replace h5 := Vb.tr h5 ht152
      replace hK := Tr.trans hK ht152
      replace hr141 := Tr.trans hr141 ht152
      replace hB := Nat.le_trans hB ht152.ex.size
      replace hA := ht152.new
      replace hH : Hp B A150 w149 (yield_Y x148.2 :: obC b7 [.int .i64 z33.1.1.from_, .int .i64 z33.1.1.to_] 69 :: obO D126 (.deferred (some [])) :: L) := hH151
      obtain rfl := Option.some.inj ho139
      refine V_end (fun a ha153 => ?_)
      replace hH : Hp B A150 w149 (obO D126 (.deferred (some [])) :: yield_Y x148.2 :: obC b7 [.int .i64 z33.1.1.from_, .int .i64 z33.1.1.to_] 69 :: L) := Hp.front hH (i := 2) rfl
      replace hH : Hp B A150 w149 (yield_Y x148.2 :: obO D126 (.deferred (some [])) :: obC b7 [.int .i64 z33.1.1.from_, .int .i64 z33.1.1.to_] 69 :: L) := Hp.front hH (i := 1) rfl
      replace hH : Hp B A150 w149 (obC b7 [.int .i64 z33.1.1.from_, .int .i64 z33.1.1.to_] 69 :: yield_Y x148.2 :: obO D126 (.deferred (some [])) :: L) := Hp.front hH (i := 2) rfl
      exact ⟨A150, ha153.sub trivial, ⟨hH, hr141⟩⟩
    · rw [if_neg (nt hc147)] at ho139
      obtain rfl := Option.some.inj ho139
      refine C_skip (fun a ha154 => ?_)
      exact ⟨A128, ha154.sub trivial, ⟨hH, hr141⟩⟩
  rintro A145 w142 ⟨hH146, hk143⟩ a ha144
  replace hK := Tr.trans hK hk143
  replace hB := Nat.le_trans hB hk143.ex.size
  replace hA := hk143.new
  replace hH : Hp B A145 w142 (obC b7 [.int .i64 z33.1.1.from_, .int .i64 z33.1.1.to_] 69 :: yield_Y s140 :: obO D126 (.deferred (some [])) :: L) := hH146
  obtain rfl := Option.some.inj hm
  have h156 := Hp.obj hH (i := 2) (b := D126) rfl
  obtain ⟨hH157, ht158⟩ := Hp.put (.deferred none) hH (i := 2) (b := D126) rfl hB hA
  replace hK := Tr.trans hK ht158
  replace hB := Nat.le_trans hB ht158.ex.size
  replace hA := ht158.new
  replace hH : Hp B A145 (World.putObj w142 D126 (.deferred none)) (obC b7 [.int .i64 z33.1.1.from_, .int .i64 z33.1.1.to_] 69 :: yield_Y s140 :: obO D126 (.deferred none) :: L) := hH157
  replace hH : Hp B A145 (World.putObj w142 D126 (.deferred none)) (yield_Y s140 :: obC b7 [.int .i64 z33.1.1.from_, .int .i64 z33.1.1.to_] 69 :: obO D126 (.deferred none) :: L) := Hp.front hH (i := 1) rfl
  replace hH : Hp B A145 (World.putObj w142 D126 (.deferred none)) (yield_Y s140 :: obO D126 (.deferred none) :: L) := Hp.drop hH (i := 1) rfl
  replace hH : Hp B A145 (World.putObj w142 D126 (.deferred none)) (yield_Y s140 :: L) := Hp.drop hH (i := 1) rfl
  try simp only [↓inBlock_ret, ↓then_ret]
  exact normM (retM1 rfl h156 (Res.zero Try.results93) ⟨A145, rfl, hH, hK⟩ a ha144)

set_option maxRecDepth 4000 in
set_option maxHeartbeats 4000000 in
theorem cal_End_c (w : World) {A : Nat → Prop} (hA : ∀ b, w.heap.size ≤ b → A b) (c : cal_Calendar) (v_c0 : Value) (h_c0 : Sl A w v_c0 c.zone.changes) (v_c1 : Value) (h_c1 : Sl A w v_c1 c.week) (v_c2 : Value) (h_c2 : Sl A w v_c2 c.specials) (from_ : Int) (work : Int) {r : (Int × Int)} (hm : cal_End c from_ work = some r) : Ret Try.prog 39 #[.agg #[.int .i64 c.zone.offset, v_c0, v_c1, v_c2], .int .i64 from_, .int .i64 work] w fun v w' => v = .tuple #[.int .i64 r.1, .int .i64 r.2] ∧ Kp w w' := by
  unfold cal_End at hm
  refine enterM Try.func39 rfl Try.ntmps39 rfl ?_
  have hA0 := hA
  have hB := Nat.le_refl w.heap.size
  have hK : Tr w.heap.size A w A w := Tr.refl hA
  have hH : Hp w.heap.size A w [] := Hp.nil
  refine C_seq ?_
  refine C_region ?_
  refine V_box rfl rfl ?_
  intro b7 w9 h10
  have hk12 := h10.kp
  have h11 : El (α := cal_Calendar) A w9 b7 0 c := h10.el hA ⟨[.int .i64 c.zone.offset, v_c0], _, rfl, ⟨[.int .i64 c.zone.offset], _, rfl, rfl, ⟨_, rfl, h_c0⟩⟩, ⟨[v_c1], _, rfl, ⟨_, rfl, h_c1⟩, ⟨_, rfl, h_c2⟩⟩⟩
  have ht13 := Kp.tr hk12 hA hB
  replace hH := Hp.kp hH hk12
  replace h_c0 := Sl.tr h_c0 ht13
  replace h_c1 := Sl.tr h_c1 ht13
  replace h_c2 := Sl.tr h_c2 ht13
  replace hK := Tr.trans hK ht13
  replace hB := Nat.le_trans hB ht13.ex.size
  replace hA := ht13.new
  refine V_boxH (B := w.heap.size) hH rfl hB hA rfl ?_
  intro b14 w15 A16 hH17 ht18
  replace h_c0 := Sl.tr h_c0 ht18
  replace h_c1 := Sl.tr h_c1 ht18
  replace h_c2 := Sl.tr h_c2 ht18
  replace h11 := El.tr h11 ht18
  replace hK := Tr.trans hK ht18
  replace hB := Nat.le_trans hB ht18.ex.size
  replace hA := ht18.new
  replace hH : Hp w.heap.size A16 w15 (obC b14 [.int .i64 work] 3 :: []) := hH17
  refine V_allocH (B := w.heap.size) hH Try.zeroValue3 hB hA rfl ?_
  intro b19 w20 A21 hH22 ht23
  replace h_c0 := Sl.tr h_c0 ht23
  replace h_c1 := Sl.tr h_c1 ht23
  replace h_c2 := Sl.tr h_c2 ht23
  replace h11 := El.tr h11 ht23
  replace hK := Tr.trans hK ht23
  replace hB := Nat.le_trans hB ht23.ex.size
  replace hA := ht23.new
  replace hH : Hp w.heap.size A21 w20 (obC b19 [.int .i64 0] 3 :: obC b14 [.int .i64 work] 3 :: []) := hH22
  refine V_allocH (B := w.heap.size) hH Try.zeroValue25 hB hA rfl ?_
  intro b24 w25 A26 hH27 ht28
  replace h_c0 := Sl.tr h_c0 ht28
  replace h_c1 := Sl.tr h_c1 ht28
  replace h_c2 := Sl.tr h_c2 ht28
  replace h11 := El.tr h11 ht28
  replace hK := Tr.trans hK ht28
  replace hB := Nat.le_trans hB ht28.ex.size
  replace hA := ht28.new
  replace hH : Hp w.heap.size A26 w25 (obC b24 [.int .i64 0] 25 :: obC b19 [.int .i64 0] 3 :: obC b14 [.int .i64 work] 3 :: []) := hH27
  refine V_to (fun _ _ => rfl) ?_
  refine C_seq ?_
  refine C_seq ?_
  refine C_region_qt 6 Try_mixed (by kernel_rfl) ?_
  simp only [List.take, List.drop]
  obtain ⟨v29, v31, v33, h35, h30, h32, h34⟩ := El_cal_Calendar h11
  refine VQ_y (fun w' hw' => Y_loadA (At.kp h35 hw' h11.2.1) Try.isAgg48 Try.sizeOf48 rfl) rfl rfl rfl ?_
  obtain ⟨x36, hx36, hm⟩ := Option.bind_eq_some_iff.1 hm
  refine VQ_call (.int .i64 x36) Try.call64 rfl rfl rfl rfl (fun w' hw' => (cal_CheckCalendar_c w' (fun b hb => hA b (Nat.le_trans hw'.size hb)) c v29 (Sl.kp h30 hw') v31 (Sl.kp h32 hw') v33 (Sl.kp h34 hw') hx36).mono (fun _ _ h => ⟨h.1, Kp.trans hw' h.2⟩)) ?_
  refine VQ_y (fun w' hw' => Y_move rfl) rfl rfl rfl ?_
  refine VQ_call (.int .i64 (cal_moment from_)) Try.call58 rfl rfl rfl rfl (fun w' hw' => (cal_moment_c w' from_).mono (fun _ _ h => ⟨h.1, h.2 ▸ hw'⟩)) ?_
  refine VQ_y (fun w' hw' => Y_load ((World.cell?_of_block (hw'.block _ (World.block_lt_of_cell? _ _ (Hp.cell (j := 0) hH (i := 2) rfl rfl)))).trans (Hp.cell (j := 0) hH (i := 2) rfl rfl)) Try.isAgg3 rfl) rfl rfl rfl ?_
  refine VQ_call (.int .i64 (cal_workOf work)) Try.call72 rfl rfl rfl rfl (fun w' hw' => (cal_workOf_c w' work).mono (fun _ _ h => ⟨h.1, h.2 ▸ hw'⟩)) ?_
  refine VQ_tail (fun w37 hk38 => ?_)
  try simp only [List.take, List.drop]
  have ht39 := Kp.tr hk38 hA hB
  replace hH := Hp.kp hH hk38
  replace h11 := El.tr h11 ht39
  replace h30 := Sl.tr h30 ht39
  replace h32 := Sl.tr h32 ht39
  replace h34 := Sl.tr h34 ht39
  replace hK := Tr.trans hK ht39
  replace hB := Nat.le_trans hB ht39.ex.size
  replace hA := ht39.new
  refine V_buildSlice (l := ([x36, (cal_moment from_), (cal_workOf work)] : List Int)) (len := 3) Try.underlying118 Try.sizeOf25 Try.zeroValue25 rfl (by with_unfolding_all rfl) (by decide) (by decide) hA ⟨[.int .i64 x36], _, rfl, rfl, ⟨[.int .i64 (cal_moment from_)], _, rfl, rfl, ⟨[.int .i64 (cal_workOf work)], _, rfl, rfl, rfl⟩⟩⟩ rfl rfl ?_
  intro v40 w41 hk43 h42
  have ht44 := Kp.tr hk43 hA hB
  replace hH := Hp.kp hH hk43
  replace h11 := El.tr h11 ht44
  replace h30 := Sl.tr h30 ht44
  replace h32 := Sl.tr h32 ht44
  replace h34 := Sl.tr h34 ht44
  replace hK := Tr.trans hK ht44
  replace hB := Nat.le_trans hB ht44.ex.size
  replace hA := ht44.new
  obtain ⟨x45, hx45, hm⟩ := Option.bind_eq_some_iff.1 hm
  refine V_call Try.call57 rfl rfl rfl rfl (cmp_Or_api_Errno_c w41 ([x36, (cal_moment from_), (cal_workOf work)] : List Int) v40 h42 hx45) ?_
  rintro _ _ ⟨rfl, rfl⟩
  refine V_y (Y_assign rfl) rfl rfl rfl ?_
  refine V_to (fun _ _ => rfl) ?_
  refine C_seq ?_
  refine C_region ?_
  refine V_y (Y_move rfl) rfl rfl rfl ?_
  refine V_y (Y_neq rfl rfl) rfl rfl rfl ?_
  refine V_to (fun _ _ => rfl) ?_
  refine C_cond rfl (fun hc46 => ?_) (fun hc46 => ?_)
  · rw [if_pos hc46] at hm
    refine C_seq ?_
    refine C_region ?_
    refine V_y (Y_move rfl) rfl rfl rfl ?_
    refine V_storeC (off := 0) (ds := [.int .i64 0]) hH (i := 1) rfl Try.sizeOf3 rfl (Nat.le_of_ble_eq_true rfl) (by simp [Value.cells, Value.oneCell']) rfl hB hA rfl rfl ?_
    intro w47 hH48 ht49
    replace h11 := El.tr h11 ht49
    replace hK := Tr.trans hK ht49
    replace hB := Nat.le_trans hB ht49.ex.size
    replace hA := ht49.new
    replace hH : Hp w.heap.size A26 w47 (obC b24 [.int .i64 0] 25 :: obC b19 [.int .i64 0] 3 :: obC b14 [.int .i64 work] 3 :: []) := hH48
    refine V_storeC (off := 0) (ds := [.int .i64 x45]) hH (i := 0) rfl Try.sizeOf25 rfl (Nat.le_of_ble_eq_true rfl) (by simp [Value.cells, Value.oneCell']) rfl hB hA rfl rfl ?_
    intro w50 hH51 ht52
    replace h11 := El.tr h11 ht52
    replace hK := Tr.trans hK ht52
    replace hB := Nat.le_trans hB ht52.ex.size
    replace hA := ht52.new
    replace hH : Hp w.heap.size A26 w50 (obC b24 [.int .i64 x45] 25 :: obC b19 [.int .i64 0] 3 :: obC b14 [.int .i64 work] 3 :: []) := hH51
    refine V_to (fun _ _ => rfl) ?_
    obtain rfl := Option.some.inj hm
    refine C_ret ?_
    try simp only [↓inBlock_ret, ↓then_ret]
    exact retM rfl (Res.l2 Try.results39 (RL.cell rfl (loadVar_one (Hp.cell (j := 0) hH (i := 1) rfl rfl) Try.isAgg3)) (RL.cell rfl (loadVar_one (Hp.cell (j := 0) hH (i := 0) rfl rfl) Try.isAgg25))) ⟨rfl, hK.kp⟩
  · rw [if_neg (nt hc46)] at hm
    refine C_skip_to (fun _ _ => rfl) ?_
    refine C_seq ?_
    refine C_seq ?_
    refine C_region ?_
    refine V_y (Y_load (Hp.cell (j := 0) hH (i := 2) rfl rfl) Try.isAgg3 rfl) rfl rfl rfl ?_
    refine V_y (Y_eql rfl rfl) rfl rfl rfl ?_
    refine V_to (fun _ _ => rfl) ?_
    refine C_cond rfl (fun hc53 => ?_) (fun hc53 => ?_)
    · rw [if_pos hc53] at hm
      refine C_seq ?_
      refine C_region ?_
      refine V_y (Y_move rfl) rfl rfl rfl ?_
      refine V_storeC (off := 0) (ds := [.int .i64 from_]) hH (i := 1) rfl Try.sizeOf3 rfl (Nat.le_of_ble_eq_true rfl) (by simp [Value.cells, Value.oneCell']) rfl hB hA rfl rfl ?_
      intro w54 hH55 ht56
      replace h11 := El.tr h11 ht56
      replace hK := Tr.trans hK ht56
      replace hB := Nat.le_trans hB ht56.ex.size
      replace hA := ht56.new
      replace hH : Hp w.heap.size A26 w54 (obC b24 [.int .i64 0] 25 :: obC b19 [.int .i64 from_] 3 :: obC b14 [.int .i64 work] 3 :: []) := hH55
      refine V_storeC (off := 0) (ds := [.int .i64 0]) hH (i := 0) rfl Try.sizeOf25 rfl (Nat.le_of_ble_eq_true rfl) (by simp [Value.cells, Value.oneCell']) rfl hB hA rfl rfl ?_
      intro w57 hH58 ht59
      replace h11 := El.tr h11 ht59
      replace hK := Tr.trans hK ht59
      replace hB := Nat.le_trans hB ht59.ex.size
      replace hA := ht59.new
      replace hH : Hp w.heap.size A26 w57 (obC b24 [.int .i64 0] 25 :: obC b19 [.int .i64 from_] 3 :: obC b14 [.int .i64 work] 3 :: []) := hH58
      refine V_to (fun _ _ => rfl) ?_
      obtain rfl := Option.some.inj hm
      refine C_ret ?_
      try simp only [↓inBlock_ret, ↓then_ret]
      exact retM rfl (Res.l2 Try.results39 (RL.cell rfl (loadVar_one (Hp.cell (j := 0) hH (i := 1) rfl rfl) Try.isAgg3)) (RL.cell rfl (loadVar_one (Hp.cell (j := 0) hH (i := 0) rfl rfl) Try.isAgg25))) ⟨rfl, hK.kp⟩
    · rw [if_neg (nt hc53)] at hm
      refine C_skip_to (fun _ _ => rfl) ?_
      refine C_seq ?_
      refine C_seq ?_
      refine C_region ?_
      obtain ⟨v60, v62, v64, h66, h61, h63, h65⟩ := El_cal_Calendar h11
      refine V_y (Y_loadA h66 Try.isAgg48 Try.sizeOf48 rfl) rfl rfl rfl ?_
      refine V_y (Y_move rfl) rfl rfl rfl ?_
      obtain ⟨x67, hx67, hm⟩ := Option.bind_eq_some_iff.1 hm
      refine V_call Try.call65 rfl rfl rfl rfl (cal_Calendar_open_c w41 hA c v60 h61 v62 h63 v64 h65 from_ 3000001 hx67) ?_
      rintro _ w74 ⟨b68, b70, b72, rfl, h69, h71, h73, hk75⟩
      have ht76 := Kp.tr hk75 hA hB
      replace hH := Hp.kp hH hk75
      replace h11 := El.tr h11 ht76
      replace h61 := Sl.tr h61 ht76
      replace h63 := Sl.tr h63 ht76
      replace h65 := Sl.tr h65 ht76
      replace hK := Tr.trans hK ht76
      replace hB := Nat.le_trans hB ht76.ex.size
      replace hA := ht76.new
      refine V_to (fun _ _ => rfl) ?_
      have hH81 : Hp w.heap.size A26 w74 ((fun (s78 : (Int × Int × Int)) => obE (fun (i : Unit) => [obC b24 [.int .i64 s78.1] 25, obC b19 [.int .i64 s78.2.1] 3, obC b14 [.int .i64 s78.2.2] 3])) (0, 0, work) :: []) := Hp.pack (F := fun (i : Unit) => [obC b24 [.int .i64 (0, 0, work).1] 25, obC b19 [.int .i64 (0, 0, work).2.1] 3, obC b14 [.int .i64 (0, 0, work).2.2] 3]) () hH
      obtain ⟨z77, hz77, hm⟩ := Option.bind_eq_some_iff.1 hm
      refine C_cutN (ι := Nat × (Nat → Prop)) (fun i => ⟨44, [{ target := .collected i.1, args := #[] }], none⟩) (fun i => [(6, .pointer (some ⟨b19, 0, none⟩)), (7, .pointer (some ⟨b24, 0, none⟩))]) (fun i w' => z77.2 ≠ some 0 ∧ Hp w.heap.size i.2 w' ((fun (s78 : (Int × Int × Int)) => obE (fun (i : Unit) => [obC b24 [.int .i64 s78.1] 25, obC b19 [.int .i64 s78.2.1] 3, obC b14 [.int .i64 s78.2.2] 3])) z77.1 :: obO i.1 (.deferred (some [])) :: []) ∧ Tr w.heap.size A26 w74 i.2 w') ?_ ?_
      · refine C_block ?_
        refine C_rangeFunc (B := w.heap.size) (A := A26) (L := []) (X := cal_Span) (fun (x87 : cal_Span) => [.agg #[.int .i64 x87.from_, .int .i64 x87.to_]]) (fun (s78 : (Int × Int × Int)) => obE (fun (i : Unit) => [obC b24 [.int .i64 s78.1] 25, obC b19 [.int .i64 s78.2.1] 3, obC b14 [.int .i64 s78.2.2] 3])) (fun (x87 : cal_Span) (s79 : (Int × Int × Int)) => if (decide ((w64 (x87.to_ - x87.from_)) < s79.2.2)) = true then some ((s79.1, s79.2.1, w64 (s79.2.2 - (w64 (x87.to_ - x87.from_)))), none) else some ((0, w64 (x87.from_ + s79.2.2), s79.2.2), some 0)) (fun k => if k = 0 then .ret else .exit 0) (s0 := (0, 0, work)) (zf := z77) rfl rfl rfl (by decide) (fun _ => rfl) hB hA hH81 93 _ rfl Try.call93 ?_ ?_ ?_ ?_
        · intro Ys yv w1 A1 L1 h1 h2 h3 h4 h0 h5
          exact (cal_Calendar_open_1_c w1 h1 h2 (yieldB (fun (x87 : cal_Span) (s79 : (Int × Int × Int)) => if (decide ((w64 (x87.to_ - x87.from_)) < s79.2.2)) = true then some ((s79.1, s79.2.1, w64 (s79.2.2 - (w64 (x87.to_ - x87.from_)))), none) else some ((0, w64 (x87.from_ + s79.2.2), s79.2.2), some 0))) Ys yv h0 ((0, 0, work), none) h5 x67.1 b68 (El.tr h69 h3) x67.2.1 b70 (El.tr h71 h3) x67.2.2 b72 (El.tr h73 h3) h4 hz77).mono fun _ _ ⟨A3, _, hh, tt⟩ => ⟨A3, tt, hh⟩
        · intro l82 rc83 w84 A85 L86 x87 s79 s80 j88 hst89 hB90 hA91 ht92 hH93 h94
          obtain ⟨_, hH93⟩ := Hp.open hH93
          replace h69 := El.tr h69 ht92
          replace h71 := El.tr h71 ht92
          replace h73 := El.tr h73 ht92
          replace hK := Tr.trans hK ht92
          replace hB := Nat.le_trans hB ht92.ex.size
          replace hA := ht92.new
          replace hH : Hp w.heap.size A85 w84 (obC b24 [.int .i64 s79.1] 25 :: obC b19 [.int .i64 s79.2.1] 3 :: obC b14 [.int .i64 s79.2.2] 3 :: obO l82 (.loop rc83) :: L86) := hH93
          have hr95 : Tr w.heap.size A85 w84 A85 w84 := Tr.refl hA
          show C _ _ _ _ _ _
          refine C_region ?_
          refine V_alloc Try.zeroValue69 rfl ?_
          intro b97 w98 h99
          refine V_storeNew h99 Try.sizeOf69 rfl rfl rfl rfl (by exact (List.forall_mem_cons.2 ⟨rfl, (List.forall_mem_cons.2 ⟨rfl, (fun _ h => nomatch h)⟩)⟩)) ?_
          intro w100 h101
          have hk103 := h101.kp
          have h102 : El (α := cal_Span) A85 w100 b97 0 x87 := h101.el hA ⟨[.int .i64 x87.from_], _, rfl, rfl, rfl⟩
          have ht104 := Kp.tr hk103 hA hB
          replace hH := Hp.kp hH hk103
          replace h69 := El.tr h69 ht104
          replace h71 := El.tr h71 ht104
          replace h73 := El.tr h73 ht104
          replace hK := Tr.trans hK ht104
          replace hr95 := Tr.trans hr95 ht104
          replace hB := Nat.le_trans hB ht104.ex.size
          replace hA := ht104.new
          refine V_end (fun a ha105 => ?_)
          refine begin_at hH (i := 3) rfl hst89 hB hA (fun w106 hH107 ht108 => ?_) ha105
          replace h102 := El.tr h102 ht108
          replace hK := Tr.trans hK ht108
          replace hr95 := Tr.trans hr95 ht108
          replace hB := Nat.le_trans hB ht108.ex.size
          replace hA := ht108.new
          replace hH : Hp w.heap.size A85 w106 (obC b24 [.int .i64 s79.1] 25 :: obC b19 [.int .i64 s79.2.1] 3 :: obC b14 [.int .i64 s79.2.2] 3 :: obO l82 (.loop { rc83 with state := .busy }) :: L86) := hH107
          refine C_block ?_
          refine C_seq ?_
          refine C_region ?_
          have h109 := El_cal_Span_1 h102
          refine V_y (Y_fieldAddr Try.underlying69 rfl Try.sizeOf3 (by decide) rfl) rfl rfl rfl ?_
          refine V_y (Y_load (El.int h109) Try.isAgg3 rfl) rfl rfl rfl ?_
          have h110 := El_cal_Span_0 h102
          refine V_y (Y_fieldAddr Try.underlying69 rfl Try.sizeOf3 (by decide) rfl) rfl rfl rfl ?_
          refine V_y (Y_load (El.int h110) Try.isAgg3 rfl) rfl rfl rfl ?_
          refine V_y (Y_subI rfl rfl) rfl rfl rfl ?_
          refine V_y (Y_assign rfl) rfl rfl rfl ?_
          refine V_to (fun _ _ => rfl) ?_
          refine C_seq ?_
          refine C_region ?_
          refine V_y (Y_load (Hp.cell (j := 0) hH (i := 2) rfl rfl) Try.isAgg3 rfl) rfl rfl rfl ?_
          refine V_y (Y_move rfl) rfl rfl rfl ?_
          refine V_y (Y_gtr rfl rfl) rfl rfl rfl ?_
          refine V_to (fun _ _ => rfl) ?_
          refine C_cond rfl (fun hc111 => ?_) (fun hc111 => ?_)
          · rw [if_pos hc111] at h94
            refine C_region ?_
            refine V_y (Y_load (Hp.cell (j := 0) hH (i := 2) rfl rfl) Try.isAgg3 rfl) rfl rfl rfl ?_
            refine V_y (Y_move rfl) rfl rfl rfl ?_
            refine V_y (Y_subI rfl rfl) rfl rfl rfl ?_
            refine V_storeC (off := 0) (ds := [.int .i64 (w64 (s79.2.2 - (w64 (x87.to_ - x87.from_))))]) hH (i := 2) rfl Try.sizeOf3 rfl (Nat.le_of_ble_eq_true rfl) (by simp [Value.cells, Value.oneCell']) rfl hB hA rfl rfl ?_
            intro w112 hH113 ht114
            replace h102 := El.tr h102 ht114
            replace hK := Tr.trans hK ht114
            replace hr95 := Tr.trans hr95 ht114
            replace hB := Nat.le_trans hB ht114.ex.size
            replace hA := ht114.new
            replace hH : Hp w.heap.size A85 w112 (obC b24 [.int .i64 s79.1] 25 :: obC b19 [.int .i64 s79.2.1] 3 :: obC b14 [.int .i64 (w64 (s79.2.2 - (w64 (x87.to_ - x87.from_))))] 3 :: obO l82 (.loop { rc83 with state := .busy }) :: L86) := hH113
            obtain ⟨rfl, rfl⟩ := Prod.mk.inj (Option.some.inj h94)
            refine V_end (fun a ha115 => ?_)
            exact ⟨rfl, A85, hr95, Hp.pack (F := fun (i : Unit) => [obC b24 [.int .i64 (s79.1, s79.2.1, w64 (s79.2.2 - (w64 (x87.to_ - x87.from_)))).1] 25, obC b19 [.int .i64 (s79.1, s79.2.1, w64 (s79.2.2 - (w64 (x87.to_ - x87.from_)))).2.1] 3, obC b14 [.int .i64 (s79.1, s79.2.1, w64 (s79.2.2 - (w64 (x87.to_ - x87.from_)))).2.2] 3]) () hH⟩
          · rw [if_neg (nt hc111)] at h94
            refine C_seq ?_
            refine C_region ?_
            have h116 := El_cal_Span_0 h102
            refine V_y (Y_fieldAddr Try.underlying69 rfl Try.sizeOf3 (by decide) rfl) rfl rfl rfl ?_
            refine V_y (Y_load (El.int h116) Try.isAgg3 rfl) rfl rfl rfl ?_
            refine V_y (Y_load (Hp.cell (j := 0) hH (i := 2) rfl rfl) Try.isAgg3 rfl) rfl rfl rfl ?_
            refine V_y (Y_addI rfl rfl) rfl rfl rfl ?_
            refine V_storeC (off := 0) (ds := [.int .i64 (w64 (x87.from_ + s79.2.2))]) hH (i := 1) rfl Try.sizeOf3 rfl (Nat.le_of_ble_eq_true rfl) (by simp [Value.cells, Value.oneCell']) rfl hB hA rfl rfl ?_
            intro w117 hH118 ht119
            replace h102 := El.tr h102 ht119
            replace h116 := El.tr h116 ht119
            replace hK := Tr.trans hK ht119
            replace hr95 := Tr.trans hr95 ht119
            replace hB := Nat.le_trans hB ht119.ex.size
            replace hA := ht119.new
            replace hH : Hp w.heap.size A85 w117 (obC b24 [.int .i64 s79.1] 25 :: obC b19 [.int .i64 (w64 (x87.from_ + s79.2.2))] 3 :: obC b14 [.int .i64 s79.2.2] 3 :: obO l82 (.loop { rc83 with state := .busy }) :: L86) := hH118
            refine V_storeC (off := 0) (ds := [.int .i64 0]) hH (i := 0) rfl Try.sizeOf25 rfl (Nat.le_of_ble_eq_true rfl) (by simp [Value.cells, Value.oneCell']) rfl hB hA rfl rfl ?_
            intro w120 hH121 ht122
            replace h102 := El.tr h102 ht122
            replace h116 := El.tr h116 ht122
            replace hK := Tr.trans hK ht122
            replace hr95 := Tr.trans hr95 ht122
            replace hB := Nat.le_trans hB ht122.ex.size
            replace hA := ht122.new
            replace hH : Hp w.heap.size A85 w120 (obC b24 [.int .i64 0] 25 :: obC b19 [.int .i64 (w64 (x87.from_ + s79.2.2))] 3 :: obC b14 [.int .i64 s79.2.2] 3 :: obO l82 (.loop { rc83 with state := .busy }) :: L86) := hH121
            refine V_to (fun _ _ => rfl) ?_
            obtain ⟨rfl, rfl⟩ := Prod.mk.inj (Option.some.inj h94)
            refine C_ret (fun a ha123 => ?_)
            exact ⟨rfl, A85, hr95, Hp.pack (F := fun (i : Unit) => [obC b24 [.int .i64 (0, w64 (x87.from_ + s79.2.2), s79.2.2).1] 25, obC b19 [.int .i64 (0, w64 (x87.from_ + s79.2.2), s79.2.2).2.1] 3, obC b14 [.int .i64 (0, w64 (x87.from_ + s79.2.2), s79.2.2).2.2] 3]) () hH⟩
        · intro hc129 D124 w125 A126 ht127 hH128 a ha130
          exact ⟨(D124, A126), ha130.sub ⟨rfl, rfl, trivial⟩, (by rw [hc129]; simp), hH128, ht127⟩
        · intro k131 hc129 D124 w125 A126 ht127 hH128
          by_cases hc132 : k131 = 0
          · subst hc132
            rw [if_pos hc129] at hm
            obtain ⟨_, hH128⟩ := Hp.open hH128
            replace hK := Tr.trans hK ht127
            replace hB := Nat.le_trans hB ht127.ex.size
            replace hA := ht127.new
            replace hH : Hp w.heap.size A126 w125 (obC b24 [.int .i64 z77.1.1] 25 :: obC b19 [.int .i64 z77.1.2.1] 3 :: obC b14 [.int .i64 z77.1.2.2] 3 :: obO D124 (.deferred (some [])) :: []) := hH128
            show C _ _ .ret _ _ _
            obtain rfl := Option.some.inj hm
            have h133 := Hp.obj hH (i := 3) (b := D124) rfl
            obtain ⟨hH134, ht135⟩ := Hp.put (.deferred none) hH (i := 3) (b := D124) rfl hB hA
            replace hK := Tr.trans hK ht135
            replace hB := Nat.le_trans hB ht135.ex.size
            replace hA := ht135.new
            replace hH : Hp w.heap.size A126 (World.putObj w125 D124 (.deferred none)) (obC b24 [.int .i64 z77.1.1] 25 :: obC b19 [.int .i64 z77.1.2.1] 3 :: obC b14 [.int .i64 z77.1.2.2] 3 :: obO D124 (.deferred none) :: []) := hH134
            refine C_ret ?_
            try simp only [↓inBlock_ret, ↓then_ret]
            exact retM1 rfl h133 (Res.l2 Try.results39 (RL.cell rfl (loadVar_one (Hp.cell (j := 0) hH (i := 1) rfl rfl) Try.isAgg3)) (RL.cell rfl (loadVar_one (Hp.cell (j := 0) hH (i := 0) rfl rfl) Try.isAgg25))) ⟨rfl, hK.kp⟩
          · show C _ _ (if k131 = 0 then _ else _) _ _ _
            rw [if_neg hc132]
            refine C_exit fun a ha130 => ?_
            show Exit.inBlock _ _ _ _ _
            rw [Exit.inBlock, if_pos rfl]
            exact ⟨(D124, A126), ha130.sub ⟨rfl, rfl, trivial⟩, (by rw [hc129]; simpa using hc132), hH128, ht127⟩
      rintro ⟨D124, A126⟩ w125 ⟨hc136, hH128, ht127⟩ a ha130
      rw [if_neg hc136] at hm
      obtain ⟨_, hH128⟩ := Hp.open hH128
      replace hK := Tr.trans hK ht127
      replace hB := Nat.le_trans hB ht127.ex.size
      replace hA := ht127.new
      replace hH : Hp w.heap.size A126 w125 (obC b24 [.int .i64 z77.1.1] 25 :: obC b19 [.int .i64 z77.1.2.1] 3 :: obC b14 [.int .i64 z77.1.2.2] 3 :: obO D124 (.deferred (some [])) :: []) := hH128
      refine C_at (n := ⟨44, [{ target := .collected D124, args := #[] }], none⟩) (fun _ _ => rfl) ?_ ha130
      refine C_seq ?_
      refine C_region ?_
      refine V_storeC (off := 0) (ds := [.int .i64 0]) hH (i := 1) rfl Try.sizeOf3 rfl (Nat.le_of_ble_eq_true rfl) (by simp [Value.cells, Value.oneCell']) rfl hB hA rfl rfl ?_
      intro w137 hH138 ht139
      replace hK := Tr.trans hK ht139
      replace hB := Nat.le_trans hB ht139.ex.size
      replace hA := ht139.new
      replace hH : Hp w.heap.size A126 w137 (obC b24 [.int .i64 z77.1.1] 25 :: obC b19 [.int .i64 0] 3 :: obC b14 [.int .i64 z77.1.2.2] 3 :: obO D124 (.deferred (some [])) :: []) := hH138
      refine V_storeC (off := 0) (ds := [.int .i64 7]) hH (i := 0) rfl Try.sizeOf25 rfl (Nat.le_of_ble_eq_true rfl) (by simp [Value.cells, Value.oneCell']) rfl hB hA rfl rfl ?_
      intro w140 hH141 ht142
      replace hK := Tr.trans hK ht142
      replace hB := Nat.le_trans hB ht142.ex.size
      replace hA := ht142.new
      replace hH : Hp w.heap.size A126 w140 (obC b24 [.int .i64 7] 25 :: obC b19 [.int .i64 0] 3 :: obC b14 [.int .i64 z77.1.2.2] 3 :: obO D124 (.deferred (some [])) :: []) := hH141
      refine V_to (fun _ _ => rfl) ?_
      obtain rfl := Option.some.inj hm
      have h143 := Hp.obj hH (i := 3) (b := D124) rfl
      obtain ⟨hH144, ht145⟩ := Hp.put (.deferred none) hH (i := 3) (b := D124) rfl hB hA
      replace hK := Tr.trans hK ht145
      replace hB := Nat.le_trans hB ht145.ex.size
      replace hA := ht145.new
      replace hH : Hp w.heap.size A126 (World.putObj w140 D124 (.deferred none)) (obC b24 [.int .i64 7] 25 :: obC b19 [.int .i64 0] 3 :: obC b14 [.int .i64 z77.1.2.2] 3 :: obO D124 (.deferred none) :: []) := hH144
      refine C_ret ?_
      try simp only [↓inBlock_ret, ↓then_ret]
      exact retM1 rfl h143 (Res.l2 Try.results39 (RL.cell rfl (loadVar_one (Hp.cell (j := 0) hH (i := 1) rfl rfl) Try.isAgg3)) (RL.cell rfl (loadVar_one (Hp.cell (j := 0) hH (i := 0) rfl rfl) Try.isAgg25))) ⟨rfl, hK.kp⟩

set_option maxRecDepth 4000 in
set_option maxHeartbeats 4000000 in
theorem cal_Add_c (w : World) {A : Nat → Prop} (hA : ∀ b, w.heap.size ≤ b → A b) (c : cal_Calendar) (v_c0 : Value) (h_c0 : Sl A w v_c0 c.zone.changes) (v_c1 : Value) (h_c1 : Sl A w v_c1 c.week) (v_c2 : Value) (h_c2 : Sl A w v_c2 c.specials) (from_ : Int) (work : Int) {r : (Int × Int)} (hm : cal_Add c from_ work = some r) : Ret Try.prog 40 #[.agg #[.int .i64 c.zone.offset, v_c0, v_c1, v_c2], .int .i64 from_, .int .i64 work] w fun v w' => v = .tuple #[.int .i64 r.1, .int .i64 r.2] ∧ Kp w w' := by
  unfold cal_Add at hm
  refine enterM Try.func40 rfl Try.ntmps40 rfl ?_
  have hA0 := hA
  have hB := Nat.le_refl w.heap.size
  have hK : Tr w.heap.size A w A w := Tr.refl hA
  have hH : Hp w.heap.size A w [] := Hp.nil
  refine C_seq ?_
  refine C_region ?_
  refine V_box rfl rfl ?_
  intro b7 w9 h10
  have hk12 := h10.kp
  have h11 : El (α := cal_Calendar) A w9 b7 0 c := h10.el hA ⟨[.int .i64 c.zone.offset, v_c0], _, rfl, ⟨[.int .i64 c.zone.offset], _, rfl, rfl, ⟨_, rfl, h_c0⟩⟩, ⟨[v_c1], _, rfl, ⟨_, rfl, h_c1⟩, ⟨_, rfl, h_c2⟩⟩⟩
  have ht13 := Kp.tr hk12 hA hB
  replace hH := Hp.kp hH hk12
  replace h_c0 := Sl.tr h_c0 ht13
  replace h_c1 := Sl.tr h_c1 ht13
  replace h_c2 := Sl.tr h_c2 ht13
  replace hK := Tr.trans hK ht13
  replace hB := Nat.le_trans hB ht13.ex.size
  replace hA := ht13.new
  refine V_boxH (B := w.heap.size) hH rfl hB hA rfl ?_
  intro b14 w15 A16 hH17 ht18
  replace h_c0 := Sl.tr h_c0 ht18
  replace h_c1 := Sl.tr h_c1 ht18
  replace h_c2 := Sl.tr h_c2 ht18
  replace h11 := El.tr h11 ht18
  replace hK := Tr.trans hK ht18
  replace hB := Nat.le_trans hB ht18.ex.size
  replace hA := ht18.new
  replace hH : Hp w.heap.size A16 w15 (obC b14 [.int .i64 work] 3 :: []) := hH17
  refine V_allocH (B := w.heap.size) hH Try.zeroValue3 hB hA rfl ?_
  intro b19 w20 A21 hH22 ht23
  replace h_c0 := Sl.tr h_c0 ht23
  replace h_c1 := Sl.tr h_c1 ht23
  replace h_c2 := Sl.tr h_c2 ht23
  replace h11 := El.tr h11 ht23
  replace hK := Tr.trans hK ht23
  replace hB := Nat.le_trans hB ht23.ex.size
  replace hA := ht23.new
  replace hH : Hp w.heap.size A21 w20 (obC b19 [.int .i64 0] 3 :: obC b14 [.int .i64 work] 3 :: []) := hH22
  refine V_allocH (B := w.heap.size) hH Try.zeroValue25 hB hA rfl ?_
  intro b24 w25 A26 hH27 ht28
  replace h_c0 := Sl.tr h_c0 ht28
  replace h_c1 := Sl.tr h_c1 ht28
  replace h_c2 := Sl.tr h_c2 ht28
  replace h11 := El.tr h11 ht28
  replace hK := Tr.trans hK ht28
  replace hB := Nat.le_trans hB ht28.ex.size
  replace hA := ht28.new
  replace hH : Hp w.heap.size A26 w25 (obC b24 [.int .i64 0] 25 :: obC b19 [.int .i64 0] 3 :: obC b14 [.int .i64 work] 3 :: []) := hH27
  refine V_to (fun _ _ => rfl) ?_
  refine C_seq ?_
  refine C_seq ?_
  refine C_region_qt 6 Try_mixed (by kernel_rfl) ?_
  simp only [List.take, List.drop]
  obtain ⟨v29, v31, v33, h35, h30, h32, h34⟩ := El_cal_Calendar h11
  refine VQ_y (fun w' hw' => Y_loadA (At.kp h35 hw' h11.2.1) Try.isAgg48 Try.sizeOf48 rfl) rfl rfl rfl ?_
  obtain ⟨x36, hx36, hm⟩ := Option.bind_eq_some_iff.1 hm
  refine VQ_call (.int .i64 x36) Try.call64 rfl rfl rfl rfl (fun w' hw' => (cal_CheckCalendar_c w' (fun b hb => hA b (Nat.le_trans hw'.size hb)) c v29 (Sl.kp h30 hw') v31 (Sl.kp h32 hw') v33 (Sl.kp h34 hw') hx36).mono (fun _ _ h => ⟨h.1, Kp.trans hw' h.2⟩)) ?_
  refine VQ_y (fun w' hw' => Y_move rfl) rfl rfl rfl ?_
  refine VQ_call (.int .i64 (cal_moment from_)) Try.call58 rfl rfl rfl rfl (fun w' hw' => (cal_moment_c w' from_).mono (fun _ _ h => ⟨h.1, h.2 ▸ hw'⟩)) ?_
  refine VQ_y (fun w' hw' => Y_load ((World.cell?_of_block (hw'.block _ (World.block_lt_of_cell? _ _ (Hp.cell (j := 0) hH (i := 2) rfl rfl)))).trans (Hp.cell (j := 0) hH (i := 2) rfl rfl)) Try.isAgg3 rfl) rfl rfl rfl ?_
  refine VQ_call (.int .i64 (cal_workOf work)) Try.call72 rfl rfl rfl rfl (fun w' hw' => (cal_workOf_c w' work).mono (fun _ _ h => ⟨h.1, h.2 ▸ hw'⟩)) ?_
  refine VQ_tail (fun w37 hk38 => ?_)
  try simp only [List.take, List.drop]
  have ht39 := Kp.tr hk38 hA hB
  replace hH := Hp.kp hH hk38
  replace h11 := El.tr h11 ht39
  replace h30 := Sl.tr h30 ht39
  replace h32 := Sl.tr h32 ht39
  replace h34 := Sl.tr h34 ht39
  replace hK := Tr.trans hK ht39
  replace hB := Nat.le_trans hB ht39.ex.size
  replace hA := ht39.new
  refine V_buildSlice (l := ([x36, (cal_moment from_), (cal_workOf work)] : List Int)) (len := 3) Try.underlying118 Try.sizeOf25 Try.zeroValue25 rfl (by with_unfolding_all rfl) (by decide) (by decide) hA ⟨[.int .i64 x36], _, rfl, rfl, ⟨[.int .i64 (cal_moment from_)], _, rfl, rfl, ⟨[.int .i64 (cal_workOf work)], _, rfl, rfl, rfl⟩⟩⟩ rfl rfl ?_
  intro v40 w41 hk43 h42
  have ht44 := Kp.tr hk43 hA hB
  replace hH := Hp.kp hH hk43
  replace h11 := El.tr h11 ht44
  replace h30 := Sl.tr h30 ht44
  replace h32 := Sl.tr h32 ht44
  replace h34 := Sl.tr h34 ht44
  replace hK := Tr.trans hK ht44
  replace hB := Nat.le_trans hB ht44.ex.size
  replace hA := ht44.new
  obtain ⟨x45, hx45, hm⟩ := Option.bind_eq_some_iff.1 hm
  refine V_call Try.call57 rfl rfl rfl rfl (cmp_Or_api_Errno_c w41 ([x36, (cal_moment from_), (cal_workOf work)] : List Int) v40 h42 hx45) ?_
  rintro _ _ ⟨rfl, rfl⟩
  refine V_y (Y_assign rfl) rfl rfl rfl ?_
  refine V_to (fun _ _ => rfl) ?_
  refine C_seq ?_
  refine C_region ?_
  refine V_y (Y_move rfl) rfl rfl rfl ?_
  refine V_y (Y_neq rfl rfl) rfl rfl rfl ?_
  refine V_to (fun _ _ => rfl) ?_
  refine C_cond rfl (fun hc46 => ?_) (fun hc46 => ?_)
  · rw [if_pos hc46] at hm
    refine C_seq ?_
    refine C_region ?_
    refine V_y (Y_move rfl) rfl rfl rfl ?_
    refine V_storeC (off := 0) (ds := [.int .i64 0]) hH (i := 1) rfl Try.sizeOf3 rfl (Nat.le_of_ble_eq_true rfl) (by simp [Value.cells, Value.oneCell']) rfl hB hA rfl rfl ?_
    intro w47 hH48 ht49
    replace h11 := El.tr h11 ht49
    replace hK := Tr.trans hK ht49
    replace hB := Nat.le_trans hB ht49.ex.size
    replace hA := ht49.new
    replace hH : Hp w.heap.size A26 w47 (obC b24 [.int .i64 0] 25 :: obC b19 [.int .i64 0] 3 :: obC b14 [.int .i64 work] 3 :: []) := hH48
    refine V_storeC (off := 0) (ds := [.int .i64 x45]) hH (i := 0) rfl Try.sizeOf25 rfl (Nat.le_of_ble_eq_true rfl) (by simp [Value.cells, Value.oneCell']) rfl hB hA rfl rfl ?_
    intro w50 hH51 ht52
    replace h11 := El.tr h11 ht52
    replace hK := Tr.trans hK ht52
    replace hB := Nat.le_trans hB ht52.ex.size
    replace hA := ht52.new
    replace hH : Hp w.heap.size A26 w50 (obC b24 [.int .i64 x45] 25 :: obC b19 [.int .i64 0] 3 :: obC b14 [.int .i64 work] 3 :: []) := hH51
    refine V_to (fun _ _ => rfl) ?_
    obtain rfl := Option.some.inj hm
    refine C_ret ?_
    try simp only [↓inBlock_ret, ↓then_ret]
    exact retM rfl (Res.l2 Try.results40 (RL.cell rfl (loadVar_one (Hp.cell (j := 0) hH (i := 1) rfl rfl) Try.isAgg3)) (RL.cell rfl (loadVar_one (Hp.cell (j := 0) hH (i := 0) rfl rfl) Try.isAgg25))) ⟨rfl, hK.kp⟩
  · rw [if_neg (nt hc46)] at hm
    refine C_skip_to (fun _ _ => rfl) ?_
    refine C_seq ?_
    refine C_seq ?_
    refine C_region ?_
    obtain ⟨v53, v55, v57, h59, h54, h56, h58⟩ := El_cal_Calendar h11
    refine V_y (Y_loadA h59 Try.isAgg48 Try.sizeOf48 rfl) rfl rfl rfl ?_
    refine V_y (Y_move rfl) rfl rfl rfl ?_
    obtain ⟨x60, hx60, hm⟩ := Option.bind_eq_some_iff.1 hm
    refine V_call Try.call65 rfl rfl rfl rfl (cal_Calendar_open_c w41 hA c v53 h54 v55 h56 v57 h58 from_ 3000001 hx60) ?_
    rintro _ w67 ⟨b61, b63, b65, rfl, h62, h64, h66, hk68⟩
    have ht69 := Kp.tr hk68 hA hB
    replace hH := Hp.kp hH hk68
    replace h11 := El.tr h11 ht69
    replace h54 := Sl.tr h54 ht69
    replace h56 := Sl.tr h56 ht69
    replace h58 := Sl.tr h58 ht69
    replace hK := Tr.trans hK ht69
    replace hB := Nat.le_trans hB ht69.ex.size
    replace hA := ht69.new
    refine V_to (fun _ _ => rfl) ?_
    have hH74 : Hp w.heap.size A26 w67 ((fun (s71 : (Int × Int × Int)) => obE (fun (i : Unit) => [obC b24 [.int .i64 s71.1] 25, obC b19 [.int .i64 s71.2.1] 3, obC b14 [.int .i64 s71.2.2] 3])) (0, 0, work) :: []) := Hp.pack (F := fun (i : Unit) => [obC b24 [.int .i64 (0, 0, work).1] 25, obC b19 [.int .i64 (0, 0, work).2.1] 3, obC b14 [.int .i64 (0, 0, work).2.2] 3]) () hH
    obtain ⟨z70, hz70, hm⟩ := Option.bind_eq_some_iff.1 hm
    refine C_cutN (ι := Nat × (Nat → Prop)) (fun i => ⟨41, [{ target := .collected i.1, args := #[] }], none⟩) (fun i => [(6, .pointer (some ⟨b19, 0, none⟩)), (7, .pointer (some ⟨b24, 0, none⟩))]) (fun i w' => z70.2 ≠ some 0 ∧ Hp w.heap.size i.2 w' ((fun (s71 : (Int × Int × Int)) => obE (fun (i : Unit) => [obC b24 [.int .i64 s71.1] 25, obC b19 [.int .i64 s71.2.1] 3, obC b14 [.int .i64 s71.2.2] 3])) z70.1 :: obO i.1 (.deferred (some [])) :: []) ∧ Tr w.heap.size A26 w67 i.2 w') ?_ ?_
    · refine C_block ?_
      refine C_rangeFunc (B := w.heap.size) (A := A26) (L := []) (X := cal_Span) (fun (x80 : cal_Span) => [.agg #[.int .i64 x80.from_, .int .i64 x80.to_]]) (fun (s71 : (Int × Int × Int)) => obE (fun (i : Unit) => [obC b24 [.int .i64 s71.1] 25, obC b19 [.int .i64 s71.2.1] 3, obC b14 [.int .i64 s71.2.2] 3])) (fun (x80 : cal_Span) (s72 : (Int × Int × Int)) => if (decide ((w64 (x80.to_ - x80.from_)) ≤ s72.2.2)) = true then some ((s72.1, s72.2.1, w64 (s72.2.2 - (w64 (x80.to_ - x80.from_)))), none) else some ((0, w64 (x80.from_ + s72.2.2), s72.2.2), some 0)) (fun k => if k = 0 then .ret else .exit 0) (s0 := (0, 0, work)) (zf := z70) rfl rfl rfl (by decide) (fun _ => rfl) hB hA hH74 93 _ rfl Try.call93 ?_ ?_ ?_ ?_
      · intro Ys yv w1 A1 L1 h1 h2 h3 h4 h0 h5
        exact (cal_Calendar_open_1_c w1 h1 h2 (yieldB (fun (x80 : cal_Span) (s72 : (Int × Int × Int)) => if (decide ((w64 (x80.to_ - x80.from_)) ≤ s72.2.2)) = true then some ((s72.1, s72.2.1, w64 (s72.2.2 - (w64 (x80.to_ - x80.from_)))), none) else some ((0, w64 (x80.from_ + s72.2.2), s72.2.2), some 0))) Ys yv h0 ((0, 0, work), none) h5 x60.1 b61 (El.tr h62 h3) x60.2.1 b63 (El.tr h64 h3) x60.2.2 b65 (El.tr h66 h3) h4 hz70).mono fun _ _ ⟨A3, _, hh, tt⟩ => ⟨A3, tt, hh⟩
      · intro l75 rc76 w77 A78 L79 x80 s72 s73 j81 hst82 hB83 hA84 ht85 hH86 h87
        obtain ⟨_, hH86⟩ := Hp.open hH86
        replace h62 := El.tr h62 ht85
        replace h64 := El.tr h64 ht85
        replace h66 := El.tr h66 ht85
        replace hK := Tr.trans hK ht85
        replace hB := Nat.le_trans hB ht85.ex.size
        replace hA := ht85.new
        replace hH : Hp w.heap.size A78 w77 (obC b24 [.int .i64 s72.1] 25 :: obC b19 [.int .i64 s72.2.1] 3 :: obC b14 [.int .i64 s72.2.2] 3 :: obO l75 (.loop rc76) :: L79) := hH86
        have hr88 : Tr w.heap.size A78 w77 A78 w77 := Tr.refl hA
        show C _ _ _ _ _ _
        refine C_region ?_
        refine V_alloc Try.zeroValue69 rfl ?_
        intro b90 w91 h92
        refine V_storeNew h92 Try.sizeOf69 rfl rfl rfl rfl (by exact (List.forall_mem_cons.2 ⟨rfl, (List.forall_mem_cons.2 ⟨rfl, (fun _ h => nomatch h)⟩)⟩)) ?_
        intro w93 h94
        have hk96 := h94.kp
        have h95 : El (α := cal_Span) A78 w93 b90 0 x80 := h94.el hA ⟨[.int .i64 x80.from_], _, rfl, rfl, rfl⟩
        have ht97 := Kp.tr hk96 hA hB
        replace hH := Hp.kp hH hk96
        replace h62 := El.tr h62 ht97
        replace h64 := El.tr h64 ht97
        replace h66 := El.tr h66 ht97
        replace hK := Tr.trans hK ht97
        replace hr88 := Tr.trans hr88 ht97
        replace hB := Nat.le_trans hB ht97.ex.size
        replace hA := ht97.new
        refine V_end (fun a ha98 => ?_)
        refine begin_at hH (i := 3) rfl hst82 hB hA (fun w99 hH100 ht101 => ?_) ha98
        replace h95 := El.tr h95 ht101
        replace hK := Tr.trans hK ht101
        replace hr88 := Tr.trans hr88 ht101
        replace hB := Nat.le_trans hB ht101.ex.size
        replace hA := ht101.new
        replace hH : Hp w.heap.size A78 w99 (obC b24 [.int .i64 s72.1] 25 :: obC b19 [.int .i64 s72.2.1] 3 :: obC b14 [.int .i64 s72.2.2] 3 :: obO l75 (.loop { rc76 with state := .busy }) :: L79) := hH100
        refine C_block ?_
        refine C_seq ?_
        refine C_region ?_
        have h102 := El_cal_Span_1 h95
        refine V_y (Y_fieldAddr Try.underlying69 rfl Try.sizeOf3 (by decide) rfl) rfl rfl rfl ?_
        refine V_y (Y_load (El.int h102) Try.isAgg3 rfl) rfl rfl rfl ?_
        have h103 := El_cal_Span_0 h95
        refine V_y (Y_fieldAddr Try.underlying69 rfl Try.sizeOf3 (by decide) rfl) rfl rfl rfl ?_
        refine V_y (Y_load (El.int h103) Try.isAgg3 rfl) rfl rfl rfl ?_
        refine V_y (Y_subI rfl rfl) rfl rfl rfl ?_
        refine V_y (Y_assign rfl) rfl rfl rfl ?_
        refine V_to (fun _ _ => rfl) ?_
        refine C_seq ?_
        refine C_region ?_
        refine V_y (Y_load (Hp.cell (j := 0) hH (i := 2) rfl rfl) Try.isAgg3 rfl) rfl rfl rfl ?_
        refine V_y (Y_move rfl) rfl rfl rfl ?_
        refine V_y (Y_geq rfl rfl) rfl rfl rfl ?_
        refine V_to (fun _ _ => rfl) ?_
        refine C_cond rfl (fun hc104 => ?_) (fun hc104 => ?_)
        · rw [if_pos hc104] at h87
          refine C_region ?_
          refine V_y (Y_load (Hp.cell (j := 0) hH (i := 2) rfl rfl) Try.isAgg3 rfl) rfl rfl rfl ?_
          refine V_y (Y_move rfl) rfl rfl rfl ?_
          refine V_y (Y_subI rfl rfl) rfl rfl rfl ?_
          refine V_storeC (off := 0) (ds := [.int .i64 (w64 (s72.2.2 - (w64 (x80.to_ - x80.from_))))]) hH (i := 2) rfl Try.sizeOf3 rfl (Nat.le_of_ble_eq_true rfl) (by simp [Value.cells, Value.oneCell']) rfl hB hA rfl rfl ?_
          intro w105 hH106 ht107
          replace h95 := El.tr h95 ht107
          replace hK := Tr.trans hK ht107
          replace hr88 := Tr.trans hr88 ht107
          replace hB := Nat.le_trans hB ht107.ex.size
          replace hA := ht107.new
          replace hH : Hp w.heap.size A78 w105 (obC b24 [.int .i64 s72.1] 25 :: obC b19 [.int .i64 s72.2.1] 3 :: obC b14 [.int .i64 (w64 (s72.2.2 - (w64 (x80.to_ - x80.from_))))] 3 :: obO l75 (.loop { rc76 with state := .busy }) :: L79) := hH106
          obtain ⟨rfl, rfl⟩ := Prod.mk.inj (Option.some.inj h87)
          refine V_end (fun a ha108 => ?_)
          exact ⟨rfl, A78, hr88, Hp.pack (F := fun (i : Unit) => [obC b24 [.int .i64 (s72.1, s72.2.1, w64 (s72.2.2 - (w64 (x80.to_ - x80.from_)))).1] 25, obC b19 [.int .i64 (s72.1, s72.2.1, w64 (s72.2.2 - (w64 (x80.to_ - x80.from_)))).2.1] 3, obC b14 [.int .i64 (s72.1, s72.2.1, w64 (s72.2.2 - (w64 (x80.to_ - x80.from_)))).2.2] 3]) () hH⟩
        · rw [if_neg (nt hc104)] at h87
          refine C_seq ?_
          refine C_region ?_
          have h109 := El_cal_Span_0 h95
          refine V_y (Y_fieldAddr Try.underlying69 rfl Try.sizeOf3 (by decide) rfl) rfl rfl rfl ?_
          refine V_y (Y_load (El.int h109) Try.isAgg3 rfl) rfl rfl rfl ?_
          refine V_y (Y_load (Hp.cell (j := 0) hH (i := 2) rfl rfl) Try.isAgg3 rfl) rfl rfl rfl ?_
          refine V_y (Y_addI rfl rfl) rfl rfl rfl ?_
          refine V_storeC (off := 0) (ds := [.int .i64 (w64 (x80.from_ + s72.2.2))]) hH (i := 1) rfl Try.sizeOf3 rfl (Nat.le_of_ble_eq_true rfl) (by simp [Value.cells, Value.oneCell']) rfl hB hA rfl rfl ?_
          intro w110 hH111 ht112
          replace h95 := El.tr h95 ht112
          replace h109 := El.tr h109 ht112
          replace hK := Tr.trans hK ht112
          replace hr88 := Tr.trans hr88 ht112
          replace hB := Nat.le_trans hB ht112.ex.size
          replace hA := ht112.new
          replace hH : Hp w.heap.size A78 w110 (obC b24 [.int .i64 s72.1] 25 :: obC b19 [.int .i64 (w64 (x80.from_ + s72.2.2))] 3 :: obC b14 [.int .i64 s72.2.2] 3 :: obO l75 (.loop { rc76 with state := .busy }) :: L79) := hH111
          refine V_storeC (off := 0) (ds := [.int .i64 0]) hH (i := 0) rfl Try.sizeOf25 rfl (Nat.le_of_ble_eq_true rfl) (by simp [Value.cells, Value.oneCell']) rfl hB hA rfl rfl ?_
          intro w113 hH114 ht115
          replace h95 := El.tr h95 ht115
          replace h109 := El.tr h109 ht115
          replace hK := Tr.trans hK ht115
          replace hr88 := Tr.trans hr88 ht115
          replace hB := Nat.le_trans hB ht115.ex.size
          replace hA := ht115.new
          replace hH : Hp w.heap.size A78 w113 (obC b24 [.int .i64 0] 25 :: obC b19 [.int .i64 (w64 (x80.from_ + s72.2.2))] 3 :: obC b14 [.int .i64 s72.2.2] 3 :: obO l75 (.loop { rc76 with state := .busy }) :: L79) := hH114
          refine V_to (fun _ _ => rfl) ?_
          obtain ⟨rfl, rfl⟩ := Prod.mk.inj (Option.some.inj h87)
          refine C_ret (fun a ha116 => ?_)
          exact ⟨rfl, A78, hr88, Hp.pack (F := fun (i : Unit) => [obC b24 [.int .i64 (0, w64 (x80.from_ + s72.2.2), s72.2.2).1] 25, obC b19 [.int .i64 (0, w64 (x80.from_ + s72.2.2), s72.2.2).2.1] 3, obC b14 [.int .i64 (0, w64 (x80.from_ + s72.2.2), s72.2.2).2.2] 3]) () hH⟩
      · intro hc122 D117 w118 A119 ht120 hH121 a ha123
        exact ⟨(D117, A119), ha123.sub ⟨rfl, rfl, trivial⟩, (by rw [hc122]; simp), hH121, ht120⟩
      · intro k124 hc122 D117 w118 A119 ht120 hH121
        by_cases hc125 : k124 = 0
        · subst hc125
          rw [if_pos hc122] at hm
          obtain ⟨_, hH121⟩ := Hp.open hH121
          replace hK := Tr.trans hK ht120
          replace hB := Nat.le_trans hB ht120.ex.size
          replace hA := ht120.new
          replace hH : Hp w.heap.size A119 w118 (obC b24 [.int .i64 z70.1.1] 25 :: obC b19 [.int .i64 z70.1.2.1] 3 :: obC b14 [.int .i64 z70.1.2.2] 3 :: obO D117 (.deferred (some [])) :: []) := hH121
          show C _ _ .ret _ _ _
          obtain rfl := Option.some.inj hm
          have h126 := Hp.obj hH (i := 3) (b := D117) rfl
          obtain ⟨hH127, ht128⟩ := Hp.put (.deferred none) hH (i := 3) (b := D117) rfl hB hA
          replace hK := Tr.trans hK ht128
          replace hB := Nat.le_trans hB ht128.ex.size
          replace hA := ht128.new
          replace hH : Hp w.heap.size A119 (World.putObj w118 D117 (.deferred none)) (obC b24 [.int .i64 z70.1.1] 25 :: obC b19 [.int .i64 z70.1.2.1] 3 :: obC b14 [.int .i64 z70.1.2.2] 3 :: obO D117 (.deferred none) :: []) := hH127
          refine C_ret ?_
          try simp only [↓inBlock_ret, ↓then_ret]
          exact retM1 rfl h126 (Res.l2 Try.results40 (RL.cell rfl (loadVar_one (Hp.cell (j := 0) hH (i := 1) rfl rfl) Try.isAgg3)) (RL.cell rfl (loadVar_one (Hp.cell (j := 0) hH (i := 0) rfl rfl) Try.isAgg25))) ⟨rfl, hK.kp⟩
        · show C _ _ (if k124 = 0 then _ else _) _ _ _
          rw [if_neg hc125]
          refine C_exit fun a ha123 => ?_
          show Exit.inBlock _ _ _ _ _
          rw [Exit.inBlock, if_pos rfl]
          exact ⟨(D117, A119), ha123.sub ⟨rfl, rfl, trivial⟩, (by rw [hc122]; simpa using hc125), hH121, ht120⟩
    rintro ⟨D117, A119⟩ w118 ⟨hc129, hH121, ht120⟩ a ha123
    rw [if_neg hc129] at hm
    obtain ⟨_, hH121⟩ := Hp.open hH121
    replace hK := Tr.trans hK ht120
    replace hB := Nat.le_trans hB ht120.ex.size
    replace hA := ht120.new
    replace hH : Hp w.heap.size A119 w118 (obC b24 [.int .i64 z70.1.1] 25 :: obC b19 [.int .i64 z70.1.2.1] 3 :: obC b14 [.int .i64 z70.1.2.2] 3 :: obO D117 (.deferred (some [])) :: []) := hH121
    refine C_at (n := ⟨41, [{ target := .collected D117, args := #[] }], none⟩) (fun _ _ => rfl) ?_ ha123
    refine C_seq ?_
    refine C_region ?_
    refine V_storeC (off := 0) (ds := [.int .i64 0]) hH (i := 1) rfl Try.sizeOf3 rfl (Nat.le_of_ble_eq_true rfl) (by simp [Value.cells, Value.oneCell']) rfl hB hA rfl rfl ?_
    intro w130 hH131 ht132
    replace hK := Tr.trans hK ht132
    replace hB := Nat.le_trans hB ht132.ex.size
    replace hA := ht132.new
    replace hH : Hp w.heap.size A119 w130 (obC b24 [.int .i64 z70.1.1] 25 :: obC b19 [.int .i64 0] 3 :: obC b14 [.int .i64 z70.1.2.2] 3 :: obO D117 (.deferred (some [])) :: []) := hH131
    refine V_storeC (off := 0) (ds := [.int .i64 7]) hH (i := 0) rfl Try.sizeOf25 rfl (Nat.le_of_ble_eq_true rfl) (by simp [Value.cells, Value.oneCell']) rfl hB hA rfl rfl ?_
    intro w133 hH134 ht135
    replace hK := Tr.trans hK ht135
    replace hB := Nat.le_trans hB ht135.ex.size
    replace hA := ht135.new
    replace hH : Hp w.heap.size A119 w133 (obC b24 [.int .i64 7] 25 :: obC b19 [.int .i64 0] 3 :: obC b14 [.int .i64 z70.1.2.2] 3 :: obO D117 (.deferred (some [])) :: []) := hH134
    refine V_to (fun _ _ => rfl) ?_
    obtain rfl := Option.some.inj hm
    have h136 := Hp.obj hH (i := 3) (b := D117) rfl
    obtain ⟨hH137, ht138⟩ := Hp.put (.deferred none) hH (i := 3) (b := D117) rfl hB hA
    replace hK := Tr.trans hK ht138
    replace hB := Nat.le_trans hB ht138.ex.size
    replace hA := ht138.new
    replace hH : Hp w.heap.size A119 (World.putObj w133 D117 (.deferred none)) (obC b24 [.int .i64 7] 25 :: obC b19 [.int .i64 0] 3 :: obC b14 [.int .i64 z70.1.2.2] 3 :: obO D117 (.deferred none) :: []) := hH137
    refine C_ret ?_
    try simp only [↓inBlock_ret, ↓then_ret]
    exact retM1 rfl h136 (Res.l2 Try.results40 (RL.cell rfl (loadVar_one (Hp.cell (j := 0) hH (i := 1) rfl rfl) Try.isAgg3)) (RL.cell rfl (loadVar_one (Hp.cell (j := 0) hH (i := 0) rfl rfl) Try.isAgg25))) ⟨rfl, hK.kp⟩

set_option maxRecDepth 4000 in
set_option maxHeartbeats 4000000 in
theorem slices_AppendSeq_Lcal_Span_cal_Span_c (w : World) {A : Nat → Prop} {B : Nat} (hB : B ≤ w.heap.size) (hA : ∀ b, w.heap.size ≤ b → A b) (s : (List cal_Span)) (v_s : Value) (seq : ∀ S : Type, (cal_Span → S → Option (Bool × S)) → S → Option S) (seq_f : FuncId) (seq_lb : Array Value) (seq_call : ∀ (args : Array Value) (w : World), (callFunc seq_f args).run Try.prog w = .ok (.enter seq_f args) w) (seq_spec : ∀ (S : Type) (y : cal_Span → S → Option (Bool × S)) (Ys : S → Ob) (yv : Value) (s0 zf : S) (w1 : World) (A1 : Nat → Prop) (L1 : List Ob), B ≤ w1.heap.size → (∀ b, w1.heap.size ≤ b → A1 b) → Tr B A w A1 w1 → Hp B A1 w1 (Ys s0 :: L1) → yv.cells.toList = [yv] → (∀ (w2 : World) (A2 : Nat → Prop) (L2 : List Ob) (x : cal_Span) (z : S) (b : Bool) (z2 : S), B ≤ w2.heap.size → (∀ b, w2.heap.size ≤ b → A2 b) → Tr B A1 w1 A2 w2 → Hp B A2 w2 (Ys z :: L2) → y x z = some (b, z2) → CallV Try.prog yv [.agg #[.int .i64 x.from_, .int .i64 x.to_]] w2 fun v w3 => v = .bool b ∧ ∃ A3, Tr B A2 w2 A3 w3 ∧ Hp B A3 w3 (Ys z2 :: L2)) → seq S y s0 = some zf → Ret Try.prog seq_f (#[yv] ++ seq_lb) w1 fun _ w3 => ∃ A3, Tr B A1 w1 A3 w3 ∧ Hp B A3 w3 (Ys zf :: L1)) {L : List Ob} (hH : Hp B A w (obS (α := cal_Span) 69 v_s s :: L)) {r : (List cal_Span)} (hm : slices_AppendSeq_Lcal_Span_cal_Span s seq = some r) : Ret Try.prog 76 #[v_s, .func (.func seq_f) #[] seq_lb] w fun v w' => ∃ s0, ∃ A1 : Nat → Prop, v = s0 ∧ Hp B A1 w' (obS (α := cal_Span) 69 s0 r :: L) ∧ Tr B A w A1 w' := by
  unfold slices_AppendSeq_Lcal_Span_cal_Span at hm
  refine enterM Try.func76 rfl Try.ntmps76 rfl ?_
  have hK : Tr B A w A w := Tr.refl hA
  refine C_seq ?_
  refine C_region ?_
  have h8 : (v_s).oneCell' = true := by obtain ⟨_, _, e, _⟩ := Hp.form (α := cal_Span) (e := 69) (v := v_s) (l := s) hH (i := 0) rfl; rw [e]; rfl
  refine V_boxH (B := B) hH rfl hB hA rfl ?_
  intro b1 w2 A3 hH4 ht5
  rw [Value.cells_one h8] at hH4
  replace hK := Tr.trans hK ht5
  replace hB := Nat.le_trans hB ht5.ex.size
  replace hA := ht5.new
  replace hH : Hp B A3 w2 (obC b1 [v_s] 64 :: obS (α := cal_Span) 69 v_s s :: L) := hH4
  refine V_y (Y_assign rfl) rfl rfl rfl ?_
  refine V_to (fun _ _ => rfl) ?_
  refine C_seq ?_
  refine C_seq ?_
  refine C_region ?_
  refine V_y (Y_move rfl) rfl rfl rfl ?_
  refine V_to (fun _ _ => rfl) ?_
  have hH15 : Hp B A3 w2 ((fun (s10 : (List cal_Span)) => obE (fun (i : Value) => [obC b1 [i] 64, obS (α := cal_Span) 69 i s10])) s :: L) := Hp.pack (F := fun (i : Value) => [obC b1 [i] 64, obS (α := cal_Span) 69 i s]) v_s hH
  obtain ⟨z9, hz9, hm⟩ := Option.bind_eq_some_iff.1 hm
  refine C_cutN (ι := Nat × (Nat → Prop)) (fun i => ⟨13, [{ target := .collected i.1, args := #[] }], none⟩) (fun i => [(2, .pointer (some ⟨b1, 0, none⟩))]) (fun i w' => Hp B i.2 w' ((fun (s10 : (List cal_Span)) => obE (fun (i : Value) => [obC b1 [i] 64, obS (α := cal_Span) 69 i s10])) z9.1 :: obO i.1 (.deferred (some [])) :: L) ∧ Tr B A3 w2 i.2 w') ?_ ?_
  · refine C_block ?_
    refine C_rangeFunc (B := B) (A := A3) (L := L) (X := cal_Span) (fun (x21 : cal_Span) => [.agg #[.int .i64 x21.from_, .int .i64 x21.to_]]) (fun (s10 : (List cal_Span)) => obE (fun (i : Value) => [obC b1 [i] 64, obS (α := cal_Span) 69 i s10])) (fun (x21 : cal_Span) (s11 : (List cal_Span)) => Option.bind (appendL 8796093022208 s11 ([x21] : List cal_Span)) fun x50 => some (x50, none)) (fun _ => .exit 0) (s0 := s) (zf := z9) rfl rfl rfl (by decide) (fun _ => rfl) hB hA hH15 seq_f _ rfl seq_call ?_ ?_ ?_ ?_
    · intro Ys yv w1 A1 L1 h1 h2 h3 h4 h0 h5
      exact seq_spec _ (yieldB (fun (x21 : cal_Span) (s11 : (List cal_Span)) => Option.bind (appendL 8796093022208 s11 ([x21] : List cal_Span)) fun x50 => some (x50, none))) Ys yv (s, none) _ w1 A1 L1 h1 h2 (Tr.trans hK h3) h4 h0 h5 hz9
    · intro l16 rc17 w18 A19 L20 x21 s11 s12 j22 hst23 hB24 hA25 ht26 hH27 h28
      obtain ⟨v29, hH27⟩ := Hp.open hH27
      replace hK := Tr.trans hK ht26
      replace hB := Nat.le_trans hB ht26.ex.size
      replace hA := ht26.new
      replace hH : Hp B A19 w18 (obC b1 [v29] 64 :: obS (α := cal_Span) 69 v29 s11 :: obO l16 (.loop rc17) :: L20) := hH27
      have hr31 : Tr B A19 w18 A19 w18 := Tr.refl hA
      show C _ _ _ _ _ _
      refine C_region ?_
      refine V_alloc Try.zeroValue69 rfl ?_
      intro b32 w33 h34
      refine V_storeNew h34 Try.sizeOf69 rfl rfl rfl rfl (by exact (List.forall_mem_cons.2 ⟨rfl, (List.forall_mem_cons.2 ⟨rfl, (fun _ h => nomatch h)⟩)⟩)) ?_
      intro w35 h36
      have hk38 := h36.kp
      have h37 : El (α := cal_Span) A19 w35 b32 0 x21 := h36.el hA ⟨[.int .i64 x21.from_], _, rfl, rfl, rfl⟩
      have ht39 := Kp.tr hk38 hA hB
      replace hH := Hp.kp hH hk38
      replace hK := Tr.trans hK ht39
      replace hr31 := Tr.trans hr31 ht39
      replace hB := Nat.le_trans hB ht39.ex.size
      replace hA := ht39.new
      refine V_end (fun a ha40 => ?_)
      refine begin_at hH (i := 2) rfl hst23 hB hA (fun w41 hH42 ht43 => ?_) ha40
      replace h37 := El.tr h37 ht43
      replace hK := Tr.trans hK ht43
      replace hr31 := Tr.trans hr31 ht43
      replace hB := Nat.le_trans hB ht43.ex.size
      replace hA := ht43.new
      replace hH : Hp B A19 w41 (obC b1 [v29] 64 :: obS (α := cal_Span) 69 v29 s11 :: obO l16 (.loop { rc17 with state := .busy }) :: L20) := hH42
      refine C_block ?_
      refine C_region ?_
      refine V_y (Y_load (Hp.cell (j := 0) hH (i := 0) rfl rfl) Try.isAgg64 rfl) rfl rfl rfl ?_
      obtain ⟨h44, _⟩ := El_cal_Span h37
      refine V_y (Y_loadA h44 Try.isAgg69 Try.sizeOf69 rfl) rfl rfl rfl ?_
      refine V_buildSlice (l := ([x21] : List cal_Span)) (len := 1) Try.underlying64 Try.sizeOf69 Try.zeroValue69 rfl (by with_unfolding_all rfl) (by decide) (by decide) hA ⟨[.int .i64 x21.from_, .int .i64 x21.to_], _, rfl, ⟨[.int .i64 x21.from_], _, rfl, rfl, rfl⟩, rfl⟩ rfl rfl ?_
      intro v45 w46 hk48 h47
      have ht49 := Kp.tr hk48 hA hB
      replace hH := Hp.kp hH hk48
      replace h37 := El.tr h37 ht49
      replace hK := Tr.trans hK ht49
      replace hr31 := Tr.trans hr31 ht49
      replace hB := Nat.le_trans hB ht49.ex.size
      replace hA := ht49.new
      obtain ⟨x50, hx50, h28⟩ := Option.bind_eq_some_iff.1 h28
      refine V_appendH (e := 69) (v := v29) (l := s11) (ti := Try.t69) (bytes := 16) (lim := 8796093022208) hH (i := 1) rfl h47 hx50 Try.underlying64 Try_info69 rfl rfl rfl rfl (by decide) (by decide) (by decide) hB hA rfl rfl rfl ?_
      intro v51 w52 A53 hH54 ht55
      replace h37 := El.tr h37 ht55
      replace h47 := Sl.tr h47 ht55
      replace hK := Tr.trans hK ht55
      replace hr31 := Tr.trans hr31 ht55
      replace hB := Nat.le_trans hB ht55.ex.size
      replace hA := ht55.new
      replace hH : Hp B A53 w52 (obC b1 [v29] 64 :: obS (α := cal_Span) 69 v51 x50 :: obO l16 (.loop { rc17 with state := .busy }) :: L20) := hH54
      have h61 : (v51).oneCell' = true := by obtain ⟨_, _, e, _⟩ := Hp.form (α := cal_Span) (e := 69) (v := v51) (l := x50) hH (i := 1) rfl; rw [e]; rfl
      refine V_storeC (off := 0) (ds := [v51]) hH (i := 0) rfl Try.sizeOf64 (by rw [← Array.length_toList, Value.cells_one h61]; rfl) (Nat.le_of_ble_eq_true rfl) (by intro u hu; rw [Value.cells_one h61] at hu; simp at hu; subst hu; assumption) (by rw [Value.cells_one h61]; rfl) hB hA rfl rfl ?_
      intro w56 hH57 ht58
      replace h37 := El.tr h37 ht58
      replace h47 := Sl.tr h47 ht58
      replace hK := Tr.trans hK ht58
      replace hr31 := Tr.trans hr31 ht58
      replace hB := Nat.le_trans hB ht58.ex.size
      replace hA := ht58.new
      replace hH : Hp B A53 w56 (obC b1 [v51] 64 :: obS (α := cal_Span) 69 v51 x50 :: obO l16 (.loop { rc17 with state := .busy }) :: L20) := hH57
      obtain ⟨rfl, rfl⟩ := Prod.mk.inj (Option.some.inj h28)
      refine V_end (fun a ha62 => ?_)
      exact ⟨rfl, A53, hr31, Hp.pack (F := fun (i : Value) => [obC b1 [i] 64, obS (α := cal_Span) 69 i x50]) v51 hH⟩
    · intro hc70 D65 w66 A67 ht68 hH69 a ha71
      exact ⟨(D65, A67), ha71.sub ⟨rfl, trivial⟩, hH69, ht68⟩
    · intro k72 hc70 D65 w66 A67 ht68 hH69
      refine C_exit fun a ha71 => ?_
      show Exit.inBlock _ _ _ _ _
      rw [Exit.inBlock, if_pos rfl]
      exact ⟨(D65, A67), ha71.sub ⟨rfl, trivial⟩, hH69, ht68⟩
  rintro ⟨D65, A67⟩ w66 ⟨hH69, ht68⟩ a ha71
  obtain ⟨v63, hH69⟩ := Hp.open hH69
  replace hK := Tr.trans hK ht68
  replace hB := Nat.le_trans hB ht68.ex.size
  replace hA := ht68.new
  replace hH : Hp B A67 w66 (obC b1 [v63] 64 :: obS (α := cal_Span) 69 v63 z9.1 :: obO D65 (.deferred (some [])) :: L) := hH69
  refine C_at (n := ⟨13, [{ target := .collected D65, args := #[] }], none⟩) (fun _ _ => rfl) ?_ ha71
  refine C_seq ?_
  refine C_region ?_
  refine V_y (Y_load (Hp.cell (j := 0) hH (i := 0) rfl rfl) Try.isAgg64 rfl) rfl rfl rfl ?_
  refine V_y (Y_assign rfl) rfl rfl rfl ?_
  refine V_to (fun _ _ => rfl) ?_
  obtain rfl := Option.some.inj hm
  have h75 := Hp.obj hH (i := 2) (b := D65) rfl
  obtain ⟨hH76, ht77⟩ := Hp.put (.deferred none) hH (i := 2) (b := D65) rfl hB hA
  replace hK := Tr.trans hK ht77
  replace hB := Nat.le_trans hB ht77.ex.size
  replace hA := ht77.new
  replace hH : Hp B A67 (World.putObj w66 D65 (.deferred none)) (obC b1 [v63] 64 :: obS (α := cal_Span) 69 v63 z9.1 :: obO D65 (.deferred none) :: L) := hH76
  replace hH : Hp B A67 (World.putObj w66 D65 (.deferred none)) (obS (α := cal_Span) 69 v63 z9.1 :: obC b1 [v63] 64 :: obO D65 (.deferred none) :: L) := Hp.front hH (i := 1) rfl
  replace hH : Hp B A67 (World.putObj w66 D65 (.deferred none)) (obS (α := cal_Span) 69 v63 z9.1 :: obO D65 (.deferred none) :: L) := Hp.drop hH (i := 1) rfl
  replace hH : Hp B A67 (World.putObj w66 D65 (.deferred none)) (obS (α := cal_Span) 69 v63 z9.1 :: L) := Hp.drop hH (i := 1) rfl
  refine C_ret ?_
  try simp only [↓inBlock_ret, ↓then_ret]
  exact retM1 rfl h75 (Res.one Try.results76 rfl) ⟨v63, A67, rfl, hH, hK⟩

set_option maxRecDepth 4000 in
set_option maxHeartbeats 4000000 in
theorem slices_Collect_cal_Span_c (w : World) {A : Nat → Prop} {B : Nat} (hB : B ≤ w.heap.size) (hA : ∀ b, w.heap.size ≤ b → A b) (seq : ∀ S : Type, (cal_Span → S → Option (Bool × S)) → S → Option S) (seq_f : FuncId) (seq_lb : Array Value) (seq_call : ∀ (args : Array Value) (w : World), (callFunc seq_f args).run Try.prog w = .ok (.enter seq_f args) w) (seq_spec : ∀ (S : Type) (y : cal_Span → S → Option (Bool × S)) (Ys : S → Ob) (yv : Value) (s0 zf : S) (w1 : World) (A1 : Nat → Prop) (L1 : List Ob), B ≤ w1.heap.size → (∀ b, w1.heap.size ≤ b → A1 b) → Tr B A w A1 w1 → Hp B A1 w1 (Ys s0 :: L1) → yv.cells.toList = [yv] → (∀ (w2 : World) (A2 : Nat → Prop) (L2 : List Ob) (x : cal_Span) (z : S) (b : Bool) (z2 : S), B ≤ w2.heap.size → (∀ b, w2.heap.size ≤ b → A2 b) → Tr B A1 w1 A2 w2 → Hp B A2 w2 (Ys z :: L2) → y x z = some (b, z2) → CallV Try.prog yv [.agg #[.int .i64 x.from_, .int .i64 x.to_]] w2 fun v w3 => v = .bool b ∧ ∃ A3, Tr B A2 w2 A3 w3 ∧ Hp B A3 w3 (Ys z2 :: L2)) → seq S y s0 = some zf → Ret Try.prog seq_f (#[yv] ++ seq_lb) w1 fun _ w3 => ∃ A3, Tr B A1 w1 A3 w3 ∧ Hp B A3 w3 (Ys zf :: L1)) {L : List Ob} (hH : Hp B A w (L)) {r : (List cal_Span)} (hm : slices_Collect_cal_Span seq = some r) : Ret Try.prog 74 #[.func (.func seq_f) #[] seq_lb] w fun v w' => ∃ s0, ∃ A1 : Nat → Prop, v = s0 ∧ Hp B A1 w' (obS (α := cal_Span) 69 s0 r :: L) ∧ Tr B A w A1 w' := by
  unfold slices_Collect_cal_Span at hm
  refine enter Try.func74 rfl Try.ntmps74 rfl ?_
  have hK : Tr B A w A w := Tr.refl hA
  refine C_seq ?_
  refine C_region ?_
  refine V_y (Y_assign rfl) rfl rfl rfl ?_
  refine V_to (fun _ _ => rfl) ?_
  refine C_seq ?_
  refine C_region ?_
  refine V_y (Y_move rfl) rfl rfl rfl ?_
  replace hH : Hp B A w (obS (α := cal_Span) 69 (.slice none 0 0) ([] : (List cal_Span)) :: L) := Hp.addNil (α := cal_Span) (e := 69) hH
  obtain ⟨x1, hx1, hm⟩ := Option.bind_eq_some_iff.1 hm
  refine V_call Try.call76 rfl rfl rfl rfl (slices_AppendSeq_Lcal_Span_cal_Span_c w hB hA ([] : (List cal_Span)) (.slice none 0 0) seq seq_f seq_lb seq_call (fun S y Ys yv s0 zf w1 A1 L1 h1 h2 h3 => seq_spec S y Ys yv s0 zf w1 A1 L1 h1 h2 (Tr.trans hK h3)) hH hx1) ?_
  rintro v2 w4 ⟨_, A5, rfl, hH6, ht7⟩
  replace hK := Tr.trans hK ht7
  replace hB := Nat.le_trans hB ht7.ex.size
  replace hA := ht7.new
  replace hH : Hp B A5 w4 (obS (α := cal_Span) 69 v2 x1 :: L) := hH6
  refine V_y (Y_assign rfl) rfl rfl rfl ?_
  refine V_to (fun _ _ => rfl) ?_
  obtain rfl := Option.some.inj hm
  refine C_ret ?_
  try simp only [↓inBlock_ret, ↓then_ret]
  exact retQ rfl (Res.one Try.results74 rfl) ⟨v2, A5, rfl, hH, hK⟩

set_option maxRecDepth 4000 in
set_option maxHeartbeats 4000000 in
theorem slices_Backward_Lcal_Span_cal_Span_c (w : World) {A : Nat → Prop} (hA : ∀ b, w.heap.size ≤ b → A b) (s : (List cal_Span)) (v_s : Value) (h_s : Sl A w v_s s) {r : (List cal_Span)} (hm : slices_Backward_Lcal_Span_cal_Span s = some r) : Ret Try.prog 73 #[v_s] w fun v w' => ∃ c0, v = .func (.func 101) #[] #[.pointer (some ⟨c0, 0, none⟩)] ∧ El A w' c0 0 r ∧ Kp w w' := by
  unfold slices_Backward_Lcal_Span_cal_Span at hm
  refine enter Try.func73 rfl Try.ntmps73 rfl ?_
  have hA0 := hA
  have hB := Nat.le_refl w.heap.size
  have hK : Tr w.heap.size A w A w := Tr.refl hA
  have hH : Hp w.heap.size A w [] := Hp.nil
  refine C_seq ?_
  refine C_region ?_
  refine V_box rfl rfl ?_
  intro b3 w4 h5
  have h10 : (v_s).oneCell' = true := by obtain ⟨_, _, e, _⟩ := Sl.form h_s; rw [e]; rfl
  have hk7 := h5.kp
  have h6 : El (α := (List cal_Span)) A w4 b3 0 s := h5.el hA (by rw [Value.cells_one h10]; exact ⟨_, rfl, h_s⟩)
  have ht11 := Kp.tr hk7 hA hB
  replace hH := Hp.kp hH hk7
  replace h_s := Sl.tr h_s ht11
  replace hK := Tr.trans hK ht11
  replace hB := Nat.le_trans hB ht11.ex.size
  replace hA := ht11.new
  refine V_y (Y_assign rfl) rfl rfl rfl ?_
  refine V_to (fun _ _ => rfl) ?_
  refine C_seq ?_
  refine C_region ?_
  refine V_y (Y_makeFunc rfl rfl) rfl rfl rfl ?_
  refine V_y (Y_assign rfl) rfl rfl rfl ?_
  refine V_to (fun _ _ => rfl) ?_
  obtain rfl := Option.some.inj hm
  refine C_ret ?_
  try simp only [↓inBlock_ret, ↓then_ret]
  exact retQ rfl (Res.one Try.results73 rfl) ⟨b3, rfl, (El.out h6 hA0 hK), hK.kp⟩

set_option maxRecDepth 4000 in
set_option maxHeartbeats 4000000 in
theorem slices_Backward_Lcal_Span_cal_Span_1_c (w : World) {A : Nat → Prop} {B : Nat} (hB : B ≤ w.heap.size) (hA : ∀ b, w.heap.size ≤ b → A b) {yield_S : Type} (yield : (Int × cal_Span) → yield_S → Option (Bool × yield_S)) (yield_Y : yield_S → Ob) (yield_v : Value) (yield_one : yield_v.cells.toList = [yield_v]) (yield_s : yield_S) (yield_spec : ∀ (w2 : World) (A2 : Nat → Prop) (L2 : List Ob) (x : (Int × cal_Span)) (z : yield_S) (b : Bool) (z2 : yield_S), B ≤ w2.heap.size → (∀ b, w2.heap.size ≤ b → A2 b) → Tr B A w A2 w2 → Hp B A2 w2 (yield_Y z :: L2) → yield x z = some (b, z2) → CallV Try.prog yield_v [.int .i64 x.1, .agg #[.int .i64 x.2.from_, .int .i64 x.2.to_]] w2 fun v w3 => v = .bool b ∧ ∃ A3, Tr B A2 w2 A3 w3 ∧ Hp B A3 w3 (yield_Y z2 :: L2)) (p1 : (List cal_Span)) (b_p1 : Nat) (h_p1 : El A w b_p1 0 p1) {L : List Ob} (hH : Hp B A w (yield_Y yield_s :: L)) {r : yield_S} (hm : slices_Backward_Lcal_Span_cal_Span_1 yield yield_s p1 = some r) : Ret Try.prog 101 #[yield_v, .pointer (some ⟨b_p1, 0, none⟩)] w fun v w' => ∃ A1 : Nat → Prop, v = .tuple #[] ∧ Hp B A1 w' (yield_Y r :: L) ∧ Tr B A w A1 w' := by
  unfold slices_Backward_Lcal_Span_cal_Span_1 at hm
  refine enter Try.func101 rfl Try.ntmps101 rfl ?_
  have hK : Tr B A w A w := Tr.refl hA
  refine C_seq ?_
  refine C_region ?_
  obtain ⟨v1, h2, h3⟩ := El.list h_p1
  refine V_y (Y_load h2 Try.isAgg64 rfl) rfl rfl rfl ?_
  refine V_y (Y_lenSl h3 rfl Try.underlying64 rfl) rfl rfl rfl ?_
  refine V_y (Y_subI rfl rfl) rfl rfl rfl ?_
  refine V_y (Y_assign rfl) rfl rfl rfl ?_
  refine V_to (fun _ _ => rfl) ?_
  obtain ⟨o4, ho4, hm⟩ := Option.bind_eq_some_iff.1 hm
  refine C_cutG (ι := ((Int × yield_S) × (Nat → Prop))) (fun ⟨s5, A12⟩ => []) (fun ⟨s5, A12⟩ => fun w' => o4 = .fin s5 ∧ Hp B A12 w' (yield_Y s5.2 :: L) ∧ Tr B A w A12 w') ?_ ?_
  · refine C_block ?_
    refine C_while ho4 (fun s14 a w' => ∃ i : (Nat → Prop), Has ⟨19, [], none⟩ a ([(0, yield_v), (1, .pointer (some ⟨b_p1, 0, none⟩)), (3, .int .i64 s14.1)]) ∧ Hp B i w' (yield_Y s14.2 :: L) ∧ Tr B A w i w') (fun a ha => ⟨A, ha.sub ⟨rfl, rfl, rfl, trivial⟩, ⟨hH, Tr.refl hA⟩⟩) ?_
    rintro K s14 a w15 ⟨A16, ha42, hH17, hr6⟩ K24
    refine C_of ?_ ha42
    replace h_p1 := El.tr h_p1 hr6
    replace hK := Tr.trans hK hr6
    replace hB := Nat.le_trans hB hr6.ex.size
    replace hA := hr6.new
    replace hH : Hp B A16 w15 (yield_Y s14.2 :: L) := hH17
    obtain ⟨x18, h19, h20⟩ := K24
    refine C_seq ?_
    refine C_seq ?_
    refine C_region ?_
    refine V_y (Y_move rfl) rfl rfl rfl ?_
    refine V_y (Y_geq rfl rfl) rfl rfl rfl ?_
    refine V_to (fun _ _ => rfl) ?_
    refine C_cond rfl (fun hc25 => ?_) (fun hc25 => ?_)
    · rw [if_pos hc25] at h19
      refine C_skip_to (fun _ _ => rfl) ?_
      refine C_seq ?_
      refine C_block ?_
      refine C_seq ?_
      refine C_region ?_
      refine V_y (Y_move rfl) rfl rfl rfl ?_
      refine V_y (Y_move rfl) rfl rfl rfl ?_
      obtain ⟨v26, h27, h28⟩ := El.list h_p1
      refine V_y (Y_load h27 Try.isAgg64 rfl) rfl rfl rfl ?_
      refine V_y (Y_move rfl) rfl rfl rfl ?_
      obtain ⟨x29, hx29, h19⟩ := Option.bind_eq_some_iff.1 h19
      refine V_indexAddr h28 hx29 Try.underlying64 Try.sizeOf69 rfl rfl rfl ?_
      intro b30 o31 h32
      obtain ⟨h33, _⟩ := El_cal_Span h32
      refine V_y (Y_loadA h33 Try.isAgg69 Try.sizeOf69 rfl) rfl rfl rfl ?_
      obtain ⟨x34, hx34, h19⟩ := Option.bind_eq_some_iff.1 h19
      refine V_callV rfl rfl rfl (yield_spec w15 _ _ (s14.1, x29) _ x34.1 x34.2 hB hA hK hH hx34) ?_
      rintro _ w35 ⟨rfl, A36, ht38, hH37⟩
      replace h_p1 := El.tr h_p1 ht38
      replace h28 := Sl.tr h28 ht38
      replace h32 := El.tr h32 ht38
      replace hK := Tr.trans hK ht38
      replace hr6 := Tr.trans hr6 ht38
      replace hB := Nat.le_trans hB ht38.ex.size
      replace hA := ht38.new
      replace hH : Hp B A36 w35 (yield_Y x34.2 :: L) := hH37
      refine V_y (Y_not rfl) rfl rfl rfl ?_
      refine V_to (fun _ _ => rfl) ?_
      refine C_cond rfl (fun hc39 => ?_) (fun hc39 => ?_)
      · rw [if_pos hc39] at h19
        obtain rfl := Option.some.inj h19
        obtain rfl := (h20 : Lp.rt _ = _)
        rw [Lp.andThen_rt] at hm
        obtain rfl := Option.some.inj hm
        refine C_ret ?_
        try simp only [↓inBlock_ret, ↓then_ret]
        exact retQ rfl (Res.zero Try.results101) ⟨A36, rfl, hH, hK⟩
      · rw [if_neg (nt hc39)] at h19
        refine C_skip_to (fun _ _ => rfl) ?_
        refine C_region ?_
        refine V_y (Y_move rfl) rfl rfl rfl ?_
        refine V_y (Y_subI rfl rfl) rfl rfl rfl ?_
        refine V_y (Y_assign rfl) rfl rfl rfl ?_
        obtain rfl := Option.some.inj h19
        refine V_end (fun a ha40 => ?_)
        exact ⟨(w64 (s14.1 - 1), x34.2), h20, ⟨A36, ha40.sub ⟨rfl, rfl, rfl, trivial⟩, ⟨hH, hr6⟩⟩⟩
    · rw [if_neg (nt hc25)] at h19
      obtain rfl := Option.some.inj h19
      refine C_exit (fun a ha41 => ?_)
      exact ⟨((s14.1, s14.2), A16), ha41.sub trivial, ⟨h20.symm, hH, hr6⟩⟩
  rintro ⟨s5, A12⟩ w9 ⟨rfl, hH13, hk10⟩ a ha11
  rw [Lp.andThen_fin] at hm
  replace hK := Tr.trans hK hk10
  replace hB := Nat.le_trans hB hk10.ex.size
  replace hA := hk10.new
  replace hH : Hp B A12 w9 (yield_Y s5.2 :: L) := hH13
  obtain rfl := Option.some.inj hm
  try simp only [↓inBlock_ret, ↓then_ret]
  exact normQ (retQ rfl (Res.zero Try.results101) ⟨A12, rfl, hH, hK⟩ a ha11)

set_option maxRecDepth 4000 in
set_option maxHeartbeats 4000000 in
theorem cal_Back_c (w : World) {A : Nat → Prop} (hA : ∀ b, w.heap.size ≤ b → A b) (c : cal_Calendar) (v_c0 : Value) (h_c0 : Sl A w v_c0 c.zone.changes) (v_c1 : Value) (h_c1 : Sl A w v_c1 c.week) (v_c2 : Value) (h_c2 : Sl A w v_c2 c.specials) (to_ : Int) (work : Int) {r : (Int × Int)} (hm : cal_Back c to_ work = some r) : Ret Try.prog 41 #[.agg #[.int .i64 c.zone.offset, v_c0, v_c1, v_c2], .int .i64 to_, .int .i64 work] w fun v w' => v = .tuple #[.int .i64 r.1, .int .i64 r.2] ∧ Kp w w' := by
  unfold cal_Back at hm
  refine enterM Try.func41 rfl Try.ntmps41 rfl ?_
  have hA0 := hA
  have hB := Nat.le_refl w.heap.size
  have hK : Tr w.heap.size A w A w := Tr.refl hA
  have hH : Hp w.heap.size A w [] := Hp.nil
  refine C_seq ?_
  refine C_region ?_
  refine V_box rfl rfl ?_
  intro b7 w9 h10
  have hk12 := h10.kp
  have h11 : El (α := cal_Calendar) A w9 b7 0 c := h10.el hA ⟨[.int .i64 c.zone.offset, v_c0], _, rfl, ⟨[.int .i64 c.zone.offset], _, rfl, rfl, ⟨_, rfl, h_c0⟩⟩, ⟨[v_c1], _, rfl, ⟨_, rfl, h_c1⟩, ⟨_, rfl, h_c2⟩⟩⟩
  have ht13 := Kp.tr hk12 hA hB
  replace hH := Hp.kp hH hk12
  replace h_c0 := Sl.tr h_c0 ht13
  replace h_c1 := Sl.tr h_c1 ht13
  replace h_c2 := Sl.tr h_c2 ht13
  replace hK := Tr.trans hK ht13
  replace hB := Nat.le_trans hB ht13.ex.size
  replace hA := ht13.new
  refine V_boxH (B := w.heap.size) hH rfl hB hA rfl ?_
  intro b14 w15 A16 hH17 ht18
  replace h_c0 := Sl.tr h_c0 ht18
  replace h_c1 := Sl.tr h_c1 ht18
  replace h_c2 := Sl.tr h_c2 ht18
  replace h11 := El.tr h11 ht18
  replace hK := Tr.trans hK ht18
  replace hB := Nat.le_trans hB ht18.ex.size
  replace hA := ht18.new
  replace hH : Hp w.heap.size A16 w15 (obC b14 [.int .i64 work] 3 :: []) := hH17
  refine V_allocH (B := w.heap.size) hH Try.zeroValue3 hB hA rfl ?_
  intro b19 w20 A21 hH22 ht23
  replace h_c0 := Sl.tr h_c0 ht23
  replace h_c1 := Sl.tr h_c1 ht23
  replace h_c2 := Sl.tr h_c2 ht23
  replace h11 := El.tr h11 ht23
  replace hK := Tr.trans hK ht23
  replace hB := Nat.le_trans hB ht23.ex.size
  replace hA := ht23.new
  replace hH : Hp w.heap.size A21 w20 (obC b19 [.int .i64 0] 3 :: obC b14 [.int .i64 work] 3 :: []) := hH22
  refine V_allocH (B := w.heap.size) hH Try.zeroValue25 hB hA rfl ?_
  intro b24 w25 A26 hH27 ht28
  replace h_c0 := Sl.tr h_c0 ht28
  replace h_c1 := Sl.tr h_c1 ht28
  replace h_c2 := Sl.tr h_c2 ht28
  replace h11 := El.tr h11 ht28
  replace hK := Tr.trans hK ht28
  replace hB := Nat.le_trans hB ht28.ex.size
  replace hA := ht28.new
  replace hH : Hp w.heap.size A26 w25 (obC b24 [.int .i64 0] 25 :: obC b19 [.int .i64 0] 3 :: obC b14 [.int .i64 work] 3 :: []) := hH27
  refine V_to (fun _ _ => rfl) ?_
  refine C_seq ?_
  refine C_seq ?_
  refine C_region ?_
  obtain ⟨v29, v31, v33, h35, h30, h32, h34⟩ := El_cal_Calendar h11
  refine V_y (Y_loadA h35 Try.isAgg48 Try.sizeOf48 rfl) rfl rfl rfl ?_
  obtain ⟨x36, hx36, hm⟩ := Option.bind_eq_some_iff.1 hm
  refine V_call Try.call64 rfl rfl rfl rfl (cal_CheckCalendar_c w25 hA c v29 h30 v31 h32 v33 h34 hx36) ?_
  rintro _ w37 ⟨rfl, hk38⟩
  have ht39 := Kp.tr hk38 hA hB
  replace hH := Hp.kp hH hk38
  replace h11 := El.tr h11 ht39
  replace h30 := Sl.tr h30 ht39
  replace h32 := Sl.tr h32 ht39
  replace h34 := Sl.tr h34 ht39
  replace hK := Tr.trans hK ht39
  replace hB := Nat.le_trans hB ht39.ex.size
  replace hA := ht39.new
  refine V_y (Y_assign rfl) rfl rfl rfl ?_
  refine V_to (fun _ _ => rfl) ?_
  refine C_seq ?_
  refine C_region ?_
  refine V_y (Y_move rfl) rfl rfl rfl ?_
  refine V_y (Y_neq rfl rfl) rfl rfl rfl ?_
  refine V_to (fun _ _ => rfl) ?_
  refine C_cond rfl (fun hc40 => ?_) (fun hc40 => ?_)
  · rw [if_pos hc40] at hm
    refine C_seq ?_
    refine C_region ?_
    refine V_y (Y_move rfl) rfl rfl rfl ?_
    refine V_storeC (off := 0) (ds := [.int .i64 0]) hH (i := 1) rfl Try.sizeOf3 rfl (Nat.le_of_ble_eq_true rfl) (by simp [Value.cells, Value.oneCell']) rfl hB hA rfl rfl ?_
    intro w41 hH42 ht43
    replace h11 := El.tr h11 ht43
    replace hK := Tr.trans hK ht43
    replace hB := Nat.le_trans hB ht43.ex.size
    replace hA := ht43.new
    replace hH : Hp w.heap.size A26 w41 (obC b24 [.int .i64 0] 25 :: obC b19 [.int .i64 0] 3 :: obC b14 [.int .i64 work] 3 :: []) := hH42
    refine V_storeC (off := 0) (ds := [.int .i64 x36]) hH (i := 0) rfl Try.sizeOf25 rfl (Nat.le_of_ble_eq_true rfl) (by simp [Value.cells, Value.oneCell']) rfl hB hA rfl rfl ?_
    intro w44 hH45 ht46
    replace h11 := El.tr h11 ht46
    replace hK := Tr.trans hK ht46
    replace hB := Nat.le_trans hB ht46.ex.size
    replace hA := ht46.new
    replace hH : Hp w.heap.size A26 w44 (obC b24 [.int .i64 x36] 25 :: obC b19 [.int .i64 0] 3 :: obC b14 [.int .i64 work] 3 :: []) := hH45
    refine V_to (fun _ _ => rfl) ?_
    obtain rfl := Option.some.inj hm
    refine C_ret ?_
    try simp only [↓inBlock_ret, ↓then_ret]
    exact retM rfl (Res.l2 Try.results41 (RL.cell rfl (loadVar_one (Hp.cell (j := 0) hH (i := 1) rfl rfl) Try.isAgg3)) (RL.cell rfl (loadVar_one (Hp.cell (j := 0) hH (i := 0) rfl rfl) Try.isAgg25))) ⟨rfl, hK.kp⟩
  · rw [if_neg (nt hc40)] at hm
    refine C_skip_to (fun _ _ => rfl) ?_
    refine C_seq ?_
    refine C_seq ?_
    refine C_region ?_
    refine V_y (Y_move rfl) rfl rfl rfl ?_
    refine V_call Try.call56 rfl rfl rfl rfl (cal_within_c w37 to_ 0 3000001) ?_
    rintro _ _ ⟨rfl, rfl⟩
    refine V_y (Y_not rfl) rfl rfl rfl ?_
    refine V_y (Y_move rfl) rfl rfl rfl ?_
    refine V_cut 4 (fun _ : Unit => [(1, .int .i64 to_), (3, .pointer (some ⟨b7, 0, none⟩)), (5, .pointer (some ⟨b14, 0, none⟩)), (6, .pointer (some ⟨b19, 0, none⟩)), (7, .pointer (some ⟨b24, 0, none⟩)), (24, .bool ((!(cal_within to_ 0 3000001)) || ((cal_workOf work) != 0)))]) (fun _ w' => w37 = w') ?_ ?_
    · simp only [List.take, List.drop]
      rcases Bool.eq_false_or_eq_true (!(cal_within to_ 0 3000001)) with hc47 | hc47
      · refine V_gn rfl rfl rfl hc47 rfl rfl rfl ?_
        refine V_gn rfl rfl rfl hc47 rfl rfl rfl ?_
        refine V_gn rfl rfl rfl hc47 rfl rfl rfl ?_
        refine V_y (Y_pick_te rfl hc47 rfl) rfl rfl rfl ?_
        exact V_end fun a ha => ⟨(), ha.sub ⟨rfl, rfl, rfl, rfl, rfl, (by rw [hc47]; rfl), trivial⟩, rfl⟩
      · refine V_ge rfl rfl rfl hc47 ?_
        refine V_y (Y_load (Hp.cell (j := 0) hH (i := 2) rfl rfl) Try.isAgg3 rfl) rfl rfl rfl ?_
        refine V_ge rfl rfl rfl hc47 ?_
        refine V_call Try.call72 rfl rfl rfl rfl (cal_workOf_c w37 work) ?_
        rintro _ _ ⟨rfl, rfl⟩
        refine V_ge rfl rfl rfl hc47 ?_
        refine V_y (Y_neq rfl rfl) rfl rfl rfl ?_
        refine V_y (Y_pick_fe rfl hc47 rfl) rfl rfl rfl ?_
        exact V_end fun a ha => ⟨(), ha.sub ⟨rfl, rfl, rfl, rfl, rfl, (by rw [hc47]; rfl), trivial⟩, rfl⟩
    simp only [List.take, List.drop]
    rintro _ _ rfl
    refine V_to (fun _ _ => rfl) ?_
    refine C_cond rfl (fun hc49 => ?_) (fun hc49 => ?_)
    · rw [if_pos hc49] at hm
      refine C_seq ?_
      refine C_region ?_
      refine V_storeC (off := 0) (ds := [.int .i64 0]) hH (i := 1) rfl Try.sizeOf3 rfl (Nat.le_of_ble_eq_true rfl) (by simp [Value.cells, Value.oneCell']) rfl hB hA rfl rfl ?_
      intro w50 hH51 ht52
      replace h11 := El.tr h11 ht52
      replace hK := Tr.trans hK ht52
      replace hB := Nat.le_trans hB ht52.ex.size
      replace hA := ht52.new
      replace hH : Hp w.heap.size A26 w50 (obC b24 [.int .i64 0] 25 :: obC b19 [.int .i64 0] 3 :: obC b14 [.int .i64 work] 3 :: []) := hH51
      refine V_storeC (off := 0) (ds := [.int .i64 2]) hH (i := 0) rfl Try.sizeOf25 rfl (Nat.le_of_ble_eq_true rfl) (by simp [Value.cells, Value.oneCell']) rfl hB hA rfl rfl ?_
      intro w53 hH54 ht55
      replace h11 := El.tr h11 ht55
      replace hK := Tr.trans hK ht55
      replace hB := Nat.le_trans hB ht55.ex.size
      replace hA := ht55.new
      replace hH : Hp w.heap.size A26 w53 (obC b24 [.int .i64 2] 25 :: obC b19 [.int .i64 0] 3 :: obC b14 [.int .i64 work] 3 :: []) := hH54
      refine V_to (fun _ _ => rfl) ?_
      obtain rfl := Option.some.inj hm
      refine C_ret ?_
      try simp only [↓inBlock_ret, ↓then_ret]
      exact retM rfl (Res.l2 Try.results41 (RL.cell rfl (loadVar_one (Hp.cell (j := 0) hH (i := 1) rfl rfl) Try.isAgg3)) (RL.cell rfl (loadVar_one (Hp.cell (j := 0) hH (i := 0) rfl rfl) Try.isAgg25))) ⟨rfl, hK.kp⟩
    · rw [if_neg (nt hc49)] at hm
      refine C_skip_to (fun _ _ => rfl) ?_
      refine C_seq ?_
      refine C_seq ?_
      refine C_region ?_
      refine V_y (Y_load (Hp.cell (j := 0) hH (i := 2) rfl rfl) Try.isAgg3 rfl) rfl rfl rfl ?_
      refine V_y (Y_eql rfl rfl) rfl rfl rfl ?_
      refine V_to (fun _ _ => rfl) ?_
      refine C_cond rfl (fun hc56 => ?_) (fun hc56 => ?_)
      · rw [if_pos hc56] at hm
        refine C_seq ?_
        refine C_region ?_
        refine V_y (Y_move rfl) rfl rfl rfl ?_
        refine V_storeC (off := 0) (ds := [.int .i64 to_]) hH (i := 1) rfl Try.sizeOf3 rfl (Nat.le_of_ble_eq_true rfl) (by simp [Value.cells, Value.oneCell']) rfl hB hA rfl rfl ?_
        intro w57 hH58 ht59
        replace h11 := El.tr h11 ht59
        replace hK := Tr.trans hK ht59
        replace hB := Nat.le_trans hB ht59.ex.size
        replace hA := ht59.new
        replace hH : Hp w.heap.size A26 w57 (obC b24 [.int .i64 0] 25 :: obC b19 [.int .i64 to_] 3 :: obC b14 [.int .i64 work] 3 :: []) := hH58
        refine V_storeC (off := 0) (ds := [.int .i64 0]) hH (i := 0) rfl Try.sizeOf25 rfl (Nat.le_of_ble_eq_true rfl) (by simp [Value.cells, Value.oneCell']) rfl hB hA rfl rfl ?_
        intro w60 hH61 ht62
        replace h11 := El.tr h11 ht62
        replace hK := Tr.trans hK ht62
        replace hB := Nat.le_trans hB ht62.ex.size
        replace hA := ht62.new
        replace hH : Hp w.heap.size A26 w60 (obC b24 [.int .i64 0] 25 :: obC b19 [.int .i64 to_] 3 :: obC b14 [.int .i64 work] 3 :: []) := hH61
        refine V_to (fun _ _ => rfl) ?_
        obtain rfl := Option.some.inj hm
        refine C_ret ?_
        try simp only [↓inBlock_ret, ↓then_ret]
        exact retM rfl (Res.l2 Try.results41 (RL.cell rfl (loadVar_one (Hp.cell (j := 0) hH (i := 1) rfl rfl) Try.isAgg3)) (RL.cell rfl (loadVar_one (Hp.cell (j := 0) hH (i := 0) rfl rfl) Try.isAgg25))) ⟨rfl, hK.kp⟩
      · rw [if_neg (nt hc56)] at hm
        refine C_skip_to (fun _ _ => rfl) ?_
        refine C_seq ?_
        refine C_seq ?_
        refine C_region ?_
        obtain ⟨v63, v65, v67, h69, h64, h66, h68⟩ := El_cal_Calendar h11
        refine V_y (Y_loadA h69 Try.isAgg48 Try.sizeOf48 rfl) rfl rfl rfl ?_
        refine V_y (Y_move rfl) rfl rfl rfl ?_
        obtain ⟨x70, hx70, hm⟩ := Option.bind_eq_some_iff.1 hm
        refine V_call Try.call65 rfl rfl rfl rfl (cal_Calendar_open_c w37 hA c v63 h64 v65 h66 v67 h68 0 to_ hx70) ?_
        rintro _ w77 ⟨b71, b73, b75, rfl, h72, h74, h76, hk78⟩
        have ht79 := Kp.tr hk78 hA hB
        replace hH := Hp.kp hH hk78
        replace h11 := El.tr h11 ht79
        replace h64 := Sl.tr h64 ht79
        replace h66 := Sl.tr h66 ht79
        replace h68 := Sl.tr h68 ht79
        replace hK := Tr.trans hK ht79
        replace hB := Nat.le_trans hB ht79.ex.size
        replace hA := ht79.new
        obtain ⟨x80, hx80, hm⟩ := Option.bind_eq_some_iff.1 hm
        refine V_call Try.call74 rfl rfl rfl rfl (slices_Collect_cal_Span_c w77 hB hA (fun _ y s => cal_Calendar_open_1 y s x70.1 x70.2.1 x70.2.2) 93 #[.pointer (some ⟨b71, 0, none⟩), .pointer (some ⟨b73, 0, none⟩), .pointer (some ⟨b75, 0, none⟩)] Try.call93 (fun S y Ys yv s0 zf w1 A1 L1 h1 h2 h3 h4 h0 h5 h6 => (cal_Calendar_open_1_c w1 h1 h2 y Ys yv h0 s0 h5 x70.1 b71 (El.tr h72 h3) x70.2.1 b73 (El.tr h74 h3) x70.2.2 b75 (El.tr h76 h3) h4 h6).mono fun _ _ ⟨A3, _, hh, tt⟩ => ⟨A3, tt, hh⟩) hH hx80) ?_
        rintro v81 w83 ⟨_, A84, rfl, hH85, ht86⟩
        replace h11 := El.tr h11 ht86
        replace h64 := Sl.tr h64 ht86
        replace h66 := Sl.tr h66 ht86
        replace h68 := Sl.tr h68 ht86
        replace h72 := El.tr h72 ht86
        replace h74 := El.tr h74 ht86
        replace h76 := El.tr h76 ht86
        replace hK := Tr.trans hK ht86
        replace hB := Nat.le_trans hB ht86.ex.size
        replace hA := ht86.new
        replace hH : Hp w.heap.size A84 w83 (obS (α := cal_Span) 69 v81 x80 :: obC b24 [.int .i64 0] 25 :: obC b19 [.int .i64 0] 3 :: obC b14 [.int .i64 work] 3 :: []) := hH85
        obtain ⟨A87, ht88, h89, hH90⟩ := Hp.freeze (α := cal_Span) (v := v81) (l := x80) hH (i := 0) rfl hA
        replace h11 := El.tr h11 ht88
        replace h64 := Sl.tr h64 ht88
        replace h66 := Sl.tr h66 ht88
        replace h68 := Sl.tr h68 ht88
        replace h72 := El.tr h72 ht88
        replace h74 := El.tr h74 ht88
        replace h76 := El.tr h76 ht88
        replace hK := Tr.trans hK ht88
        replace hB := Nat.le_trans hB ht88.ex.size
        replace hA := ht88.new
        replace hH : Hp w.heap.size A87 w83 (obC b24 [.int .i64 0] 25 :: obC b19 [.int .i64 0] 3 :: obC b14 [.int .i64 work] 3 :: []) := hH90
        obtain ⟨x92, hx92, hm⟩ := Option.bind_eq_some_iff.1 hm
        refine V_call Try.call73 rfl rfl rfl rfl (slices_Backward_Lcal_Span_cal_Span_c w83 hA x80 v81 h89 hx92) ?_
        rintro _ w95 ⟨b93, rfl, h94, hk96⟩
        have ht97 := Kp.tr hk96 hA hB
        replace hH := Hp.kp hH hk96
        replace h11 := El.tr h11 ht97
        replace h64 := Sl.tr h64 ht97
        replace h66 := Sl.tr h66 ht97
        replace h68 := Sl.tr h68 ht97
        replace h72 := El.tr h72 ht97
        replace h74 := El.tr h74 ht97
        replace h76 := El.tr h76 ht97
        replace h89 := Sl.tr h89 ht97
        replace hK := Tr.trans hK ht97
        replace hB := Nat.le_trans hB ht97.ex.size
        replace hA := ht97.new
        refine V_to (fun _ _ => rfl) ?_
        have hH102 : Hp w.heap.size A87 w95 ((fun (s99 : (Int × Int × Int)) => obE (fun (i : Unit) => [obC b24 [.int .i64 s99.1] 25, obC b19 [.int .i64 s99.2.1] 3, obC b14 [.int .i64 s99.2.2] 3])) (0, 0, work) :: []) := Hp.pack (F := fun (i : Unit) => [obC b24 [.int .i64 (0, 0, work).1] 25, obC b19 [.int .i64 (0, 0, work).2.1] 3, obC b14 [.int .i64 (0, 0, work).2.2] 3]) () hH
        obtain ⟨z98, hz98, hm⟩ := Option.bind_eq_some_iff.1 hm
        refine C_cutN (ι := Nat × (Nat → Prop)) (fun i => ⟨50, [{ target := .collected i.1, args := #[] }], none⟩) (fun i => [(6, .pointer (some ⟨b19, 0, none⟩)), (7, .pointer (some ⟨b24, 0, none⟩))]) (fun i w' => z98.2 ≠ some 0 ∧ Hp w.heap.size i.2 w' ((fun (s99 : (Int × Int × Int)) => obE (fun (i : Unit) => [obC b24 [.int .i64 s99.1] 25, obC b19 [.int .i64 s99.2.1] 3, obC b14 [.int .i64 s99.2.2] 3])) z98.1 :: obO i.1 (.deferred (some [])) :: []) ∧ Tr w.heap.size A87 w95 i.2 w') ?_ ?_
        · refine C_block ?_
          refine C_rangeFunc (B := w.heap.size) (A := A87) (L := []) (X := (Int × cal_Span)) (fun (x108 : (Int × cal_Span)) => [.int .i64 x108.1, .agg #[.int .i64 x108.2.from_, .int .i64 x108.2.to_]]) (fun (s99 : (Int × Int × Int)) => obE (fun (i : Unit) => [obC b24 [.int .i64 s99.1] 25, obC b19 [.int .i64 s99.2.1] 3, obC b14 [.int .i64 s99.2.2] 3])) (fun (x108 : (Int × cal_Span)) (s100 : (Int × Int × Int)) => if (decide ((w64 (x108.2.to_ - x108.2.from_)) < s100.2.2)) = true then some ((s100.1, s100.2.1, w64 (s100.2.2 - (w64 (x108.2.to_ - x108.2.from_)))), none) else some ((0, w64 (x108.2.to_ - s100.2.2), s100.2.2), some 0)) (fun k => if k = 0 then .ret else .exit 0) (s0 := (0, 0, work)) (zf := z98) rfl rfl rfl (by decide) (fun _ => rfl) hB hA hH102 101 _ rfl Try.call101 ?_ ?_ ?_ ?_
          · intro Ys yv w1 A1 L1 h1 h2 h3 h4 h0 h5
            exact (slices_Backward_Lcal_Span_cal_Span_1_c w1 h1 h2 (yieldB (fun (x108 : (Int × cal_Span)) (s100 : (Int × Int × Int)) => if (decide ((w64 (x108.2.to_ - x108.2.from_)) < s100.2.2)) = true then some ((s100.1, s100.2.1, w64 (s100.2.2 - (w64 (x108.2.to_ - x108.2.from_)))), none) else some ((0, w64 (x108.2.to_ - s100.2.2), s100.2.2), some 0))) Ys yv h0 ((0, 0, work), none) h5 x92 b93 (El.tr h94 h3) h4 hz98).mono fun _ _ ⟨A3, _, hh, tt⟩ => ⟨A3, tt, hh⟩
          · intro l103 rc104 w105 A106 L107 x108 s100 s101 j109 hst110 hB111 hA112 ht113 hH114 h115
            obtain ⟨_, hH114⟩ := Hp.open hH114
            replace h94 := El.tr h94 ht113
            replace hK := Tr.trans hK ht113
            replace hB := Nat.le_trans hB ht113.ex.size
            replace hA := ht113.new
            replace hH : Hp w.heap.size A106 w105 (obC b24 [.int .i64 s100.1] 25 :: obC b19 [.int .i64 s100.2.1] 3 :: obC b14 [.int .i64 s100.2.2] 3 :: obO l103 (.loop rc104) :: L107) := hH114
            have hr116 : Tr w.heap.size A106 w105 A106 w105 := Tr.refl hA
            show C _ _ _ _ _ _
            refine C_region ?_
            refine V_alloc Try.zeroValue69 rfl ?_
            intro b118 w119 h120
            refine V_storeNew h120 Try.sizeOf69 rfl rfl rfl rfl (by exact (List.forall_mem_cons.2 ⟨rfl, (List.forall_mem_cons.2 ⟨rfl, (fun _ h => nomatch h)⟩)⟩)) ?_
            intro w121 h122
            have hk124 := h122.kp
            have h123 : El (α := cal_Span) A106 w121 b118 0 x108.2 := h122.el hA ⟨[.int .i64 x108.2.from_], _, rfl, rfl, rfl⟩
            have ht125 := Kp.tr hk124 hA hB
            replace hH := Hp.kp hH hk124
            replace h94 := El.tr h94 ht125
            replace hK := Tr.trans hK ht125
            replace hr116 := Tr.trans hr116 ht125
            replace hB := Nat.le_trans hB ht125.ex.size
            replace hA := ht125.new
            refine V_end (fun a ha126 => ?_)
            refine begin_at hH (i := 3) rfl hst110 hB hA (fun w127 hH128 ht129 => ?_) ha126
            replace h123 := El.tr h123 ht129
            replace hK := Tr.trans hK ht129
            replace hr116 := Tr.trans hr116 ht129
            replace hB := Nat.le_trans hB ht129.ex.size
            replace hA := ht129.new
            replace hH : Hp w.heap.size A106 w127 (obC b24 [.int .i64 s100.1] 25 :: obC b19 [.int .i64 s100.2.1] 3 :: obC b14 [.int .i64 s100.2.2] 3 :: obO l103 (.loop { rc104 with state := .busy }) :: L107) := hH128
            refine C_block ?_
            refine C_seq ?_
            refine C_region ?_
            have h130 := El_cal_Span_1 h123
            refine V_y (Y_fieldAddr Try.underlying69 rfl Try.sizeOf3 (by decide) rfl) rfl rfl rfl ?_
            refine V_y (Y_load (El.int h130) Try.isAgg3 rfl) rfl rfl rfl ?_
            have h131 := El_cal_Span_0 h123
            refine V_y (Y_fieldAddr Try.underlying69 rfl Try.sizeOf3 (by decide) rfl) rfl rfl rfl ?_
            refine V_y (Y_load (El.int h131) Try.isAgg3 rfl) rfl rfl rfl ?_
            refine V_y (Y_subI rfl rfl) rfl rfl rfl ?_
            refine V_y (Y_assign rfl) rfl rfl rfl ?_
            refine V_to (fun _ _ => rfl) ?_
            refine C_seq ?_
            refine C_region ?_
            refine V_y (Y_load (Hp.cell (j := 0) hH (i := 2) rfl rfl) Try.isAgg3 rfl) rfl rfl rfl ?_
            refine V_y (Y_move rfl) rfl rfl rfl ?_
            refine V_y (Y_gtr rfl rfl) rfl rfl rfl ?_
            refine V_to (fun _ _ => rfl) ?_
            refine C_cond rfl (fun hc132 => ?_) (fun hc132 => ?_)
            · rw [if_pos hc132] at h115
              refine C_region ?_
              refine V_y (Y_load (Hp.cell (j := 0) hH (i := 2) rfl rfl) Try.isAgg3 rfl) rfl rfl rfl ?_
              refine V_y (Y_move rfl) rfl rfl rfl ?_
              refine V_y (Y_subI rfl rfl) rfl rfl rfl ?_
              refine V_storeC (off := 0) (ds := [.int .i64 (w64 (s100.2.2 - (w64 (x108.2.to_ - x108.2.from_))))]) hH (i := 2) rfl Try.sizeOf3 rfl (Nat.le_of_ble_eq_true rfl) (by simp [Value.cells, Value.oneCell']) rfl hB hA rfl rfl ?_
              intro w133 hH134 ht135
              replace h123 := El.tr h123 ht135
              replace hK := Tr.trans hK ht135
              replace hr116 := Tr.trans hr116 ht135
              replace hB := Nat.le_trans hB ht135.ex.size
              replace hA := ht135.new
              replace hH : Hp w.heap.size A106 w133 (obC b24 [.int .i64 s100.1] 25 :: obC b19 [.int .i64 s100.2.1] 3 :: obC b14 [.int .i64 (w64 (s100.2.2 - (w64 (x108.2.to_ - x108.2.from_))))] 3 :: obO l103 (.loop { rc104 with state := .busy }) :: L107) := hH134
              obtain ⟨rfl, rfl⟩ := Prod.mk.inj (Option.some.inj h115)
              refine V_end (fun a ha136 => ?_)
              exact ⟨rfl, A106, hr116, Hp.pack (F := fun (i : Unit) => [obC b24 [.int .i64 (s100.1, s100.2.1, w64 (s100.2.2 - (w64 (x108.2.to_ - x108.2.from_)))).1] 25, obC b19 [.int .i64 (s100.1, s100.2.1, w64 (s100.2.2 - (w64 (x108.2.to_ - x108.2.from_)))).2.1] 3, obC b14 [.int .i64 (s100.1, s100.2.1, w64 (s100.2.2 - (w64 (x108.2.to_ - x108.2.from_)))).2.2] 3]) () hH⟩
            · rw [if_neg (nt hc132)] at h115
              refine C_seq ?_
              refine C_region ?_
              have h137 := El_cal_Span_1 h123
              refine V_y (Y_fieldAddr Try.underlying69 rfl Try.sizeOf3 (by decide) rfl) rfl rfl rfl ?_
              refine V_y (Y_load (El.int h137) Try.isAgg3 rfl) rfl rfl rfl ?_
              refine V_y (Y_load (Hp.cell (j := 0) hH (i := 2) rfl rfl) Try.isAgg3 rfl) rfl rfl rfl ?_
              refine V_y (Y_subI rfl rfl) rfl rfl rfl ?_
              refine V_storeC (off := 0) (ds := [.int .i64 (w64 (x108.2.to_ - s100.2.2))]) hH (i := 1) rfl Try.sizeOf3 rfl (Nat.le_of_ble_eq_true rfl) (by simp [Value.cells, Value.oneCell']) rfl hB hA rfl rfl ?_
              intro w138 hH139 ht140
              replace h123 := El.tr h123 ht140
              replace h137 := El.tr h137 ht140
              replace hK := Tr.trans hK ht140
              replace hr116 := Tr.trans hr116 ht140
              replace hB := Nat.le_trans hB ht140.ex.size
              replace hA := ht140.new
              replace hH : Hp w.heap.size A106 w138 (obC b24 [.int .i64 s100.1] 25 :: obC b19 [.int .i64 (w64 (x108.2.to_ - s100.2.2))] 3 :: obC b14 [.int .i64 s100.2.2] 3 :: obO l103 (.loop { rc104 with state := .busy }) :: L107) := hH139
              refine V_storeC (off := 0) (ds := [.int .i64 0]) hH (i := 0) rfl Try.sizeOf25 rfl (Nat.le_of_ble_eq_true rfl) (by simp [Value.cells, Value.oneCell']) rfl hB hA rfl rfl ?_
              intro w141 hH142 ht143
              replace h123 := El.tr h123 ht143
              replace h137 := El.tr h137 ht143
              replace hK := Tr.trans hK ht143
              replace hr116 := Tr.trans hr116 ht143
              replace hB := Nat.le_trans hB ht143.ex.size
              replace hA := ht143.new
              replace hH : Hp w.heap.size A106 w141 (obC b24 [.int .i64 0] 25 :: obC b19 [.int .i64 (w64 (x108.2.to_ - s100.2.2))] 3 :: obC b14 [.int .i64 s100.2.2] 3 :: obO l103 (.loop { rc104 with state := .busy }) :: L107) := hH142
              refine V_to (fun _ _ => rfl) ?_
              obtain ⟨rfl, rfl⟩ := Prod.mk.inj (Option.some.inj h115)
              refine C_ret (fun a ha144 => ?_)
              exact ⟨rfl, A106, hr116, Hp.pack (F := fun (i : Unit) => [obC b24 [.int .i64 (0, w64 (x108.2.to_ - s100.2.2), s100.2.2).1] 25, obC b19 [.int .i64 (0, w64 (x108.2.to_ - s100.2.2), s100.2.2).2.1] 3, obC b14 [.int .i64 (0, w64 (x108.2.to_ - s100.2.2), s100.2.2).2.2] 3]) () hH⟩
          · intro hc150 D145 w146 A147 ht148 hH149 a ha151
            exact ⟨(D145, A147), ha151.sub ⟨rfl, rfl, trivial⟩, (by rw [hc150]; simp), hH149, ht148⟩
          · intro k152 hc150 D145 w146 A147 ht148 hH149
            by_cases hc153 : k152 = 0
            · subst hc153
              rw [if_pos hc150] at hm
              obtain ⟨_, hH149⟩ := Hp.open hH149
              replace hK := Tr.trans hK ht148
              replace hB := Nat.le_trans hB ht148.ex.size
              replace hA := ht148.new
              replace hH : Hp w.heap.size A147 w146 (obC b24 [.int .i64 z98.1.1] 25 :: obC b19 [.int .i64 z98.1.2.1] 3 :: obC b14 [.int .i64 z98.1.2.2] 3 :: obO D145 (.deferred (some [])) :: []) := hH149
              show C _ _ .ret _ _ _
              obtain rfl := Option.some.inj hm
              have h154 := Hp.obj hH (i := 3) (b := D145) rfl
              obtain ⟨hH155, ht156⟩ := Hp.put (.deferred none) hH (i := 3) (b := D145) rfl hB hA
              replace hK := Tr.trans hK ht156
              replace hB := Nat.le_trans hB ht156.ex.size
              replace hA := ht156.new
              replace hH : Hp w.heap.size A147 (World.putObj w146 D145 (.deferred none)) (obC b24 [.int .i64 z98.1.1] 25 :: obC b19 [.int .i64 z98.1.2.1] 3 :: obC b14 [.int .i64 z98.1.2.2] 3 :: obO D145 (.deferred none) :: []) := hH155
              refine C_ret ?_
              try simp only [↓inBlock_ret, ↓then_ret]
              exact retM1 rfl h154 (Res.l2 Try.results41 (RL.cell rfl (loadVar_one (Hp.cell (j := 0) hH (i := 1) rfl rfl) Try.isAgg3)) (RL.cell rfl (loadVar_one (Hp.cell (j := 0) hH (i := 0) rfl rfl) Try.isAgg25))) ⟨rfl, hK.kp⟩
            · show C _ _ (if k152 = 0 then _ else _) _ _ _
              rw [if_neg hc153]
              refine C_exit fun a ha151 => ?_
              show Exit.inBlock _ _ _ _ _
              rw [Exit.inBlock, if_pos rfl]
              exact ⟨(D145, A147), ha151.sub ⟨rfl, rfl, trivial⟩, (by rw [hc150]; simpa using hc153), hH149, ht148⟩
        rintro ⟨D145, A147⟩ w146 ⟨hc157, hH149, ht148⟩ a ha151
        rw [if_neg hc157] at hm
        obtain ⟨_, hH149⟩ := Hp.open hH149
        replace hK := Tr.trans hK ht148
        replace hB := Nat.le_trans hB ht148.ex.size
        replace hA := ht148.new
        replace hH : Hp w.heap.size A147 w146 (obC b24 [.int .i64 z98.1.1] 25 :: obC b19 [.int .i64 z98.1.2.1] 3 :: obC b14 [.int .i64 z98.1.2.2] 3 :: obO D145 (.deferred (some [])) :: []) := hH149
        refine C_at (n := ⟨50, [{ target := .collected D145, args := #[] }], none⟩) (fun _ _ => rfl) ?_ ha151
        refine C_seq ?_
        refine C_region ?_
        refine V_storeC (off := 0) (ds := [.int .i64 0]) hH (i := 1) rfl Try.sizeOf3 rfl (Nat.le_of_ble_eq_true rfl) (by simp [Value.cells, Value.oneCell']) rfl hB hA rfl rfl ?_
        intro w158 hH159 ht160
        replace hK := Tr.trans hK ht160
        replace hB := Nat.le_trans hB ht160.ex.size
        replace hA := ht160.new
        replace hH : Hp w.heap.size A147 w158 (obC b24 [.int .i64 z98.1.1] 25 :: obC b19 [.int .i64 0] 3 :: obC b14 [.int .i64 z98.1.2.2] 3 :: obO D145 (.deferred (some [])) :: []) := hH159
        refine V_storeC (off := 0) (ds := [.int .i64 7]) hH (i := 0) rfl Try.sizeOf25 rfl (Nat.le_of_ble_eq_true rfl) (by simp [Value.cells, Value.oneCell']) rfl hB hA rfl rfl ?_
        intro w161 hH162 ht163
        replace hK := Tr.trans hK ht163
        replace hB := Nat.le_trans hB ht163.ex.size
        replace hA := ht163.new
        replace hH : Hp w.heap.size A147 w161 (obC b24 [.int .i64 7] 25 :: obC b19 [.int .i64 0] 3 :: obC b14 [.int .i64 z98.1.2.2] 3 :: obO D145 (.deferred (some [])) :: []) := hH162
        refine V_to (fun _ _ => rfl) ?_
        obtain rfl := Option.some.inj hm
        have h164 := Hp.obj hH (i := 3) (b := D145) rfl
        obtain ⟨hH165, ht166⟩ := Hp.put (.deferred none) hH (i := 3) (b := D145) rfl hB hA
        replace hK := Tr.trans hK ht166
        replace hB := Nat.le_trans hB ht166.ex.size
        replace hA := ht166.new
        replace hH : Hp w.heap.size A147 (World.putObj w161 D145 (.deferred none)) (obC b24 [.int .i64 7] 25 :: obC b19 [.int .i64 0] 3 :: obC b14 [.int .i64 z98.1.2.2] 3 :: obO D145 (.deferred none) :: []) := hH165
        refine C_ret ?_
        try simp only [↓inBlock_ret, ↓then_ret]
        exact retM1 rfl h164 (Res.l2 Try.results41 (RL.cell rfl (loadVar_one (Hp.cell (j := 0) hH (i := 1) rfl rfl) Try.isAgg3)) (RL.cell rfl (loadVar_one (Hp.cell (j := 0) hH (i := 0) rfl rfl) Try.isAgg25))) ⟨rfl, hK.kp⟩

set_option maxRecDepth 4000 in
set_option maxHeartbeats 4000000 in
theorem portref2_ZoneFault_1_c (w : World) (n : Int) : Ret Try.prog 55 #[.int .i64 n] w fun v w' => v = .bool (portref2_ZoneFault_1 n) ∧ w = w' := by
  generalize hm : portref2_ZoneFault_1 n = r
  unfold portref2_ZoneFault_1 at hm
  refine enter Try.func55 rfl Try.ntmps55 rfl ?_
  refine C_seq ?_
  refine C_region ?_
  refine V_y (Y_assign rfl) rfl rfl rfl ?_
  refine V_to (fun _ _ => rfl) ?_
  refine C_seq ?_
  refine C_region ?_
  refine V_y (Y_move rfl) rfl rfl rfl ?_
  refine V_y (Y_lss rfl rfl) rfl rfl rfl ?_
  refine V_y (Y_move rfl) rfl rfl rfl ?_
  refine V_cut 3 (fun _ : Unit => [(8, .bool ((decide (n < (-1440))) || (decide ((1440 : Int) < n))))]) (fun _ w' => w = w') ?_ ?_
  · simp only [List.take, List.drop]
    rcases Bool.eq_false_or_eq_true (decide (n < (-1440))) with hc1 | hc1
    · refine V_gn rfl rfl rfl hc1 rfl rfl rfl ?_
      refine V_gn rfl rfl rfl hc1 rfl rfl rfl ?_
      refine V_y (Y_pick_te rfl hc1 rfl) rfl rfl rfl ?_
      exact V_end fun a ha => ⟨(), ha.sub ⟨(by rw [hc1]; rfl), trivial⟩, rfl⟩
    · refine V_ge rfl rfl rfl hc1 ?_
      refine V_y (Y_move rfl) rfl rfl rfl ?_
      refine V_ge rfl rfl rfl hc1 ?_
      refine V_y (Y_gtr rfl rfl) rfl rfl rfl ?_
      refine V_y (Y_pick_fe rfl hc1 rfl) rfl rfl rfl ?_
      exact V_end fun a ha => ⟨(), ha.sub ⟨(by rw [hc1]; rfl), trivial⟩, rfl⟩
  simp only [List.take, List.drop]
  rintro _ _ rfl
  refine V_y (Y_assign rfl) rfl rfl rfl ?_
  refine V_to (fun _ _ => rfl) ?_
  obtain rfl := hm
  refine C_ret ?_
  try simp only [↓inBlock_ret, ↓then_ret]
  exact retQ rfl (Res.one Try.results55 rfl) ⟨rfl, rfl⟩

end Go.Proofs.Ytjmgafmjendnaaa.W
