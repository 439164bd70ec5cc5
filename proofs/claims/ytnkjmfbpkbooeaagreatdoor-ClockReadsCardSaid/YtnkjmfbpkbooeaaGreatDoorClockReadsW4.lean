/-
  Written by program (gen.py) from the IR of the dump: each function computes its model.
-/
import Derived.Test.YtnkjmfbpkbooeaaGreatDoorClockReadsW3
namespace Go.Proofs.YtnkjmfbpkbooeaaGreatDoor.W
open Go Go.RowKit Go.Pu Go.Gw Go.Proofs Go.Proofs.YtnkjmfbpkbooeaaGreatDoor.M
set_option linter.unusedVariables false
set_option linter.unusedSimpArgs false
variable {Dw : Prop}

set_option maxRecDepth 4000 in
set_option maxHeartbeats 4000000 in
theorem portref2_Alike_c (w : World) {A : Nat → Prop} (hA : ∀ b, w.heap.size ≤ b → A b) (a_ : level_Clock) (v_a_ : Value) (h_a_ : Sl A w v_a_ a_.pieces) (b : level_Clock) (v_b : Value) (h_b : Sl A w v_b b.pieces) {r : Bool} (hm : portref2_Alike a_ b = some r) : Ret Tryz.prog 6 #[.iface 24 (.agg #[.int .i64 a_.kind, .int .i64 a_.level, .int .i64 a_.minutes, .int .i64 a_.start, .int .i64 a_.stop, .int .i64 a_.end_, v_a_]), .iface 24 (.agg #[.int .i64 b.kind, .int .i64 b.level, .int .i64 b.minutes, .int .i64 b.start, .int .i64 b.stop, .int .i64 b.end_, v_b])] w fun v w' => v = .bool r ∧ Kp Dw w w' := by
  unfold portref2_Alike at hm
  refine enter Tryz.func6 rfl Tryz.ntmps6 rfl ?_
  have hA0 := hA
  have hB := Nat.le_refl w.heap.size
  have hK : Tr Dw w.heap.size A w A w := Tr.refl (Dw := Dw) hA
  have hH : Hp w.heap.size A w [] := Hp.nil
  refine C_seq ?_
  refine C_region ?_
  refine V_y (Y_assign rfl) rfl rfl rfl ?_
  refine V_to (fun _ _ => rfl) ?_
  refine C_seq ?_
  refine C_seq ?_
  refine C_region ?_
  refine V_y (Y_move rfl) rfl rfl rfl ?_
  refine V_to (fun _ _ => rfl) ?_
  refine C_block ?_
  refine C_seq ?_
  refine C_region ?_
  refine V_y (Y_asNS Tryz.underlying49 Tryz.zeroValue49 (by decide) rfl) rfl rfl rfl ?_
  refine V_y (Y_extract rfl rfl) rfl rfl rfl ?_
  refine V_y (Y_extract rfl rfl) rfl rfl rfl ?_
  refine V_to (fun _ _ => rfl) ?_
  refine C_cond rfl (fun hc => ?_) (fun hc => ?_)
  · exact absurd hc (by decide)
  · refine C_seq ?_
    refine C_region ?_
    refine V_y (Y_asNL Tryz.underlying61 Tryz.zeroValue61 (by decide) rfl) rfl rfl rfl ?_
    refine V_y (Y_extract rfl rfl) rfl rfl rfl ?_
    refine V_y (Y_extract rfl rfl) rfl rfl rfl ?_
    refine V_to (fun _ _ => rfl) ?_
    refine C_cond rfl (fun hc => ?_) (fun hc => ?_)
    · exact absurd hc (by decide)
    · refine C_seq ?_
      refine C_region ?_
      refine V_y (Y_asNL Tryz.underlying71 Tryz.zeroValue71 (by decide) rfl) rfl rfl rfl ?_
      refine V_y (Y_extract rfl rfl) rfl rfl rfl ?_
      refine V_y (Y_extract rfl rfl) rfl rfl rfl ?_
      refine V_to (fun _ _ => rfl) ?_
      refine C_cond rfl (fun hc => ?_) (fun hc => ?_)
      · exact absurd hc (by decide)
      · refine C_seq ?_
        refine C_region ?_
        refine V_y (Y_asNS Tryz.underlying80 Tryz.zeroValue80 (by decide) rfl) rfl rfl rfl ?_
        refine V_y (Y_extract rfl rfl) rfl rfl rfl ?_
        refine V_y (Y_extract rfl rfl) rfl rfl rfl ?_
        refine V_to (fun _ _ => rfl) ?_
        refine C_cond rfl (fun hc => ?_) (fun hc => ?_)
        · exact absurd hc (by decide)
        · refine C_seq ?_
          refine C_region ?_
          refine V_y (Y_asNS Tryz.underlying94 Tryz.zeroValue94 (by decide) rfl) rfl rfl rfl ?_
          refine V_y (Y_extract rfl rfl) rfl rfl rfl ?_
          refine V_y (Y_extract rfl rfl) rfl rfl rfl ?_
          refine V_to (fun _ _ => rfl) ?_
          refine C_cond rfl (fun hc => ?_) (fun hc => ?_)
          · exact absurd hc (by decide)
          · refine C_seq ?_
            refine C_region ?_
            refine V_y (Y_asNL Tryz.underlying100 Tryz.zeroValue100 (by decide) rfl) rfl rfl rfl ?_
            refine V_y (Y_extract rfl rfl) rfl rfl rfl ?_
            refine V_y (Y_extract rfl rfl) rfl rfl rfl ?_
            refine V_to (fun _ _ => rfl) ?_
            refine C_cond rfl (fun hc => ?_) (fun hc => ?_)
            · exact absurd hc (by decide)
            · refine C_seq ?_
              refine C_region ?_
              refine V_y (Y_asNL Tryz.underlying110 Tryz.zeroValue110 (by decide) rfl) rfl rfl rfl ?_
              refine V_y (Y_extract rfl rfl) rfl rfl rfl ?_
              refine V_y (Y_extract rfl rfl) rfl rfl rfl ?_
              refine V_to (fun _ _ => rfl) ?_
              refine C_cond rfl (fun hc => ?_) (fun hc => ?_)
              · exact absurd hc (by decide)
              · refine C_seq ?_
                refine C_region ?_
                refine V_y (Y_asNS Tryz.underlying118 Tryz.zeroValue118 (by decide) rfl) rfl rfl rfl ?_
                refine V_y (Y_extract rfl rfl) rfl rfl rfl ?_
                refine V_y (Y_extract rfl rfl) rfl rfl rfl ?_
                refine V_to (fun _ _ => rfl) ?_
                refine C_cond rfl (fun hc => ?_) (fun hc => ?_)
                · exact absurd hc (by decide)
                · refine C_seq ?_
                  refine C_region ?_
                  refine V_y (Y_asNL Tryz.underlying134 Tryz.zeroValue134 (by decide) rfl) rfl rfl rfl ?_
                  refine V_y (Y_extract rfl rfl) rfl rfl rfl ?_
                  refine V_y (Y_extract rfl rfl) rfl rfl rfl ?_
                  refine V_to (fun _ _ => rfl) ?_
                  refine C_cond rfl (fun hc => ?_) (fun hc => ?_)
                  · exact absurd hc (by decide)
                  · refine C_seq ?_
                    refine C_region ?_
                    refine V_y (Y_asNL Tryz.underlying142 Tryz.zeroValue142 (by decide) rfl) rfl rfl rfl ?_
                    refine V_y (Y_extract rfl rfl) rfl rfl rfl ?_
                    refine V_y (Y_extract rfl rfl) rfl rfl rfl ?_
                    refine V_to (fun _ _ => rfl) ?_
                    refine C_cond rfl (fun hc => ?_) (fun hc => ?_)
                    · exact absurd hc (by decide)
                    · refine C_seq ?_
                      refine C_region ?_
                      refine V_y (Y_asIS Tryz.underlying24 rfl) rfl rfl rfl ?_
                      refine V_y (Y_extract rfl rfl) rfl rfl rfl ?_
                      refine V_y (Y_extract rfl rfl) rfl rfl rfl ?_
                      refine V_to (fun _ _ => rfl) ?_
                      refine C_cond rfl (fun hc => ?_) (fun hc => ?_)
                      · refine C_seq ?_
                        refine C_region ?_
                        refine V_alloc Tryz.zeroValue24 rfl ?_
                        intro b5 w6 h7
                        have h13 : (v_a_).oneCell' = true := by obtain ⟨_, _, e, _⟩ := Sl.form h_a_; rw [e]; rfl
                        refine V_storeNew h7 Tryz.sizeOf24 rfl rfl rfl rfl (by exact (List.forall_mem_cons.2 ⟨rfl, (List.forall_mem_cons.2 ⟨rfl, (List.forall_mem_cons.2 ⟨rfl, (List.forall_mem_cons.2 ⟨rfl, (List.forall_mem_cons.2 ⟨rfl, (List.forall_mem_cons.2 ⟨rfl, (List.forall_mem_cons.2 ⟨h13, (fun _ h => nomatch h)⟩)⟩)⟩)⟩)⟩)⟩)⟩)) ?_
                        intro w9 h10
                        have hk15 := h10.kp (Dw := Dw)
                        have h14 : El (α := level_Clock) A w9 b5 0 a_ := h10.el hA ⟨[.int .i64 a_.kind], _, rfl, rfl, ⟨[.int .i64 a_.level], _, rfl, rfl, ⟨[.int .i64 a_.minutes], _, rfl, rfl, ⟨[.int .i64 a_.start], _, rfl, rfl, ⟨[.int .i64 a_.stop], _, rfl, rfl, ⟨[.int .i64 a_.end_], _, rfl, rfl, ⟨_, rfl, h_a_⟩⟩⟩⟩⟩⟩⟩
                        have ht16 := Kp.tr (Dw := Dw) hk15 hA hB
                        replace hH := Hp.kp (Dw := Dw) hH hk15
                        replace h_b := Sl.tr (Dw := Dw) h_b ht16
                        replace h_a_ := Sl.tr (Dw := Dw) h_a_ ht16
                        replace hK := Tr.trans (Dw := Dw) hK ht16
                        replace hB := Nat.le_trans hB ht16.ex.size
                        replace hA := ht16.new
                        refine V_to (fun _ _ => rfl) ?_
                        refine C_seq ?_
                        refine C_region ?_
                        refine V_y (Y_move rfl) rfl rfl rfl ?_
                        refine V_y (Y_asIS Tryz.underlying24 rfl) rfl rfl rfl ?_
                        refine V_y (Y_move rfl) rfl rfl rfl ?_
                        refine V_y (Y_extract rfl rfl) rfl rfl rfl ?_
                        refine V_y (Y_extract rfl rfl) rfl rfl rfl ?_
                        refine V_alloc Tryz.zeroValue24 rfl ?_
                        intro b17 w18 h19
                        have h24 : (v_b).oneCell' = true := by obtain ⟨_, _, e, _⟩ := Sl.form h_b; rw [e]; rfl
                        refine V_storeNew h19 Tryz.sizeOf24 rfl rfl rfl rfl (by exact (List.forall_mem_cons.2 ⟨rfl, (List.forall_mem_cons.2 ⟨rfl, (List.forall_mem_cons.2 ⟨rfl, (List.forall_mem_cons.2 ⟨rfl, (List.forall_mem_cons.2 ⟨rfl, (List.forall_mem_cons.2 ⟨rfl, (List.forall_mem_cons.2 ⟨h24, (fun _ h => nomatch h)⟩)⟩)⟩)⟩)⟩)⟩)⟩)) ?_
                        intro w20 h21
                        have hk26 := h21.kp (Dw := Dw)
                        have h25 : El (α := level_Clock) A w20 b17 0 b := h21.el hA ⟨[.int .i64 b.kind], _, rfl, rfl, ⟨[.int .i64 b.level], _, rfl, rfl, ⟨[.int .i64 b.minutes], _, rfl, rfl, ⟨[.int .i64 b.start], _, rfl, rfl, ⟨[.int .i64 b.stop], _, rfl, rfl, ⟨[.int .i64 b.end_], _, rfl, rfl, ⟨_, rfl, h_b⟩⟩⟩⟩⟩⟩⟩
                        have ht27 := Kp.tr (Dw := Dw) hk26 hA hB
                        replace hH := Hp.kp (Dw := Dw) hH hk26
                        replace h_b := Sl.tr (Dw := Dw) h_b ht27
                        replace h14 := El.tr (Dw := Dw) h14 ht27
                        replace hK := Tr.trans (Dw := Dw) hK ht27
                        replace hB := Nat.le_trans hB ht27.ex.size
                        replace hA := ht27.new
                        refine V_y (Y_assign rfl) rfl rfl rfl ?_
                        refine V_to (fun _ _ => rfl) ?_
                        refine C_seq ?_
                        obtain ⟨s29, ho28, hm⟩ := Option.bind_eq_some_iff.1 hm
                        refine C_cutG (ι := (Nat → Prop)) (fun (A34 : (Nat → Prop)) => [(4, .bool s29)]) (fun (A34 : (Nat → Prop)) => fun w' => Hp w.heap.size A34 w' ([]) ∧ Tr Dw w.heap.size A w20 A34 w') ?_ ?_
                        · have hr30 : Tr Dw w.heap.size A w20 A w20 := Tr.refl (Dw := Dw) hA
                          refine C_region ?_
                          refine V_y (Y_move rfl) rfl rfl rfl ?_
                          refine V_y (Y_move rfl) rfl rfl rfl ?_
                          rcases Bool.eq_false_or_eq_true (true) with hc36 | hc36
                          · rw [if_pos hc36] at ho28
                            refine V_ge rfl rfl rfl hc36 ?_
                            obtain ⟨v37, h39, h38⟩ := El_level_Clock h14
                            refine V_y (Y_loadA h39 Tryz.isAgg24 Tryz.sizeOf24 rfl) rfl rfl rfl ?_
                            refine V_ge rfl rfl rfl hc36 ?_
                            obtain ⟨v40, h42, h41⟩ := El_level_Clock h25
                            refine V_y (Y_loadA h42 Tryz.isAgg24 Tryz.sizeOf24 rfl) rfl rfl rfl ?_
                            refine V_ge rfl rfl rfl hc36 ?_
                            obtain ⟨x43, hx43, ho28⟩ := Option.bind_eq_some_iff.1 ho28
                            refine V_call Tryz.call44 rfl rfl rfl rfl (portref2_alikeClock_c (Dw := Dw) w20 hA a_ v37 h38 b v40 h41 hx43) ?_
                            rintro _ w44 ⟨rfl, hk45⟩
                            have ht46 := Kp.tr (Dw := Dw) hk45 hA hB
                            replace hH := Hp.kp (Dw := Dw) hH hk45
                            replace h14 := El.tr (Dw := Dw) h14 ht46
                            replace h25 := El.tr (Dw := Dw) h25 ht46
                            replace h38 := Sl.tr (Dw := Dw) h38 ht46
                            replace h41 := Sl.tr (Dw := Dw) h41 ht46
                            replace hK := Tr.trans (Dw := Dw) hK ht46
                            replace hr30 := Tr.trans (Dw := Dw) hr30 ht46
                            replace hB := Nat.le_trans hB ht46.ex.size
                            replace hA := ht46.new
                            refine V_y (Y_pick_te rfl hc36 rfl) rfl rfl rfl ?_
                            refine V_y (Y_assign rfl) rfl rfl rfl ?_
                            obtain rfl := Option.some.inj ho28
                            refine V_end (fun a ha47 => ?_)
                            exact ⟨A, ha47.sub ⟨rfl, trivial⟩, ⟨hH, hr30⟩⟩
                          · rw [if_neg (nt hc36)] at ho28
                            refine V_gn rfl rfl rfl hc36 rfl rfl rfl ?_
                            refine V_gn rfl rfl rfl hc36 rfl rfl rfl ?_
                            refine V_gn rfl rfl rfl hc36 rfl rfl rfl ?_
                            refine V_y (Y_pick_fe rfl hc36 rfl) rfl rfl rfl ?_
                            refine V_y (Y_assign rfl) rfl rfl rfl ?_
                            obtain rfl := Option.some.inj ho28
                            refine V_end (fun a ha48 => ?_)
                            exact ⟨A, ha48.sub ⟨rfl, trivial⟩, ⟨hH, hr30⟩⟩
                        rintro A34 w31 ⟨hH35, hk32⟩ a ha33
                        replace hK := Tr.trans (Dw := Dw) hK hk32
                        replace hB := Nat.le_trans hB hk32.ex.size
                        replace hA := hk32.new
                        replace hH : Hp w.heap.size A34 w31 ([]) := hH35
                        refine C_at (n := ⟨248, [], none⟩) (fun _ _ => rfl) ?_ ha33
                        obtain rfl := Option.some.inj hm
                        refine C_ret ?_
                        try simp only [↓inBlock_ret, ↓then_ret]
                        exact retQ rfl (Res.one Tryz.results6 rfl) ⟨rfl, hK.kp⟩
                      · exact absurd hc (by decide)

set_option maxRecDepth 4000 in
set_option maxHeartbeats 4000000 in
theorem portlaw2_ClockReads_c (w : World) {A : Nat → Prop} (hA : ∀ b, w.heap.size ≤ b → A b) (hT : Fz Tryz_FR A w) (s : ByteArray) {r : Bool} (hm : portlaw2_ClockReads s = some r) : Ret Tryz.prog 3 #[.string s] w fun v w' => v = .bool r ∧ Kp False w w' := by
  unfold portlaw2_ClockReads at hm
  refine enter Tryz.func3 rfl Tryz.ntmps3 rfl ?_
  have hA0 := hA
  have hB := Nat.le_refl w.heap.size
  have hK : Tr False w.heap.size A w A w := Tr.refl (Dw := False) hA
  have hH : Hp w.heap.size A w [] := Hp.nil
  refine C_seq ?_
  refine C_region ?_
  refine V_y (Y_assign rfl) rfl rfl rfl ?_
  refine V_to (fun _ _ => rfl) ?_
  refine C_seq ?_
  refine C_region ?_
  refine V_y (Y_move rfl) rfl rfl rfl ?_
  obtain ⟨x1, hx1, hm⟩ := Option.bind_eq_some_iff.1 hm
  refine V_call Tryz.call4 rfl rfl rfl rfl (level_ReadClock_c w hA (Fz.tr (Dw := False) hT hK) s hx1) ?_
  rintro _ w4 ⟨v2, rfl, h3, hk5⟩
  have ht6 := Kp.tr (Dw := False) hk5 hA hB
  replace hH := Hp.kp (Dw := False) hH hk5
  replace hK := Tr.trans (Dw := False) hK ht6
  replace hB := Nat.le_trans hB ht6.ex.size
  replace hA := ht6.new
  refine V_y (Y_move rfl) rfl rfl rfl ?_
  refine V_y (Y_extract rfl rfl) rfl rfl rfl ?_
  refine V_y (Y_extract rfl rfl) rfl rfl rfl ?_
  refine V_alloc Tryz.zeroValue24 rfl ?_
  intro b7 w9 h10
  have h15 : (v2).oneCell' = true := by obtain ⟨_, _, e, _⟩ := Sl.form h3; rw [e]; rfl
  refine V_storeNew h10 Tryz.sizeOf24 rfl rfl rfl rfl (by exact (List.forall_mem_cons.2 ⟨rfl, (List.forall_mem_cons.2 ⟨rfl, (List.forall_mem_cons.2 ⟨rfl, (List.forall_mem_cons.2 ⟨rfl, (List.forall_mem_cons.2 ⟨rfl, (List.forall_mem_cons.2 ⟨rfl, (List.forall_mem_cons.2 ⟨h15, (fun _ h => nomatch h)⟩)⟩)⟩)⟩)⟩)⟩)⟩)) ?_
  intro w11 h12
  have hk17 := h12.kp (Dw := False)
  have h16 : El (α := level_Clock) A w11 b7 0 x1.1 := h12.el hA ⟨[.int .i64 x1.1.kind], _, rfl, rfl, ⟨[.int .i64 x1.1.level], _, rfl, rfl, ⟨[.int .i64 x1.1.minutes], _, rfl, rfl, ⟨[.int .i64 x1.1.start], _, rfl, rfl, ⟨[.int .i64 x1.1.stop], _, rfl, rfl, ⟨[.int .i64 x1.1.end_], _, rfl, rfl, ⟨_, rfl, h3⟩⟩⟩⟩⟩⟩⟩
  have ht18 := Kp.tr (Dw := False) hk17 hA hB
  replace hH := Hp.kp (Dw := False) hH hk17
  replace h3 := Sl.tr (Dw := False) h3 ht18
  replace hK := Tr.trans (Dw := False) hK ht18
  replace hB := Nat.le_trans hB ht18.ex.size
  replace hA := ht18.new
  refine V_y (Y_assign rfl) rfl rfl rfl ?_
  refine V_to (fun _ _ => rfl) ?_
  refine C_seq ?_
  refine C_region ?_
  refine V_y (Y_move rfl) rfl rfl rfl ?_
  obtain ⟨x19, hx19, hm⟩ := Option.bind_eq_some_iff.1 hm
  refine V_call Tryz.call5 rfl rfl rfl rfl (portref2_ReadClockOf_c w11 hA (Fz.tr (Dw := False) hT hK) s hx19) ?_
  rintro _ w22 ⟨v20, rfl, h21, hk23⟩
  have ht24 := Kp.tr (Dw := False) hk23 hA hB
  replace hH := Hp.kp (Dw := False) hH hk23
  replace h16 := El.tr (Dw := False) h16 ht24
  replace hK := Tr.trans (Dw := False) hK ht24
  replace hB := Nat.le_trans hB ht24.ex.size
  replace hA := ht24.new
  refine V_y (Y_move rfl) rfl rfl rfl ?_
  refine V_y (Y_extract rfl rfl) rfl rfl rfl ?_
  refine V_y (Y_extract rfl rfl) rfl rfl rfl ?_
  refine V_alloc Tryz.zeroValue24 rfl ?_
  intro b25 w26 h27
  have h32 : (v20).oneCell' = true := by obtain ⟨_, _, e, _⟩ := Sl.form h21; rw [e]; rfl
  refine V_storeNew h27 Tryz.sizeOf24 rfl rfl rfl rfl (by exact (List.forall_mem_cons.2 ⟨rfl, (List.forall_mem_cons.2 ⟨rfl, (List.forall_mem_cons.2 ⟨rfl, (List.forall_mem_cons.2 ⟨rfl, (List.forall_mem_cons.2 ⟨rfl, (List.forall_mem_cons.2 ⟨rfl, (List.forall_mem_cons.2 ⟨h32, (fun _ h => nomatch h)⟩)⟩)⟩)⟩)⟩)⟩)⟩)) ?_
  intro w28 h29
  have hk34 := h29.kp (Dw := False)
  have h33 : El (α := level_Clock) A w28 b25 0 x19.1 := h29.el hA ⟨[.int .i64 x19.1.kind], _, rfl, rfl, ⟨[.int .i64 x19.1.level], _, rfl, rfl, ⟨[.int .i64 x19.1.minutes], _, rfl, rfl, ⟨[.int .i64 x19.1.start], _, rfl, rfl, ⟨[.int .i64 x19.1.stop], _, rfl, rfl, ⟨[.int .i64 x19.1.end_], _, rfl, rfl, ⟨_, rfl, h21⟩⟩⟩⟩⟩⟩⟩
  have ht35 := Kp.tr (Dw := False) hk34 hA hB
  replace hH := Hp.kp (Dw := False) hH hk34
  replace h16 := El.tr (Dw := False) h16 ht35
  replace h21 := Sl.tr (Dw := False) h21 ht35
  replace hK := Tr.trans (Dw := False) hK ht35
  replace hB := Nat.le_trans hB ht35.ex.size
  replace hA := ht35.new
  refine V_y (Y_assign rfl) rfl rfl rfl ?_
  refine V_to (fun _ _ => rfl) ?_
  refine C_seq ?_
  obtain ⟨s37, ho36, hm⟩ := Option.bind_eq_some_iff.1 hm
  refine C_cutG (ι := (Nat → Prop)) (fun (A42 : (Nat → Prop)) => [(2, .bool s37)]) (fun (A42 : (Nat → Prop)) => fun w' => Hp w.heap.size A42 w' ([]) ∧ Tr False w.heap.size A w28 A42 w') ?_ ?_
  · have hr38 : Tr False w.heap.size A w28 A w28 := Tr.refl (Dw := False) hA
    refine C_region ?_
    refine V_y (Y_move rfl) rfl rfl rfl ?_
    refine V_y (Y_move rfl) rfl rfl rfl ?_
    refine V_y (Y_eql rfl rfl) rfl rfl rfl ?_
    refine V_y (Y_move rfl) rfl rfl rfl ?_
    rcases Bool.eq_false_or_eq_true (x1.2 == x19.2) with hc44 | hc44
    · rw [if_pos hc44] at ho36
      refine V_ge rfl rfl rfl hc44 ?_
      obtain ⟨v45, h47, h46⟩ := El_level_Clock h16
      refine V_y (Y_loadA h47 Tryz.isAgg24 Tryz.sizeOf24 rfl) rfl rfl rfl ?_
      refine V_ge rfl rfl rfl hc44 ?_
      refine V_y (Y_mkIS Tryz.underlying24 rfl) rfl rfl rfl ?_
      refine V_ge rfl rfl rfl hc44 ?_
      obtain ⟨v48, h50, h49⟩ := El_level_Clock h33
      refine V_y (Y_loadA h50 Tryz.isAgg24 Tryz.sizeOf24 rfl) rfl rfl rfl ?_
      refine V_ge rfl rfl rfl hc44 ?_
      refine V_y (Y_mkIS Tryz.underlying24 rfl) rfl rfl rfl ?_
      refine V_ge rfl rfl rfl hc44 ?_
      obtain ⟨x51, hx51, ho36⟩ := Option.bind_eq_some_iff.1 ho36
      refine V_call Tryz.call6 rfl rfl rfl rfl (portref2_Alike_c (Dw := False) w28 hA x1.1 v45 h46 x19.1 v48 h49 hx51) ?_
      rintro _ w52 ⟨rfl, hk53⟩
      have ht54 := Kp.tr (Dw := False) hk53 hA hB
      replace hH := Hp.kp (Dw := False) hH hk53
      replace h16 := El.tr (Dw := False) h16 ht54
      replace h33 := El.tr (Dw := False) h33 ht54
      replace h46 := Sl.tr (Dw := False) h46 ht54
      replace h49 := Sl.tr (Dw := False) h49 ht54
      replace hK := Tr.trans (Dw := False) hK ht54
      replace hr38 := Tr.trans (Dw := False) hr38 ht54
      replace hB := Nat.le_trans hB ht54.ex.size
      replace hA := ht54.new
      refine V_y (Y_pick_te rfl hc44 rfl) rfl rfl rfl ?_
      refine V_y (Y_assign rfl) rfl rfl rfl ?_
      obtain rfl := Option.some.inj ho36
      refine V_end (fun a ha55 => ?_)
      exact ⟨A, ha55.sub ⟨rfl, trivial⟩, ⟨hH, hr38⟩⟩
    · rw [if_neg (nt hc44)] at ho36
      refine V_gn rfl rfl rfl hc44 rfl rfl rfl ?_
      refine V_gn rfl rfl rfl hc44 rfl rfl rfl ?_
      refine V_gn rfl rfl rfl hc44 rfl rfl rfl ?_
      refine V_gn rfl rfl rfl hc44 rfl rfl rfl ?_
      refine V_gn rfl rfl rfl hc44 rfl rfl rfl ?_
      refine V_y (Y_pick_fe rfl hc44 rfl) rfl rfl rfl ?_
      refine V_y (Y_assign rfl) rfl rfl rfl ?_
      obtain rfl := Option.some.inj ho36
      refine V_end (fun a ha56 => ?_)
      exact ⟨A, ha56.sub ⟨rfl, trivial⟩, ⟨hH, hr38⟩⟩
  rintro A42 w39 ⟨hH43, hk40⟩ a ha41
  replace hK := Tr.trans (Dw := False) hK hk40
  replace hB := Nat.le_trans hB hk40.ex.size
  replace hA := hk40.new
  replace hH : Hp w.heap.size A42 w39 ([]) := hH43
  refine C_at (n := ⟨27, [], none⟩) (fun _ _ => rfl) ?_ ha41
  obtain rfl := Option.some.inj hm
  refine C_ret ?_
  try simp only [↓inBlock_ret, ↓then_ret]
  exact retQ rfl (Res.one Tryz.results3 rfl) ⟨rfl, hK.kp⟩

end Go.Proofs.YtnkjmfbpkbooeaaGreatDoor.W
