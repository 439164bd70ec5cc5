/-
  Written by program (gen.py) from the IR of the dump: each function computes its model.
-/
import Derived.Test.YtnkjmfbpkbooeaaGreatDoorClockReadsW2
namespace Go.Proofs.YtnkjmfbpkbooeaaGreatDoor.W
open Go Go.RowKit Go.Pu Go.Gw Go.Proofs Go.Proofs.YtnkjmfbpkbooeaaGreatDoor.M
set_option linter.unusedVariables false
set_option linter.unusedSimpArgs false
variable {Dw : Prop}

set_option maxRecDepth 4000 in
set_option maxHeartbeats 4000000 in
theorem portref2_alikeClock_c (w : World) {A : Nat → Prop} (hA : ∀ b, w.heap.size ≤ b → A b) (a_ : level_Clock) (v_a_ : Value) (h_a_ : Sl A w v_a_ a_.pieces) (b : level_Clock) (v_b : Value) (h_b : Sl A w v_b b.pieces) {r : Bool} (hm : portref2_alikeClock a_ b = some r) : Ret Tryz.prog 44 #[.agg #[.int .i64 a_.kind, .int .i64 a_.level, .int .i64 a_.minutes, .int .i64 a_.start, .int .i64 a_.stop, .int .i64 a_.end_, v_a_], .agg #[.int .i64 b.kind, .int .i64 b.level, .int .i64 b.minutes, .int .i64 b.start, .int .i64 b.stop, .int .i64 b.end_, v_b]] w fun v w' => v = .bool r ∧ Kp Dw w w' := by
  unfold portref2_alikeClock at hm
  refine enter Tryz.func44 rfl Tryz.ntmps44 rfl ?_
  have hA0 := hA
  have hB := Nat.le_refl w.heap.size
  have hK : Tr Dw w.heap.size A w A w := Tr.refl (Dw := Dw) hA
  have hH : Hp w.heap.size A w [] := Hp.nil
  refine C_seq ?_
  refine C_region ?_
  refine V_box rfl rfl ?_
  intro b5 w6 h7
  have hk9 := h7.kp (Dw := Dw)
  have h8 : El (α := level_Clock) A w6 b5 0 a_ := h7.el hA ⟨[.int .i64 a_.kind], _, rfl, rfl, ⟨[.int .i64 a_.level], _, rfl, rfl, ⟨[.int .i64 a_.minutes], _, rfl, rfl, ⟨[.int .i64 a_.start], _, rfl, rfl, ⟨[.int .i64 a_.stop], _, rfl, rfl, ⟨[.int .i64 a_.end_], _, rfl, rfl, ⟨_, rfl, h_a_⟩⟩⟩⟩⟩⟩⟩
  have ht10 := Kp.tr (Dw := Dw) hk9 hA hB
  replace hH := Hp.kp (Dw := Dw) hH hk9
  replace h_a_ := Sl.tr (Dw := Dw) h_a_ ht10
  replace h_b := Sl.tr (Dw := Dw) h_b ht10
  replace hK := Tr.trans (Dw := Dw) hK ht10
  replace hB := Nat.le_trans hB ht10.ex.size
  replace hA := ht10.new
  refine V_box rfl rfl ?_
  intro b11 w12 h13
  have hk15 := h13.kp (Dw := Dw)
  have h14 : El (α := level_Clock) A w12 b11 0 b := h13.el hA ⟨[.int .i64 b.kind], _, rfl, rfl, ⟨[.int .i64 b.level], _, rfl, rfl, ⟨[.int .i64 b.minutes], _, rfl, rfl, ⟨[.int .i64 b.start], _, rfl, rfl, ⟨[.int .i64 b.stop], _, rfl, rfl, ⟨[.int .i64 b.end_], _, rfl, rfl, ⟨_, rfl, h_b⟩⟩⟩⟩⟩⟩⟩
  have ht16 := Kp.tr (Dw := Dw) hk15 hA hB
  replace hH := Hp.kp (Dw := Dw) hH hk15
  replace h_a_ := Sl.tr (Dw := Dw) h_a_ ht16
  replace h_b := Sl.tr (Dw := Dw) h_b ht16
  replace h8 := El.tr (Dw := Dw) h8 ht16
  replace hK := Tr.trans (Dw := Dw) hK ht16
  replace hB := Nat.le_trans hB ht16.ex.size
  replace hA := ht16.new
  refine V_y (Y_assign rfl) rfl rfl rfl ?_
  refine V_to (fun _ _ => rfl) ?_
  refine C_seq ?_
  obtain ⟨s18, ho17, hm⟩ := Option.bind_eq_some_iff.1 hm
  refine C_cutG (ι := (Nat → Prop)) (fun (A23 : (Nat → Prop)) => [(4, .bool s18)]) (fun (A23 : (Nat → Prop)) => fun w' => Hp w.heap.size A23 w' ([]) ∧ Tr Dw w.heap.size A w12 A23 w') ?_ ?_
  · have hr19 : Tr Dw w.heap.size A w12 A w12 := Tr.refl (Dw := Dw) hA
    refine C_region ?_
    have h25 := El_level_Clock_0 h8
    refine V_y (Y_fieldAddr Tryz.underlying24 rfl Tryz.sizeOf3 (by decide) rfl) rfl rfl rfl ?_
    refine V_y (Y_load (El.int h25) Tryz.isAgg3 rfl) rfl rfl rfl ?_
    have h26 := El_level_Clock_0 h14
    refine V_y (Y_fieldAddr Tryz.underlying24 rfl Tryz.sizeOf3 (by decide) rfl) rfl rfl rfl ?_
    refine V_y (Y_load (El.int h26) Tryz.isAgg3 rfl) rfl rfl rfl ?_
    refine V_y (Y_eql rfl rfl) rfl rfl rfl ?_
    refine V_y (Y_move rfl) rfl rfl rfl ?_
    rcases Bool.eq_false_or_eq_true (a_.kind == b.kind) with hc27 | hc27
    · rw [if_pos hc27] at ho17
      refine V_ge rfl rfl rfl hc27 ?_
      have h28 := El_level_Clock_1 h8
      refine V_y (Y_fieldAddr Tryz.underlying24 rfl Tryz.sizeOf3 (by decide) rfl) rfl rfl rfl ?_
      refine V_ge rfl rfl rfl hc27 ?_
      refine V_y (Y_load (El.int h28) Tryz.isAgg3 rfl) rfl rfl rfl ?_
      refine V_ge rfl rfl rfl hc27 ?_
      have h29 := El_level_Clock_1 h14
      refine V_y (Y_fieldAddr Tryz.underlying24 rfl Tryz.sizeOf3 (by decide) rfl) rfl rfl rfl ?_
      refine V_ge rfl rfl rfl hc27 ?_
      refine V_y (Y_load (El.int h29) Tryz.isAgg3 rfl) rfl rfl rfl ?_
      refine V_ge rfl rfl rfl hc27 ?_
      refine V_y (Y_eql rfl rfl) rfl rfl rfl ?_
      refine V_y (Y_pick_te rfl hc27 rfl) rfl rfl rfl ?_
      refine V_y (Y_move rfl) rfl rfl rfl ?_
      rcases Bool.eq_false_or_eq_true (a_.level == b.level) with hc30 | hc30
      · rw [if_pos hc30] at ho17
        refine V_ge rfl rfl rfl hc30 ?_
        have h31 := El_level_Clock_2 h8
        refine V_y (Y_fieldAddr Tryz.underlying24 rfl Tryz.sizeOf3 (by decide) rfl) rfl rfl rfl ?_
        refine V_ge rfl rfl rfl hc30 ?_
        refine V_y (Y_load (El.int h31) Tryz.isAgg3 rfl) rfl rfl rfl ?_
        refine V_ge rfl rfl rfl hc30 ?_
        have h32 := El_level_Clock_2 h14
        refine V_y (Y_fieldAddr Tryz.underlying24 rfl Tryz.sizeOf3 (by decide) rfl) rfl rfl rfl ?_
        refine V_ge rfl rfl rfl hc30 ?_
        refine V_y (Y_load (El.int h32) Tryz.isAgg3 rfl) rfl rfl rfl ?_
        refine V_ge rfl rfl rfl hc30 ?_
        refine V_y (Y_eql rfl rfl) rfl rfl rfl ?_
        refine V_y (Y_pick_te rfl hc30 rfl) rfl rfl rfl ?_
        refine V_y (Y_move rfl) rfl rfl rfl ?_
        rcases Bool.eq_false_or_eq_true (a_.minutes == b.minutes) with hc33 | hc33
        · rw [if_pos hc33] at ho17
          refine V_ge rfl rfl rfl hc33 ?_
          have h34 := El_level_Clock_3 h8
          refine V_y (Y_fieldAddr Tryz.underlying24 rfl Tryz.sizeOf3 (by decide) rfl) rfl rfl rfl ?_
          refine V_ge rfl rfl rfl hc33 ?_
          refine V_y (Y_load (El.int h34) Tryz.isAgg3 rfl) rfl rfl rfl ?_
          refine V_ge rfl rfl rfl hc33 ?_
          have h35 := El_level_Clock_3 h14
          refine V_y (Y_fieldAddr Tryz.underlying24 rfl Tryz.sizeOf3 (by decide) rfl) rfl rfl rfl ?_
          refine V_ge rfl rfl rfl hc33 ?_
          refine V_y (Y_load (El.int h35) Tryz.isAgg3 rfl) rfl rfl rfl ?_
          refine V_ge rfl rfl rfl hc33 ?_
          refine V_y (Y_eql rfl rfl) rfl rfl rfl ?_
          refine V_y (Y_pick_te rfl hc33 rfl) rfl rfl rfl ?_
          refine V_y (Y_move rfl) rfl rfl rfl ?_
          rcases Bool.eq_false_or_eq_true (a_.start == b.start) with hc36 | hc36
          · rw [if_pos hc36] at ho17
            refine V_ge rfl rfl rfl hc36 ?_
            have h37 := El_level_Clock_4 h8
            refine V_y (Y_fieldAddr Tryz.underlying24 rfl Tryz.sizeOf3 (by decide) rfl) rfl rfl rfl ?_
            refine V_ge rfl rfl rfl hc36 ?_
            refine V_y (Y_load (El.int h37) Tryz.isAgg3 rfl) rfl rfl rfl ?_
            refine V_ge rfl rfl rfl hc36 ?_
            have h38 := El_level_Clock_4 h14
            refine V_y (Y_fieldAddr Tryz.underlying24 rfl Tryz.sizeOf3 (by decide) rfl) rfl rfl rfl ?_
            refine V_ge rfl rfl rfl hc36 ?_
            refine V_y (Y_load (El.int h38) Tryz.isAgg3 rfl) rfl rfl rfl ?_
            refine V_ge rfl rfl rfl hc36 ?_
            refine V_y (Y_eql rfl rfl) rfl rfl rfl ?_
            refine V_y (Y_pick_te rfl hc36 rfl) rfl rfl rfl ?_
            refine V_y (Y_move rfl) rfl rfl rfl ?_
            rcases Bool.eq_false_or_eq_true (a_.stop == b.stop) with hc39 | hc39
            · rw [if_pos hc39] at ho17
              refine V_ge rfl rfl rfl hc39 ?_
              have h40 := El_level_Clock_5 h8
              refine V_y (Y_fieldAddr Tryz.underlying24 rfl Tryz.sizeOf3 (by decide) rfl) rfl rfl rfl ?_
              refine V_ge rfl rfl rfl hc39 ?_
              refine V_y (Y_load (El.int h40) Tryz.isAgg3 rfl) rfl rfl rfl ?_
              refine V_ge rfl rfl rfl hc39 ?_
              have h41 := El_level_Clock_5 h14
              refine V_y (Y_fieldAddr Tryz.underlying24 rfl Tryz.sizeOf3 (by decide) rfl) rfl rfl rfl ?_
              refine V_ge rfl rfl rfl hc39 ?_
              refine V_y (Y_load (El.int h41) Tryz.isAgg3 rfl) rfl rfl rfl ?_
              refine V_ge rfl rfl rfl hc39 ?_
              refine V_y (Y_eql rfl rfl) rfl rfl rfl ?_
              refine V_y (Y_pick_te rfl hc39 rfl) rfl rfl rfl ?_
              refine V_y (Y_move rfl) rfl rfl rfl ?_
              rcases Bool.eq_false_or_eq_true (a_.end_ == b.end_) with hc42 | hc42
              · rw [if_pos hc42] at ho17
                refine V_ge rfl rfl rfl hc42 ?_
                have h43 := El_level_Clock_6 h8
                refine V_y (Y_fieldAddr Tryz.underlying24 rfl Tryz.sizeOf22 (by decide) rfl) rfl rfl rfl ?_
                refine V_ge rfl rfl rfl hc42 ?_
                obtain ⟨v44, h45, h46⟩ := El.list h43
                refine V_y (Y_load h45 Tryz.isAgg22 rfl) rfl rfl rfl ?_
                refine V_ge rfl rfl rfl hc42 ?_
                have h47 := El_level_Clock_6 h14
                refine V_y (Y_fieldAddr Tryz.underlying24 rfl Tryz.sizeOf22 (by decide) rfl) rfl rfl rfl ?_
                refine V_ge rfl rfl rfl hc42 ?_
                obtain ⟨v48, h49, h50⟩ := El.list h47
                refine V_y (Y_load h49 Tryz.isAgg22 rfl) rfl rfl rfl ?_
                refine V_ge rfl rfl rfl hc42 ?_
                obtain ⟨x51, hx51, ho17⟩ := Option.bind_eq_some_iff.1 ho17
                refine V_call Tryz.call52 rfl rfl rfl rfl (slices_Equal_Llevel_Piece_level_Piece_c (Dw := Dw) w12 hA a_.pieces v44 h46 b.pieces v48 h50 hx51) ?_
                rintro _ w52 ⟨rfl, hk53⟩
                have ht54 := Kp.tr (Dw := Dw) hk53 hA hB
                replace hH := Hp.kp (Dw := Dw) hH hk53
                replace h8 := El.tr (Dw := Dw) h8 ht54
                replace h14 := El.tr (Dw := Dw) h14 ht54
                replace h25 := El.tr (Dw := Dw) h25 ht54
                replace h26 := El.tr (Dw := Dw) h26 ht54
                replace h28 := El.tr (Dw := Dw) h28 ht54
                replace h29 := El.tr (Dw := Dw) h29 ht54
                replace h31 := El.tr (Dw := Dw) h31 ht54
                replace h32 := El.tr (Dw := Dw) h32 ht54
                replace h34 := El.tr (Dw := Dw) h34 ht54
                replace h35 := El.tr (Dw := Dw) h35 ht54
                replace h37 := El.tr (Dw := Dw) h37 ht54
                replace h38 := El.tr (Dw := Dw) h38 ht54
                replace h40 := El.tr (Dw := Dw) h40 ht54
                replace h41 := El.tr (Dw := Dw) h41 ht54
                replace h43 := El.tr (Dw := Dw) h43 ht54
                replace h46 := Sl.tr (Dw := Dw) h46 ht54
                replace h47 := El.tr (Dw := Dw) h47 ht54
                replace h50 := Sl.tr (Dw := Dw) h50 ht54
                replace hK := Tr.trans (Dw := Dw) hK ht54
                replace hr19 := Tr.trans (Dw := Dw) hr19 ht54
                replace hB := Nat.le_trans hB ht54.ex.size
                replace hA := ht54.new
                refine V_y (Y_pick_te rfl hc42 rfl) rfl rfl rfl ?_
                refine V_y (Y_assign rfl) rfl rfl rfl ?_
                obtain rfl := Option.some.inj ho17
                refine V_end (fun a ha55 => ?_)
                exact ⟨A, ha55.sub ⟨rfl, trivial⟩, ⟨hH, hr19⟩⟩
              · rw [if_neg (nt hc42)] at ho17
                refine V_gn rfl rfl rfl hc42 rfl rfl rfl ?_
                refine V_gn rfl rfl rfl hc42 rfl rfl rfl ?_
                refine V_gn rfl rfl rfl hc42 rfl rfl rfl ?_
                refine V_gn rfl rfl rfl hc42 rfl rfl rfl ?_
                refine V_gn rfl rfl rfl hc42 rfl rfl rfl ?_
                refine V_y (Y_pick_fe rfl hc42 rfl) rfl rfl rfl ?_
                refine V_y (Y_assign rfl) rfl rfl rfl ?_
                obtain rfl := Option.some.inj ho17
                refine V_end (fun a ha56 => ?_)
                exact ⟨A, ha56.sub ⟨rfl, trivial⟩, ⟨hH, hr19⟩⟩
            · rw [if_neg (nt hc39)] at ho17
              refine V_gn rfl rfl rfl hc39 rfl rfl rfl ?_
              refine V_gn rfl rfl rfl hc39 rfl rfl rfl ?_
              refine V_gn rfl rfl rfl hc39 rfl rfl rfl ?_
              refine V_gn rfl rfl rfl hc39 rfl rfl rfl ?_
              refine V_gn rfl rfl rfl hc39 rfl rfl rfl ?_
              refine V_y (Y_pick_fe rfl hc39 rfl) rfl rfl rfl ?_
              refine V_y (Y_move rfl) rfl rfl rfl ?_
              rcases Bool.eq_false_or_eq_true (false) with hc57 | hc57
              · rw [if_pos hc57] at ho17
                refine V_ge rfl rfl rfl hc57 ?_
                have h58 := El_level_Clock_6 h8
                refine V_y (Y_fieldAddr Tryz.underlying24 rfl Tryz.sizeOf22 (by decide) rfl) rfl rfl rfl ?_
                refine V_ge rfl rfl rfl hc57 ?_
                obtain ⟨v59, h60, h61⟩ := El.list h58
                refine V_y (Y_load h60 Tryz.isAgg22 rfl) rfl rfl rfl ?_
                refine V_ge rfl rfl rfl hc57 ?_
                have h62 := El_level_Clock_6 h14
                refine V_y (Y_fieldAddr Tryz.underlying24 rfl Tryz.sizeOf22 (by decide) rfl) rfl rfl rfl ?_
                refine V_ge rfl rfl rfl hc57 ?_
                obtain ⟨v63, h64, h65⟩ := El.list h62
                refine V_y (Y_load h64 Tryz.isAgg22 rfl) rfl rfl rfl ?_
                refine V_ge rfl rfl rfl hc57 ?_
                obtain ⟨x66, hx66, ho17⟩ := Option.bind_eq_some_iff.1 ho17
                refine V_call Tryz.call52 rfl rfl rfl rfl (slices_Equal_Llevel_Piece_level_Piece_c (Dw := Dw) w12 hA a_.pieces v59 h61 b.pieces v63 h65 hx66) ?_
                rintro _ w67 ⟨rfl, hk68⟩
                have ht69 := Kp.tr (Dw := Dw) hk68 hA hB
                replace hH := Hp.kp (Dw := Dw) hH hk68
                replace h8 := El.tr (Dw := Dw) h8 ht69
                replace h14 := El.tr (Dw := Dw) h14 ht69
                replace h25 := El.tr (Dw := Dw) h25 ht69
                replace h26 := El.tr (Dw := Dw) h26 ht69
                replace h28 := El.tr (Dw := Dw) h28 ht69
                replace h29 := El.tr (Dw := Dw) h29 ht69
                replace h31 := El.tr (Dw := Dw) h31 ht69
                replace h32 := El.tr (Dw := Dw) h32 ht69
                replace h34 := El.tr (Dw := Dw) h34 ht69
                replace h35 := El.tr (Dw := Dw) h35 ht69
                replace h37 := El.tr (Dw := Dw) h37 ht69
                replace h38 := El.tr (Dw := Dw) h38 ht69
                replace h58 := El.tr (Dw := Dw) h58 ht69
                replace h61 := Sl.tr (Dw := Dw) h61 ht69
                replace h62 := El.tr (Dw := Dw) h62 ht69
                replace h65 := Sl.tr (Dw := Dw) h65 ht69
                replace hK := Tr.trans (Dw := Dw) hK ht69
                replace hr19 := Tr.trans (Dw := Dw) hr19 ht69
                replace hB := Nat.le_trans hB ht69.ex.size
                replace hA := ht69.new
                refine V_y (Y_pick_te rfl hc57 rfl) rfl rfl rfl ?_
                refine V_y (Y_assign rfl) rfl rfl rfl ?_
                obtain rfl := Option.some.inj ho17
                refine V_end (fun a ha70 => ?_)
                exact ⟨A, ha70.sub ⟨rfl, trivial⟩, ⟨hH, hr19⟩⟩
              · rw [if_neg (nt hc57)] at ho17
                refine V_gn rfl rfl rfl hc57 rfl rfl rfl ?_
                refine V_gn rfl rfl rfl hc57 rfl rfl rfl ?_
                refine V_gn rfl rfl rfl hc57 rfl rfl rfl ?_
                refine V_gn rfl rfl rfl hc57 rfl rfl rfl ?_
                refine V_gn rfl rfl rfl hc57 rfl rfl rfl ?_
                refine V_y (Y_pick_fe rfl hc57 rfl) rfl rfl rfl ?_
                refine V_y (Y_assign rfl) rfl rfl rfl ?_
                obtain rfl := Option.some.inj ho17
                refine V_end (fun a ha71 => ?_)
                exact ⟨A, ha71.sub ⟨rfl, trivial⟩, ⟨hH, hr19⟩⟩
          · rw [if_neg (nt hc36)] at ho17
            refine V_gn rfl rfl rfl hc36 rfl rfl rfl ?_
            refine V_gn rfl rfl rfl hc36 rfl rfl rfl ?_
            refine V_gn rfl rfl rfl hc36 rfl rfl rfl ?_
            refine V_gn rfl rfl rfl hc36 rfl rfl rfl ?_
            refine V_gn rfl rfl rfl hc36 rfl rfl rfl ?_
            refine V_y (Y_pick_fe rfl hc36 rfl) rfl rfl rfl ?_
            refine V_y (Y_move rfl) rfl rfl rfl ?_
            rcases Bool.eq_false_or_eq_true (false) with hc72 | hc72
            · rw [if_pos hc72] at ho17
              refine V_ge rfl rfl rfl hc72 ?_
              have h73 := El_level_Clock_5 h8
              refine V_y (Y_fieldAddr Tryz.underlying24 rfl Tryz.sizeOf3 (by decide) rfl) rfl rfl rfl ?_
              refine V_ge rfl rfl rfl hc72 ?_
              refine V_y (Y_load (El.int h73) Tryz.isAgg3 rfl) rfl rfl rfl ?_
              refine V_ge rfl rfl rfl hc72 ?_
              have h74 := El_level_Clock_5 h14
              refine V_y (Y_fieldAddr Tryz.underlying24 rfl Tryz.sizeOf3 (by decide) rfl) rfl rfl rfl ?_
              refine V_ge rfl rfl rfl hc72 ?_
              refine V_y (Y_load (El.int h74) Tryz.isAgg3 rfl) rfl rfl rfl ?_
              refine V_ge rfl rfl rfl hc72 ?_
              refine V_y (Y_eql rfl rfl) rfl rfl rfl ?_
              refine V_y (Y_pick_te rfl hc72 rfl) rfl rfl rfl ?_
              refine V_y (Y_move rfl) rfl rfl rfl ?_
              rcases Bool.eq_false_or_eq_true (a_.end_ == b.end_) with hc75 | hc75
              · rw [if_pos hc75] at ho17
                refine V_ge rfl rfl rfl hc75 ?_
                have h76 := El_level_Clock_6 h8
                refine V_y (Y_fieldAddr Tryz.underlying24 rfl Tryz.sizeOf22 (by decide) rfl) rfl rfl rfl ?_
                refine V_ge rfl rfl rfl hc75 ?_
                obtain ⟨v77, h78, h79⟩ := El.list h76
                refine V_y (Y_load h78 Tryz.isAgg22 rfl) rfl rfl rfl ?_
                refine V_ge rfl rfl rfl hc75 ?_
                have h80 := El_level_Clock_6 h14
                refine V_y (Y_fieldAddr Tryz.underlying24 rfl Tryz.sizeOf22 (by decide) rfl) rfl rfl rfl ?_
                refine V_ge rfl rfl rfl hc75 ?_
                obtain ⟨v81, h82, h83⟩ := El.list h80
                refine V_y (Y_load h82 Tryz.isAgg22 rfl) rfl rfl rfl ?_
                refine V_ge rfl rfl rfl hc75 ?_
                obtain ⟨x84, hx84, ho17⟩ := Option.bind_eq_some_iff.1 ho17
                refine V_call Tryz.call52 rfl rfl rfl rfl (slices_Equal_Llevel_Piece_level_Piece_c (Dw := Dw) w12 hA a_.pieces v77 h79 b.pieces v81 h83 hx84) ?_
                rintro _ w85 ⟨rfl, hk86⟩
                have ht87 := Kp.tr (Dw := Dw) hk86 hA hB
                replace hH := Hp.kp (Dw := Dw) hH hk86
                replace h8 := El.tr (Dw := Dw) h8 ht87
                replace h14 := El.tr (Dw := Dw) h14 ht87
                replace h25 := El.tr (Dw := Dw) h25 ht87
                replace h26 := El.tr (Dw := Dw) h26 ht87
                replace h28 := El.tr (Dw := Dw) h28 ht87
                replace h29 := El.tr (Dw := Dw) h29 ht87
                replace h31 := El.tr (Dw := Dw) h31 ht87
                replace h32 := El.tr (Dw := Dw) h32 ht87
                replace h34 := El.tr (Dw := Dw) h34 ht87
                replace h35 := El.tr (Dw := Dw) h35 ht87
                replace h73 := El.tr (Dw := Dw) h73 ht87
                replace h74 := El.tr (Dw := Dw) h74 ht87
                replace h76 := El.tr (Dw := Dw) h76 ht87
                replace h79 := Sl.tr (Dw := Dw) h79 ht87
                replace h80 := El.tr (Dw := Dw) h80 ht87
                replace h83 := Sl.tr (Dw := Dw) h83 ht87
                replace hK := Tr.trans (Dw := Dw) hK ht87
                replace hr19 := Tr.trans (Dw := Dw) hr19 ht87
                replace hB := Nat.le_trans hB ht87.ex.size
                replace hA := ht87.new
                refine V_y (Y_pick_te rfl hc75 rfl) rfl rfl rfl ?_
                refine V_y (Y_assign rfl) rfl rfl rfl ?_
                obtain rfl := Option.some.inj ho17
                refine V_end (fun a ha88 => ?_)
                exact ⟨A, ha88.sub ⟨rfl, trivial⟩, ⟨hH, hr19⟩⟩
              · rw [if_neg (nt hc75)] at ho17
                refine V_gn rfl rfl rfl hc75 rfl rfl rfl ?_
                refine V_gn rfl rfl rfl hc75 rfl rfl rfl ?_
                refine V_gn rfl rfl rfl hc75 rfl rfl rfl ?_
                refine V_gn rfl rfl rfl hc75 rfl rfl rfl ?_
                refine V_gn rfl rfl rfl hc75 rfl rfl rfl ?_
                refine V_y (Y_pick_fe rfl hc75 rfl) rfl rfl rfl ?_
                refine V_y (Y_assign rfl) rfl rfl rfl ?_
                obtain rfl := Option.some.inj ho17
                refine V_end (fun a ha89 => ?_)
                exact ⟨A, ha89.sub ⟨rfl, trivial⟩, ⟨hH, hr19⟩⟩
            · rw [if_neg (nt hc72)] at ho17
              refine V_gn rfl rfl rfl hc72 rfl rfl rfl ?_
              refine V_gn rfl rfl rfl hc72 rfl rfl rfl ?_
              refine V_gn rfl rfl rfl hc72 rfl rfl rfl ?_
              refine V_gn rfl rfl rfl hc72 rfl rfl rfl ?_
              refine V_gn rfl rfl rfl hc72 rfl rfl rfl ?_
              refine V_y (Y_pick_fe rfl hc72 rfl) rfl rfl rfl ?_
              refine V_y (Y_move rfl) rfl rfl rfl ?_
              rcases Bool.eq_false_or_eq_true (false) with hc90 | hc90
              · rw [if_pos hc90] at ho17
                refine V_ge rfl rfl rfl hc90 ?_
                have h91 := El_level_Clock_6 h8
                refine V_y (Y_fieldAddr Tryz.underlying24 rfl Tryz.sizeOf22 (by decide) rfl) rfl rfl rfl ?_
                refine V_ge rfl rfl rfl hc90 ?_
                obtain ⟨v92, h93, h94⟩ := El.list h91
                refine V_y (Y_load h93 Tryz.isAgg22 rfl) rfl rfl rfl ?_
                refine V_ge rfl rfl rfl hc90 ?_
                have h95 := El_level_Clock_6 h14
                refine V_y (Y_fieldAddr Tryz.underlying24 rfl Tryz.sizeOf22 (by decide) rfl) rfl rfl rfl ?_
                refine V_ge rfl rfl rfl hc90 ?_
                obtain ⟨v96, h97, h98⟩ := El.list h95
                refine V_y (Y_load h97 Tryz.isAgg22 rfl) rfl rfl rfl ?_
                refine V_ge rfl rfl rfl hc90 ?_
                obtain ⟨x99, hx99, ho17⟩ := Option.bind_eq_some_iff.1 ho17
                refine V_call Tryz.call52 rfl rfl rfl rfl (slices_Equal_Llevel_Piece_level_Piece_c (Dw := Dw) w12 hA a_.pieces v92 h94 b.pieces v96 h98 hx99) ?_
                rintro _ w100 ⟨rfl, hk101⟩
                have ht102 := Kp.tr (Dw := Dw) hk101 hA hB
                replace hH := Hp.kp (Dw := Dw) hH hk101
                replace h8 := El.tr (Dw := Dw) h8 ht102
                replace h14 := El.tr (Dw := Dw) h14 ht102
                replace h25 := El.tr (Dw := Dw) h25 ht102
                replace h26 := El.tr (Dw := Dw) h26 ht102
                replace h28 := El.tr (Dw := Dw) h28 ht102
                replace h29 := El.tr (Dw := Dw) h29 ht102
                replace h31 := El.tr (Dw := Dw) h31 ht102
                replace h32 := El.tr (Dw := Dw) h32 ht102
                replace h34 := El.tr (Dw := Dw) h34 ht102
                replace h35 := El.tr (Dw := Dw) h35 ht102
                replace h91 := El.tr (Dw := Dw) h91 ht102
                replace h94 := Sl.tr (Dw := Dw) h94 ht102
                replace h95 := El.tr (Dw := Dw) h95 ht102
                replace h98 := Sl.tr (Dw := Dw) h98 ht102
                replace hK := Tr.trans (Dw := Dw) hK ht102
                replace hr19 := Tr.trans (Dw := Dw) hr19 ht102
                replace hB := Nat.le_trans hB ht102.ex.size
                replace hA := ht102.new
                refine V_y (Y_pick_te rfl hc90 rfl) rfl rfl rfl ?_
                refine V_y (Y_assign rfl) rfl rfl rfl ?_
                obtain rfl := Option.some.inj ho17
                refine V_end (fun a ha103 => ?_)
                exact ⟨A, ha103.sub ⟨rfl, trivial⟩, ⟨hH, hr19⟩⟩
              · rw [if_neg (nt hc90)] at ho17
                refine V_gn rfl rfl rfl hc90 rfl rfl rfl ?_
                refine V_gn rfl rfl rfl hc90 rfl rfl rfl ?_
                refine V_gn rfl rfl rfl hc90 rfl rfl rfl ?_
                refine V_gn rfl rfl rfl hc90 rfl rfl rfl ?_
                refine V_gn rfl rfl rfl hc90 rfl rfl rfl ?_
                refine V_y (Y_pick_fe rfl hc90 rfl) rfl rfl rfl ?_
                refine V_y (Y_assign rfl) rfl rfl rfl ?_
                obtain rfl := Option.some.inj ho17
                refine V_end (fun a ha104 => ?_)
                exact ⟨A, ha104.sub ⟨rfl, trivial⟩, ⟨hH, hr19⟩⟩
        · rw [if_neg (nt hc33)] at ho17
          refine V_gn rfl rfl rfl hc33 rfl rfl rfl ?_
          refine V_gn rfl rfl rfl hc33 rfl rfl rfl ?_
          refine V_gn rfl rfl rfl hc33 rfl rfl rfl ?_
          refine V_gn rfl rfl rfl hc33 rfl rfl rfl ?_
          refine V_gn rfl rfl rfl hc33 rfl rfl rfl ?_
          refine V_y (Y_pick_fe rfl hc33 rfl) rfl rfl rfl ?_
          refine V_y (Y_move rfl) rfl rfl rfl ?_
          rcases Bool.eq_false_or_eq_true (false) with hc105 | hc105
          · rw [if_pos hc105] at ho17
            refine V_ge rfl rfl rfl hc105 ?_
            have h106 := El_level_Clock_4 h8
            refine V_y (Y_fieldAddr Tryz.underlying24 rfl Tryz.sizeOf3 (by decide) rfl) rfl rfl rfl ?_
            refine V_ge rfl rfl rfl hc105 ?_
            refine V_y (Y_load (El.int h106) Tryz.isAgg3 rfl) rfl rfl rfl ?_
            refine V_ge rfl rfl rfl hc105 ?_
            have h107 := El_level_Clock_4 h14
            refine V_y (Y_fieldAddr Tryz.underlying24 rfl Tryz.sizeOf3 (by decide) rfl) rfl rfl rfl ?_
            refine V_ge rfl rfl rfl hc105 ?_
            refine V_y (Y_load (El.int h107) Tryz.isAgg3 rfl) rfl rfl rfl ?_
            refine V_ge rfl rfl rfl hc105 ?_
            refine V_y (Y_eql rfl rfl) rfl rfl rfl ?_
            refine V_y (Y_pick_te rfl hc105 rfl) rfl rfl rfl ?_
            refine V_y (Y_move rfl) rfl rfl rfl ?_
            rcases Bool.eq_false_or_eq_true (a_.stop == b.stop) with hc108 | hc108
            · rw [if_pos hc108] at ho17
              refine V_ge rfl rfl rfl hc108 ?_
              have h109 := El_level_Clock_5 h8
              refine V_y (Y_fieldAddr Tryz.underlying24 rfl Tryz.sizeOf3 (by decide) rfl) rfl rfl rfl ?_
              refine V_ge rfl rfl rfl hc108 ?_
              refine V_y (Y_load (El.int h109) Tryz.isAgg3 rfl) rfl rfl rfl ?_
              refine V_ge rfl rfl rfl hc108 ?_
              have h110 := El_level_Clock_5 h14
              refine V_y (Y_fieldAddr Tryz.underlying24 rfl Tryz.sizeOf3 (by decide) rfl) rfl rfl rfl ?_
              refine V_ge rfl rfl rfl hc108 ?_
              refine V_y (Y_load (El.int h110) Tryz.isAgg3 rfl) rfl rfl rfl ?_
              refine V_ge rfl rfl rfl hc108 ?_
              refine V_y (Y_eql rfl rfl) rfl rfl rfl ?_
              refine V_y (Y_pick_te rfl hc108 rfl) rfl rfl rfl ?_
              refine V_y (Y_move rfl) rfl rfl rfl ?_
              rcases Bool.eq_false_or_eq_true (a_.end_ == b.end_) with hc111 | hc111
              · rw [if_pos hc111] at ho17
                refine V_ge rfl rfl rfl hc111 ?_
                have h112 := El_level_Clock_6 h8
                refine V_y (Y_fieldAddr Tryz.underlying24 rfl Tryz.sizeOf22 (by decide) rfl) rfl rfl rfl ?_
                refine V_ge rfl rfl rfl hc111 ?_
                obtain ⟨v113, h114, h115⟩ := El.list h112
                refine V_y (Y_load h114 Tryz.isAgg22 rfl) rfl rfl rfl ?_
                refine V_ge rfl rfl rfl hc111 ?_
                have h116 := El_level_Clock_6 h14
                refine V_y (Y_fieldAddr Tryz.underlying24 rfl Tryz.sizeOf22 (by decide) rfl) rfl rfl rfl ?_
                refine V_ge rfl rfl rfl hc111 ?_
                obtain ⟨v117, h118, h119⟩ := El.list h116
                refine V_y (Y_load h118 Tryz.isAgg22 rfl) rfl rfl rfl ?_
                refine V_ge rfl rfl rfl hc111 ?_
                obtain ⟨x120, hx120, ho17⟩ := Option.bind_eq_some_iff.1 ho17
                refine V_call Tryz.call52 rfl rfl rfl rfl (slices_Equal_Llevel_Piece_level_Piece_c (Dw := Dw) w12 hA a_.pieces v113 h115 b.pieces v117 h119 hx120) ?_
                rintro _ w121 ⟨rfl, hk122⟩
                have ht123 := Kp.tr (Dw := Dw) hk122 hA hB
                replace hH := Hp.kp (Dw := Dw) hH hk122
                replace h8 := El.tr (Dw := Dw) h8 ht123
                replace h14 := El.tr (Dw := Dw) h14 ht123
                replace h25 := El.tr (Dw := Dw) h25 ht123
                replace h26 := El.tr (Dw := Dw) h26 ht123
                replace h28 := El.tr (Dw := Dw) h28 ht123
                replace h29 := El.tr (Dw := Dw) h29 ht123
                replace h31 := El.tr (Dw := Dw) h31 ht123
                replace h32 := El.tr (Dw := Dw) h32 ht123
                replace h106 := El.tr (Dw := Dw) h106 ht123
                replace h107 := El.tr (Dw := Dw) h107 ht123
                replace h109 := El.tr (Dw := Dw) h109 ht123
                replace h110 := El.tr (Dw := Dw) h110 ht123
                replace h112 := El.tr (Dw := Dw) h112 ht123
                replace h115 := Sl.tr (Dw := Dw) h115 ht123
                replace h116 := El.tr (Dw := Dw) h116 ht123
                replace h119 := Sl.tr (Dw := Dw) h119 ht123
                replace hK := Tr.trans (Dw := Dw) hK ht123
                replace hr19 := Tr.trans (Dw := Dw) hr19 ht123
                replace hB := Nat.le_trans hB ht123.ex.size
                replace hA := ht123.new
                refine V_y (Y_pick_te rfl hc111 rfl) rfl rfl rfl ?_
                refine V_y (Y_assign rfl) rfl rfl rfl ?_
                obtain rfl := Option.some.inj ho17
                refine V_end (fun a ha124 => ?_)
                exact ⟨A, ha124.sub ⟨rfl, trivial⟩, ⟨hH, hr19⟩⟩
              · rw [if_neg (nt hc111)] at ho17
                refine V_gn rfl rfl rfl hc111 rfl rfl rfl ?_
                refine V_gn rfl rfl rfl hc111 rfl rfl rfl ?_
                refine V_gn rfl rfl rfl hc111 rfl rfl rfl ?_
                refine V_gn rfl rfl rfl hc111 rfl rfl rfl ?_
                refine V_gn rfl rfl rfl hc111 rfl rfl rfl ?_
                refine V_y (Y_pick_fe rfl hc111 rfl) rfl rfl rfl ?_
                refine V_y (Y_assign rfl) rfl rfl rfl ?_
                obtain rfl := Option.some.inj ho17
                refine V_end (fun a ha125 => ?_)
                exact ⟨A, ha125.sub ⟨rfl, trivial⟩, ⟨hH, hr19⟩⟩
            · rw [if_neg (nt hc108)] at ho17
              refine V_gn rfl rfl rfl hc108 rfl rfl rfl ?_
              refine V_gn rfl rfl rfl hc108 rfl rfl rfl ?_
              refine V_gn rfl rfl rfl hc108 rfl rfl rfl ?_
              refine V_gn rfl rfl rfl hc108 rfl rfl rfl ?_
              refine V_gn rfl rfl rfl hc108 rfl rfl rfl ?_
              refine V_y (Y_pick_fe rfl hc108 rfl) rfl rfl rfl ?_
              refine V_y (Y_move rfl) rfl rfl rfl ?_
              rcases Bool.eq_false_or_eq_true (false) with hc126 | hc126
              · rw [if_pos hc126] at ho17
                refine V_ge rfl rfl rfl hc126 ?_
                have h127 := El_level_Clock_6 h8
                refine V_y (Y_fieldAddr Tryz.underlying24 rfl Tryz.sizeOf22 (by decide) rfl) rfl rfl rfl ?_
                refine V_ge rfl rfl rfl hc126 ?_
                obtain ⟨v128, h129, h130⟩ := El.list h127
                refine V_y (Y_load h129 Tryz.isAgg22 rfl) rfl rfl rfl ?_
                refine V_ge rfl rfl rfl hc126 ?_
                have h131 := El_level_Clock_6 h14
                refine V_y (Y_fieldAddr Tryz.underlying24 rfl Tryz.sizeOf22 (by decide) rfl) rfl rfl rfl ?_
                refine V_ge rfl rfl rfl hc126 ?_
                obtain ⟨v132, h133, h134⟩ := El.list h131
                refine V_y (Y_load h133 Tryz.isAgg22 rfl) rfl rfl rfl ?_
                refine V_ge rfl rfl rfl hc126 ?_
                obtain ⟨x135, hx135, ho17⟩ := Option.bind_eq_some_iff.1 ho17
                refine V_call Tryz.call52 rfl rfl rfl rfl (slices_Equal_Llevel_Piece_level_Piece_c (Dw := Dw) w12 hA a_.pieces v128 h130 b.pieces v132 h134 hx135) ?_
                rintro _ w136 ⟨rfl, hk137⟩
                have ht138 := Kp.tr (Dw := Dw) hk137 hA hB
                replace hH := Hp.kp (Dw := Dw) hH hk137
                replace h8 := El.tr (Dw := Dw) h8 ht138
                replace h14 := El.tr (Dw := Dw) h14 ht138
                replace h25 := El.tr (Dw := Dw) h25 ht138
                replace h26 := El.tr (Dw := Dw) h26 ht138
                replace h28 := El.tr (Dw := Dw) h28 ht138
                replace h29 := El.tr (Dw := Dw) h29 ht138
                replace h31 := El.tr (Dw := Dw) h31 ht138
                replace h32 := El.tr (Dw := Dw) h32 ht138
                replace h106 := El.tr (Dw := Dw) h106 ht138
                replace h107 := El.tr (Dw := Dw) h107 ht138
                replace h127 := El.tr (Dw := Dw) h127 ht138
                replace h130 := Sl.tr (Dw := Dw) h130 ht138
                replace h131 := El.tr (Dw := Dw) h131 ht138
                replace h134 := Sl.tr (Dw := Dw) h134 ht138
                replace hK := Tr.trans (Dw := Dw) hK ht138
                replace hr19 := Tr.trans (Dw := Dw) hr19 ht138
                replace hB := Nat.le_trans hB ht138.ex.size
                replace hA := ht138.new
                refine V_y (Y_pick_te rfl hc126 rfl) rfl rfl rfl ?_
                refine V_y (Y_assign rfl) rfl rfl rfl ?_
                obtain rfl := Option.some.inj ho17
                refine V_end (fun a ha139 => ?_)
                exact ⟨A, ha139.sub ⟨rfl, trivial⟩, ⟨hH, hr19⟩⟩
              · rw [if_neg (nt hc126)] at ho17
                refine V_gn rfl rfl rfl hc126 rfl rfl rfl ?_
                refine V_gn rfl rfl rfl hc126 rfl rfl rfl ?_
                refine V_gn rfl rfl rfl hc126 rfl rfl rfl ?_
                refine V_gn rfl rfl rfl hc126 rfl rfl rfl ?_
                refine V_gn rfl rfl rfl hc126 rfl rfl rfl ?_
                refine V_y (Y_pick_fe rfl hc126 rfl) rfl rfl rfl ?_
                refine V_y (Y_assign rfl) rfl rfl rfl ?_
                obtain rfl := Option.some.inj ho17
                refine V_end (fun a ha140 => ?_)
                exact ⟨A, ha140.sub ⟨rfl, trivial⟩, ⟨hH, hr19⟩⟩
          · rw [if_neg (nt hc105)] at ho17
            refine V_gn rfl rfl rfl hc105 rfl rfl rfl ?_
            refine V_gn rfl rfl rfl hc105 rfl rfl rfl ?_
            refine V_gn rfl rfl rfl hc105 rfl rfl rfl ?_
            refine V_gn rfl rfl rfl hc105 rfl rfl rfl ?_
            refine V_gn rfl rfl rfl hc105 rfl rfl rfl ?_
            refine V_y (Y_pick_fe rfl hc105 rfl) rfl rfl rfl ?_
            refine V_y (Y_move rfl) rfl rfl rfl ?_
            rcases Bool.eq_false_or_eq_true (false) with hc141 | hc141
            · rw [if_pos hc141] at ho17
              refine V_ge rfl rfl rfl hc141 ?_
              have h142 := El_level_Clock_5 h8
              refine V_y (Y_fieldAddr Tryz.underlying24 rfl Tryz.sizeOf3 (by decide) rfl) rfl rfl rfl ?_
              refine V_ge rfl rfl rfl hc141 ?_
              refine V_y (Y_load (El.int h142) Tryz.isAgg3 rfl) rfl rfl rfl ?_
              refine V_ge rfl rfl rfl hc141 ?_
              have h143 := El_level_Clock_5 h14
              refine V_y (Y_fieldAddr Tryz.underlying24 rfl Tryz.sizeOf3 (by decide) rfl) rfl rfl rfl ?_
              refine V_ge rfl rfl rfl hc141 ?_
              refine V_y (Y_load (El.int h143) Tryz.isAgg3 rfl) rfl rfl rfl ?_
              refine V_ge rfl rfl rfl hc141 ?_
              refine V_y (Y_eql rfl rfl) rfl rfl rfl ?_
              refine V_y (Y_pick_te rfl hc141 rfl) rfl rfl rfl ?_
              refine V_y (Y_move rfl) rfl rfl rfl ?_
              rcases Bool.eq_false_or_eq_true (a_.end_ == b.end_) with hc144 | hc144
              · rw [if_pos hc144] at ho17
                refine V_ge rfl rfl rfl hc144 ?_
                have h145 := El_level_Clock_6 h8
                refine V_y (Y_fieldAddr Tryz.underlying24 rfl Tryz.sizeOf22 (by decide) rfl) rfl rfl rfl ?_
                refine V_ge rfl rfl rfl hc144 ?_
                obtain ⟨v146, h147, h148⟩ := El.list h145
                refine V_y (Y_load h147 Tryz.isAgg22 rfl) rfl rfl rfl ?_
                refine V_ge rfl rfl rfl hc144 ?_
                have h149 := El_level_Clock_6 h14
                refine V_y (Y_fieldAddr Tryz.underlying24 rfl Tryz.sizeOf22 (by decide) rfl) rfl rfl rfl ?_
                refine V_ge rfl rfl rfl hc144 ?_
                obtain ⟨v150, h151, h152⟩ := El.list h149
                refine V_y (Y_load h151 Tryz.isAgg22 rfl) rfl rfl rfl ?_
                refine V_ge rfl rfl rfl hc144 ?_
                obtain ⟨x153, hx153, ho17⟩ := Option.bind_eq_some_iff.1 ho17
                refine V_call Tryz.call52 rfl rfl rfl rfl (slices_Equal_Llevel_Piece_level_Piece_c (Dw := Dw) w12 hA a_.pieces v146 h148 b.pieces v150 h152 hx153) ?_
                rintro _ w154 ⟨rfl, hk155⟩
                have ht156 := Kp.tr (Dw := Dw) hk155 hA hB
                replace hH := Hp.kp (Dw := Dw) hH hk155
                replace h8 := El.tr (Dw := Dw) h8 ht156
                replace h14 := El.tr (Dw := Dw) h14 ht156
                replace h25 := El.tr (Dw := Dw) h25 ht156
                replace h26 := El.tr (Dw := Dw) h26 ht156
                replace h28 := El.tr (Dw := Dw) h28 ht156
                replace h29 := El.tr (Dw := Dw) h29 ht156
                replace h31 := El.tr (Dw := Dw) h31 ht156
                replace h32 := El.tr (Dw := Dw) h32 ht156
                replace h142 := El.tr (Dw := Dw) h142 ht156
                replace h143 := El.tr (Dw := Dw) h143 ht156
                replace h145 := El.tr (Dw := Dw) h145 ht156
                replace h148 := Sl.tr (Dw := Dw) h148 ht156
                replace h149 := El.tr (Dw := Dw) h149 ht156
                replace h152 := Sl.tr (Dw := Dw) h152 ht156
                replace hK := Tr.trans (Dw := Dw) hK ht156
                replace hr19 := Tr.trans (Dw := Dw) hr19 ht156
                replace hB := Nat.le_trans hB ht156.ex.size
                replace hA := ht156.new
                refine V_y (Y_pick_te rfl hc144 rfl) rfl rfl rfl ?_
                refine V_y (Y_assign rfl) rfl rfl rfl ?_
                obtain rfl := Option.some.inj ho17
                refine V_end (fun a ha157 => ?_)
                exact ⟨A, ha157.sub ⟨rfl, trivial⟩, ⟨hH, hr19⟩⟩
              · rw [if_neg (nt hc144)] at ho17
                refine V_gn rfl rfl rfl hc144 rfl rfl rfl ?_
                refine V_gn rfl rfl rfl hc144 rfl rfl rfl ?_
                refine V_gn rfl rfl rfl hc144 rfl rfl rfl ?_
                refine V_gn rfl rfl rfl hc144 rfl rfl rfl ?_
                refine V_gn rfl rfl rfl hc144 rfl rfl rfl ?_
                refine V_y (Y_pick_fe rfl hc144 rfl) rfl rfl rfl ?_
                refine V_y (Y_assign rfl) rfl rfl rfl ?_
                obtain rfl := Option.some.inj ho17
                refine V_end (fun a ha158 => ?_)
                exact ⟨A, ha158.sub ⟨rfl, trivial⟩, ⟨hH, hr19⟩⟩
            · rw [if_neg (nt hc141)] at ho17
              refine V_gn rfl rfl rfl hc141 rfl rfl rfl ?_
              refine V_gn rfl rfl rfl hc141 rfl rfl rfl ?_
              refine V_gn rfl rfl rfl hc141 rfl rfl rfl ?_
              refine V_gn rfl rfl rfl hc141 rfl rfl rfl ?_
              refine V_gn rfl rfl rfl hc141 rfl rfl rfl ?_
              refine V_y (Y_pick_fe rfl hc141 rfl) rfl rfl rfl ?_
              refine V_y (Y_move rfl) rfl rfl rfl ?_
              rcases Bool.eq_false_or_eq_true (false) with hc159 | hc159
              · rw [if_pos hc159] at ho17
                refine V_ge rfl rfl rfl hc159 ?_
                have h160 := El_level_Clock_6 h8
                refine V_y (Y_fieldAddr Tryz.underlying24 rfl Tryz.sizeOf22 (by decide) rfl) rfl rfl rfl ?_
                refine V_ge rfl rfl rfl hc159 ?_
                obtain ⟨v161, h162, h163⟩ := El.list h160
                refine V_y (Y_load h162 Tryz.isAgg22 rfl) rfl rfl rfl ?_
                refine V_ge rfl rfl rfl hc159 ?_
                have h164 := El_level_Clock_6 h14
                refine V_y (Y_fieldAddr Tryz.underlying24 rfl Tryz.sizeOf22 (by decide) rfl) rfl rfl rfl ?_
                refine V_ge rfl rfl rfl hc159 ?_
                obtain ⟨v165, h166, h167⟩ := El.list h164
                refine V_y (Y_load h166 Tryz.isAgg22 rfl) rfl rfl rfl ?_
                refine V_ge rfl rfl rfl hc159 ?_
                obtain ⟨x168, hx168, ho17⟩ := Option.bind_eq_some_iff.1 ho17
                refine V_call Tryz.call52 rfl rfl rfl rfl (slices_Equal_Llevel_Piece_level_Piece_c (Dw := Dw) w12 hA a_.pieces v161 h163 b.pieces v165 h167 hx168) ?_
                rintro _ w169 ⟨rfl, hk170⟩
                have ht171 := Kp.tr (Dw := Dw) hk170 hA hB
                replace hH := Hp.kp (Dw := Dw) hH hk170
                replace h8 := El.tr (Dw := Dw) h8 ht171
                replace h14 := El.tr (Dw := Dw) h14 ht171
                replace h25 := El.tr (Dw := Dw) h25 ht171
                replace h26 := El.tr (Dw := Dw) h26 ht171
                replace h28 := El.tr (Dw := Dw) h28 ht171
                replace h29 := El.tr (Dw := Dw) h29 ht171
                replace h31 := El.tr (Dw := Dw) h31 ht171
                replace h32 := El.tr (Dw := Dw) h32 ht171
                replace h160 := El.tr (Dw := Dw) h160 ht171
                replace h163 := Sl.tr (Dw := Dw) h163 ht171
                replace h164 := El.tr (Dw := Dw) h164 ht171
                replace h167 := Sl.tr (Dw := Dw) h167 ht171
                replace hK := Tr.trans (Dw := Dw) hK ht171
                replace hr19 := Tr.trans (Dw := Dw) hr19 ht171
                replace hB := Nat.le_trans hB ht171.ex.size
                replace hA := ht171.new
                refine V_y (Y_pick_te rfl hc159 rfl) rfl rfl rfl ?_
                refine V_y (Y_assign rfl) rfl rfl rfl ?_
                obtain rfl := Option.some.inj ho17
                refine V_end (fun a ha172 => ?_)
                exact ⟨A, ha172.sub ⟨rfl, trivial⟩, ⟨hH, hr19⟩⟩
              · rw [if_neg (nt hc159)] at ho17
                refine V_gn rfl rfl rfl hc159 rfl rfl rfl ?_
                refine V_gn rfl rfl rfl hc159 rfl rfl rfl ?_
                refine V_gn rfl rfl rfl hc159 rfl rfl rfl ?_
                refine V_gn rfl rfl rfl hc159 rfl rfl rfl ?_
                refine V_gn rfl rfl rfl hc159 rfl rfl rfl ?_
                refine V_y (Y_pick_fe rfl hc159 rfl) rfl rfl rfl ?_
                refine V_y (Y_assign rfl) rfl rfl rfl ?_
                obtain rfl := Option.some.inj ho17
                refine V_end (fun a ha173 => ?_)
                exact ⟨A, ha173.sub ⟨rfl, trivial⟩, ⟨hH, hr19⟩⟩
      · rw [if_neg (nt hc30)] at ho17
        refine V_gn rfl rfl rfl hc30 rfl rfl rfl ?_
        refine V_gn rfl rfl rfl hc30 rfl rfl rfl ?_
        refine V_gn rfl rfl rfl hc30 rfl rfl rfl ?_
        refine V_gn rfl rfl rfl hc30 rfl rfl rfl ?_
        refine V_gn rfl rfl rfl hc30 rfl rfl rfl ?_
        refine V_y (Y_pick_fe rfl hc30 rfl) rfl rfl rfl ?_
        refine V_y (Y_move rfl) rfl rfl rfl ?_
        rcases Bool.eq_false_or_eq_true (false) with hc174 | hc174
        · rw [if_pos hc174] at ho17
          refine V_ge rfl rfl rfl hc174 ?_
          have h175 := El_level_Clock_3 h8
          refine V_y (Y_fieldAddr Tryz.underlying24 rfl Tryz.sizeOf3 (by decide) rfl) rfl rfl rfl ?_
          refine V_ge rfl rfl rfl hc174 ?_
          refine V_y (Y_load (El.int h175) Tryz.isAgg3 rfl) rfl rfl rfl ?_
          refine V_ge rfl rfl rfl hc174 ?_
          have h176 := El_level_Clock_3 h14
          refine V_y (Y_fieldAddr Tryz.underlying24 rfl Tryz.sizeOf3 (by decide) rfl) rfl rfl rfl ?_
          refine V_ge rfl rfl rfl hc174 ?_
          refine V_y (Y_load (El.int h176) Tryz.isAgg3 rfl) rfl rfl rfl ?_
          refine V_ge rfl rfl rfl hc174 ?_
          refine V_y (Y_eql rfl rfl) rfl rfl rfl ?_
          refine V_y (Y_pick_te rfl hc174 rfl) rfl rfl rfl ?_
          refine V_y (Y_move rfl) rfl rfl rfl ?_
          rcases Bool.eq_false_or_eq_true (a_.start == b.start) with hc177 | hc177
          · rw [if_pos hc177] at ho17
            refine V_ge rfl rfl rfl hc177 ?_
            have h178 := El_level_Clock_4 h8
            refine V_y (Y_fieldAddr Tryz.underlying24 rfl Tryz.sizeOf3 (by decide) rfl) rfl rfl rfl ?_
            refine V_ge rfl rfl rfl hc177 ?_
            refine V_y (Y_load (El.int h178) Tryz.isAgg3 rfl) rfl rfl rfl ?_
            refine V_ge rfl rfl rfl hc177 ?_
            have h179 := El_level_Clock_4 h14
            refine V_y (Y_fieldAddr Tryz.underlying24 rfl Tryz.sizeOf3 (by decide) rfl) rfl rfl rfl ?_
            refine V_ge rfl rfl rfl hc177 ?_
            refine V_y (Y_load (El.int h179) Tryz.isAgg3 rfl) rfl rfl rfl ?_
            refine V_ge rfl rfl rfl hc177 ?_
            refine V_y (Y_eql rfl rfl) rfl rfl rfl ?_
            refine V_y (Y_pick_te rfl hc177 rfl) rfl rfl rfl ?_
            refine V_y (Y_move rfl) rfl rfl rfl ?_
            rcases Bool.eq_false_or_eq_true (a_.stop == b.stop) with hc180 | hc180
            · rw [if_pos hc180] at ho17
              refine V_ge rfl rfl rfl hc180 ?_
              have h181 := El_level_Clock_5 h8
              refine V_y (Y_fieldAddr Tryz.underlying24 rfl Tryz.sizeOf3 (by decide) rfl) rfl rfl rfl ?_
              refine V_ge rfl rfl rfl hc180 ?_
              refine V_y (Y_load (El.int h181) Tryz.isAgg3 rfl) rfl rfl rfl ?_
              refine V_ge rfl rfl rfl hc180 ?_
              have h182 := El_level_Clock_5 h14
              refine V_y (Y_fieldAddr Tryz.underlying24 rfl Tryz.sizeOf3 (by decide) rfl) rfl rfl rfl ?_
              refine V_ge rfl rfl rfl hc180 ?_
              refine V_y (Y_load (El.int h182) Tryz.isAgg3 rfl) rfl rfl rfl ?_
              refine V_ge rfl rfl rfl hc180 ?_
              refine V_y (Y_eql rfl rfl) rfl rfl rfl ?_
              refine V_y (Y_pick_te rfl hc180 rfl) rfl rfl rfl ?_
              refine V_y (Y_move rfl) rfl rfl rfl ?_
              rcases Bool.eq_false_or_eq_true (a_.end_ == b.end_) with hc183 | hc183
              · rw [if_pos hc183] at ho17
                refine V_ge rfl rfl rfl hc183 ?_
                have h184 := El_level_Clock_6 h8
                refine V_y (Y_fieldAddr Tryz.underlying24 rfl Tryz.sizeOf22 (by decide) rfl) rfl rfl rfl ?_
                refine V_ge rfl rfl rfl hc183 ?_
                obtain ⟨v185, h186, h187⟩ := El.list h184
                refine V_y (Y_load h186 Tryz.isAgg22 rfl) rfl rfl rfl ?_
                refine V_ge rfl rfl rfl hc183 ?_
                have h188 := El_level_Clock_6 h14
                refine V_y (Y_fieldAddr Tryz.underlying24 rfl Tryz.sizeOf22 (by decide) rfl) rfl rfl rfl ?_
                refine V_ge rfl rfl rfl hc183 ?_
                obtain ⟨v189, h190, h191⟩ := El.list h188
                refine V_y (Y_load h190 Tryz.isAgg22 rfl) rfl rfl rfl ?_
                refine V_ge rfl rfl rfl hc183 ?_
                obtain ⟨x192, hx192, ho17⟩ := Option.bind_eq_some_iff.1 ho17
                refine V_call Tryz.call52 rfl rfl rfl rfl (slices_Equal_Llevel_Piece_level_Piece_c (Dw := Dw) w12 hA a_.pieces v185 h187 b.pieces v189 h191 hx192) ?_
                rintro _ w193 ⟨rfl, hk194⟩
                have ht195 := Kp.tr (Dw := Dw) hk194 hA hB
                replace hH := Hp.kp (Dw := Dw) hH hk194
                replace h8 := El.tr (Dw := Dw) h8 ht195
                replace h14 := El.tr (Dw := Dw) h14 ht195
                replace h25 := El.tr (Dw := Dw) h25 ht195
                replace h26 := El.tr (Dw := Dw) h26 ht195
                replace h28 := El.tr (Dw := Dw) h28 ht195
                replace h29 := El.tr (Dw := Dw) h29 ht195
                replace h175 := El.tr (Dw := Dw) h175 ht195
                replace h176 := El.tr (Dw := Dw) h176 ht195
                replace h178 := El.tr (Dw := Dw) h178 ht195
                replace h179 := El.tr (Dw := Dw) h179 ht195
                replace h181 := El.tr (Dw := Dw) h181 ht195
                replace h182 := El.tr (Dw := Dw) h182 ht195
                replace h184 := El.tr (Dw := Dw) h184 ht195
                replace h187 := Sl.tr (Dw := Dw) h187 ht195
                replace h188 := El.tr (Dw := Dw) h188 ht195
                replace h191 := Sl.tr (Dw := Dw) h191 ht195
                replace hK := Tr.trans (Dw := Dw) hK ht195
                replace hr19 := Tr.trans (Dw := Dw) hr19 ht195
                replace hB := Nat.le_trans hB ht195.ex.size
                replace hA := ht195.new
                refine V_y (Y_pick_te rfl hc183 rfl) rfl rfl rfl ?_
                refine V_y (Y_assign rfl) rfl rfl rfl ?_
                obtain rfl := Option.some.inj ho17
                refine V_end (fun a ha196 => ?_)
                exact ⟨A, ha196.sub ⟨rfl, trivial⟩, ⟨hH, hr19⟩⟩
              · rw [if_neg (nt hc183)] at ho17
                refine V_gn rfl rfl rfl hc183 rfl rfl rfl ?_
                refine V_gn rfl rfl rfl hc183 rfl rfl rfl ?_
                refine V_gn rfl rfl rfl hc183 rfl rfl rfl ?_
                refine V_gn rfl rfl rfl hc183 rfl rfl rfl ?_
                refine V_gn rfl rfl rfl hc183 rfl rfl rfl ?_
                refine V_y (Y_pick_fe rfl hc183 rfl) rfl rfl rfl ?_
                refine V_y (Y_assign rfl) rfl rfl rfl ?_
                obtain rfl := Option.some.inj ho17
                refine V_end (fun a ha197 => ?_)
                exact ⟨A, ha197.sub ⟨rfl, trivial⟩, ⟨hH, hr19⟩⟩
            · rw [if_neg (nt hc180)] at ho17
              refine V_gn rfl rfl rfl hc180 rfl rfl rfl ?_
              refine V_gn rfl rfl rfl hc180 rfl rfl rfl ?_
              refine V_gn rfl rfl rfl hc180 rfl rfl rfl ?_
              refine V_gn rfl rfl rfl hc180 rfl rfl rfl ?_
              refine V_gn rfl rfl rfl hc180 rfl rfl rfl ?_
              refine V_y (Y_pick_fe rfl hc180 rfl) rfl rfl rfl ?_
              refine V_y (Y_move rfl) rfl rfl rfl ?_
              rcases Bool.eq_false_or_eq_true (false) with hc198 | hc198
              · rw [if_pos hc198] at ho17
                refine V_ge rfl rfl rfl hc198 ?_
                have h199 := El_level_Clock_6 h8
                refine V_y (Y_fieldAddr Tryz.underlying24 rfl Tryz.sizeOf22 (by decide) rfl) rfl rfl rfl ?_
                refine V_ge rfl rfl rfl hc198 ?_
                obtain ⟨v200, h201, h202⟩ := El.list h199
                refine V_y (Y_load h201 Tryz.isAgg22 rfl) rfl rfl rfl ?_
                refine V_ge rfl rfl rfl hc198 ?_
                have h203 := El_level_Clock_6 h14
                refine V_y (Y_fieldAddr Tryz.underlying24 rfl Tryz.sizeOf22 (by decide) rfl) rfl rfl rfl ?_
                refine V_ge rfl rfl rfl hc198 ?_
                obtain ⟨v204, h205, h206⟩ := El.list h203
                refine V_y (Y_load h205 Tryz.isAgg22 rfl) rfl rfl rfl ?_
                refine V_ge rfl rfl rfl hc198 ?_
                obtain ⟨x207, hx207, ho17⟩ := Option.bind_eq_some_iff.1 ho17
                refine V_call Tryz.call52 rfl rfl rfl rfl (slices_Equal_Llevel_Piece_level_Piece_c (Dw := Dw) w12 hA a_.pieces v200 h202 b.pieces v204 h206 hx207) ?_
                rintro _ w208 ⟨rfl, hk209⟩
                have ht210 := Kp.tr (Dw := Dw) hk209 hA hB
                replace hH := Hp.kp (Dw := Dw) hH hk209
                replace h8 := El.tr (Dw := Dw) h8 ht210
                replace h14 := El.tr (Dw := Dw) h14 ht210
                replace h25 := El.tr (Dw := Dw) h25 ht210
                replace h26 := El.tr (Dw := Dw) h26 ht210
                replace h28 := El.tr (Dw := Dw) h28 ht210
                replace h29 := El.tr (Dw := Dw) h29 ht210
                replace h175 := El.tr (Dw := Dw) h175 ht210
                replace h176 := El.tr (Dw := Dw) h176 ht210
                replace h178 := El.tr (Dw := Dw) h178 ht210
                replace h179 := El.tr (Dw := Dw) h179 ht210
                replace h199 := El.tr (Dw := Dw) h199 ht210
                replace h202 := Sl.tr (Dw := Dw) h202 ht210
                replace h203 := El.tr (Dw := Dw) h203 ht210
                replace h206 := Sl.tr (Dw := Dw) h206 ht210
                replace hK := Tr.trans (Dw := Dw) hK ht210
                replace hr19 := Tr.trans (Dw := Dw) hr19 ht210
                replace hB := Nat.le_trans hB ht210.ex.size
                replace hA := ht210.new
                refine V_y (Y_pick_te rfl hc198 rfl) rfl rfl rfl ?_
                refine V_y (Y_assign rfl) rfl rfl rfl ?_
                obtain rfl := Option.some.inj ho17
                refine V_end (fun a ha211 => ?_)
                exact ⟨A, ha211.sub ⟨rfl, trivial⟩, ⟨hH, hr19⟩⟩
              · rw [if_neg (nt hc198)] at ho17
                refine V_gn rfl rfl rfl hc198 rfl rfl rfl ?_
                refine V_gn rfl rfl rfl hc198 rfl rfl rfl ?_
                refine V_gn rfl rfl rfl hc198 rfl rfl rfl ?_
                refine V_gn rfl rfl rfl hc198 rfl rfl rfl ?_
                refine V_gn rfl rfl rfl hc198 rfl rfl rfl ?_
                refine V_y (Y_pick_fe rfl hc198 rfl) rfl rfl rfl ?_
                refine V_y (Y_assign rfl) rfl rfl rfl ?_
                obtain rfl := Option.some.inj ho17
                refine V_end (fun a ha212 => ?_)
                exact ⟨A, ha212.sub ⟨rfl, trivial⟩, ⟨hH, hr19⟩⟩
          · rw [if_neg (nt hc177)] at ho17
            refine V_gn rfl rfl rfl hc177 rfl rfl rfl ?_
            refine V_gn rfl rfl rfl hc177 rfl rfl rfl ?_
            refine V_gn rfl rfl rfl hc177 rfl rfl rfl ?_
            refine V_gn rfl rfl rfl hc177 rfl rfl rfl ?_
            refine V_gn rfl rfl rfl hc177 rfl rfl rfl ?_
            refine V_y (Y_pick_fe rfl hc177 rfl) rfl rfl rfl ?_
            refine V_y (Y_move rfl) rfl rfl rfl ?_
            rcases Bool.eq_false_or_eq_true (false) with hc213 | hc213
            · rw [if_pos hc213] at ho17
              refine V_ge rfl rfl rfl hc213 ?_
              have h214 := El_level_Clock_5 h8
              refine V_y (Y_fieldAddr Tryz.underlying24 rfl Tryz.sizeOf3 (by decide) rfl) rfl rfl rfl ?_
              refine V_ge rfl rfl rfl hc213 ?_
              refine V_y (Y_load (El.int h214) Tryz.isAgg3 rfl) rfl rfl rfl ?_
              refine V_ge rfl rfl rfl hc213 ?_
              have h215 := El_level_Clock_5 h14
              refine V_y (Y_fieldAddr Tryz.underlying24 rfl Tryz.sizeOf3 (by decide) rfl) rfl rfl rfl ?_
              refine V_ge rfl rfl rfl hc213 ?_
              refine V_y (Y_load (El.int h215) Tryz.isAgg3 rfl) rfl rfl rfl ?_
              refine V_ge rfl rfl rfl hc213 ?_
              refine V_y (Y_eql rfl rfl) rfl rfl rfl ?_
              refine V_y (Y_pick_te rfl hc213 rfl) rfl rfl rfl ?_
              refine V_y (Y_move rfl) rfl rfl rfl ?_
              rcases Bool.eq_false_or_eq_true (a_.end_ == b.end_) with hc216 | hc216
              · rw [if_pos hc216] at ho17
                refine V_ge rfl rfl rfl hc216 ?_
                have h217 := El_level_Clock_6 h8
                refine V_y (Y_fieldAddr Tryz.underlying24 rfl Tryz.sizeOf22 (by decide) rfl) rfl rfl rfl ?_
                refine V_ge rfl rfl rfl hc216 ?_
                obtain ⟨v218, h219, h220⟩ := El.list h217
                refine V_y (Y_load h219 Tryz.isAgg22 rfl) rfl rfl rfl ?_
                refine V_ge rfl rfl rfl hc216 ?_
                have h221 := El_level_Clock_6 h14
                refine V_y (Y_fieldAddr Tryz.underlying24 rfl Tryz.sizeOf22 (by decide) rfl) rfl rfl rfl ?_
                refine V_ge rfl rfl rfl hc216 ?_
                obtain ⟨v222, h223, h224⟩ := El.list h221
                refine V_y (Y_load h223 Tryz.isAgg22 rfl) rfl rfl rfl ?_
                refine V_ge rfl rfl rfl hc216 ?_
                obtain ⟨x225, hx225, ho17⟩ := Option.bind_eq_some_iff.1 ho17
                refine V_call Tryz.call52 rfl rfl rfl rfl (slices_Equal_Llevel_Piece_level_Piece_c (Dw := Dw) w12 hA a_.pieces v218 h220 b.pieces v222 h224 hx225) ?_
                rintro _ w226 ⟨rfl, hk227⟩
                have ht228 := Kp.tr (Dw := Dw) hk227 hA hB
                replace hH := Hp.kp (Dw := Dw) hH hk227
                replace h8 := El.tr (Dw := Dw) h8 ht228
                replace h14 := El.tr (Dw := Dw) h14 ht228
                replace h25 := El.tr (Dw := Dw) h25 ht228
                replace h26 := El.tr (Dw := Dw) h26 ht228
                replace h28 := El.tr (Dw := Dw) h28 ht228
                replace h29 := El.tr (Dw := Dw) h29 ht228
                replace h175 := El.tr (Dw := Dw) h175 ht228
                replace h176 := El.tr (Dw := Dw) h176 ht228
                replace h214 := El.tr (Dw := Dw) h214 ht228
                replace h215 := El.tr (Dw := Dw) h215 ht228
                replace h217 := El.tr (Dw := Dw) h217 ht228
                replace h220 := Sl.tr (Dw := Dw) h220 ht228
                replace h221 := El.tr (Dw := Dw) h221 ht228
                replace h224 := Sl.tr (Dw := Dw) h224 ht228
                replace hK := Tr.trans (Dw := Dw) hK ht228
                replace hr19 := Tr.trans (Dw := Dw) hr19 ht228
                replace hB := Nat.le_trans hB ht228.ex.size
                replace hA := ht228.new
                refine V_y (Y_pick_te rfl hc216 rfl) rfl rfl rfl ?_
                refine V_y (Y_assign rfl) rfl rfl rfl ?_
                obtain rfl := Option.some.inj ho17
                refine V_end (fun a ha229 => ?_)
                exact ⟨A, ha229.sub ⟨rfl, trivial⟩, ⟨hH, hr19⟩⟩
              · rw [if_neg (nt hc216)] at ho17
                refine V_gn rfl rfl rfl hc216 rfl rfl rfl ?_
                refine V_gn rfl rfl rfl hc216 rfl rfl rfl ?_
                refine V_gn rfl rfl rfl hc216 rfl rfl rfl ?_
                refine V_gn rfl rfl rfl hc216 rfl rfl rfl ?_
                refine V_gn rfl rfl rfl hc216 rfl rfl rfl ?_
                refine V_y (Y_pick_fe rfl hc216 rfl) rfl rfl rfl ?_
                refine V_y (Y_assign rfl) rfl rfl rfl ?_
                obtain rfl := Option.some.inj ho17
                refine V_end (fun a ha230 => ?_)
                exact ⟨A, ha230.sub ⟨rfl, trivial⟩, ⟨hH, hr19⟩⟩
            · rw [if_neg (nt hc213)] at ho17
              refine V_gn rfl rfl rfl hc213 rfl rfl rfl ?_
              refine V_gn rfl rfl rfl hc213 rfl rfl rfl ?_
              refine V_gn rfl rfl rfl hc213 rfl rfl rfl ?_
              refine V_gn rfl rfl rfl hc213 rfl rfl rfl ?_
              refine V_gn rfl rfl rfl hc213 rfl rfl rfl ?_
              refine V_y (Y_pick_fe rfl hc213 rfl) rfl rfl rfl ?_
              refine V_y (Y_move rfl) rfl rfl rfl ?_
              rcases Bool.eq_false_or_eq_true (false) with hc231 | hc231
              · rw [if_pos hc231] at ho17
                refine V_ge rfl rfl rfl hc231 ?_
                have h232 := El_level_Clock_6 h8
                refine V_y (Y_fieldAddr Tryz.underlying24 rfl Tryz.sizeOf22 (by decide) rfl) rfl rfl rfl ?_
                refine V_ge rfl rfl rfl hc231 ?_
                obtain ⟨v233, h234, h235⟩ := El.list h232
                refine V_y (Y_load h234 Tryz.isAgg22 rfl) rfl rfl rfl ?_
                refine V_ge rfl rfl rfl hc231 ?_
                have h236 := El_level_Clock_6 h14
                refine V_y (Y_fieldAddr Tryz.underlying24 rfl Tryz.sizeOf22 (by decide) rfl) rfl rfl rfl ?_
                refine V_ge rfl rfl rfl hc231 ?_
                obtain ⟨v237, h238, h239⟩ := El.list h236
                refine V_y (Y_load h238 Tryz.isAgg22 rfl) rfl rfl rfl ?_
                refine V_ge rfl rfl rfl hc231 ?_
                obtain ⟨x240, hx240, ho17⟩ := Option.bind_eq_some_iff.1 ho17
                refine V_call Tryz.call52 rfl rfl rfl rfl (slices_Equal_Llevel_Piece_level_Piece_c (Dw := Dw) w12 hA a_.pieces v233 h235 b.pieces v237 h239 hx240) ?_
                rintro _ w241 ⟨rfl, hk242⟩
                have ht243 := Kp.tr (Dw := Dw) hk242 hA hB
                replace hH := Hp.kp (Dw := Dw) hH hk242
                replace h8 := El.tr (Dw := Dw) h8 ht243
                replace h14 := El.tr (Dw := Dw) h14 ht243
                replace h25 := El.tr (Dw := Dw) h25 ht243
                replace h26 := El.tr (Dw := Dw) h26 ht243
                replace h28 := El.tr (Dw := Dw) h28 ht243
                replace h29 := El.tr (Dw := Dw) h29 ht243
                replace h175 := El.tr (Dw := Dw) h175 ht243
                replace h176 := El.tr (Dw := Dw) h176 ht243
                replace h232 := El.tr (Dw := Dw) h232 ht243
                replace h235 := Sl.tr (Dw := Dw) h235 ht243
                replace h236 := El.tr (Dw := Dw) h236 ht243
                replace h239 := Sl.tr (Dw := Dw) h239 ht243
                replace hK := Tr.trans (Dw := Dw) hK ht243
                replace hr19 := Tr.trans (Dw := Dw) hr19 ht243
                replace hB := Nat.le_trans hB ht243.ex.size
                replace hA := ht243.new
                refine V_y (Y_pick_te rfl hc231 rfl) rfl rfl rfl ?_
                refine V_y (Y_assign rfl) rfl rfl rfl ?_
                obtain rfl := Option.some.inj ho17
                refine V_end (fun a ha244 => ?_)
                exact ⟨A, ha244.sub ⟨rfl, trivial⟩, ⟨hH, hr19⟩⟩
              · rw [if_neg (nt hc231)] at ho17
                refine V_gn rfl rfl rfl hc231 rfl rfl rfl ?_
                refine V_gn rfl rfl rfl hc231 rfl rfl rfl ?_
                refine V_gn rfl rfl rfl hc231 rfl rfl rfl ?_
                refine V_gn rfl rfl rfl hc231 rfl rfl rfl ?_
                refine V_gn rfl rfl rfl hc231 rfl rfl rfl ?_
                refine V_y (Y_pick_fe rfl hc231 rfl) rfl rfl rfl ?_
                refine V_y (Y_assign rfl) rfl rfl rfl ?_
                obtain rfl := Option.some.inj ho17
                refine V_end (fun a ha245 => ?_)
                exact ⟨A, ha245.sub ⟨rfl, trivial⟩, ⟨hH, hr19⟩⟩
        · rw [if_neg (nt hc174)] at ho17
          refine V_gn rfl rfl rfl hc174 rfl rfl rfl ?_
          refine V_gn rfl rfl rfl hc174 rfl rfl rfl ?_
          refine V_gn rfl rfl rfl hc174 rfl rfl rfl ?_
          refine V_gn rfl rfl rfl hc174 rfl rfl rfl ?_
          refine V_gn rfl rfl rfl hc174 rfl rfl rfl ?_
          refine V_y (Y_pick_fe rfl hc174 rfl) rfl rfl rfl ?_
          refine V_y (Y_move rfl) rfl rfl rfl ?_
          rcases Bool.eq_false_or_eq_true (false) with hc246 | hc246
          · rw [if_pos hc246] at ho17
            refine V_ge rfl rfl rfl hc246 ?_
            have h247 := El_level_Clock_4 h8
            refine V_y (Y_fieldAddr Tryz.underlying24 rfl Tryz.sizeOf3 (by decide) rfl) rfl rfl rfl ?_
            refine V_ge rfl rfl rfl hc246 ?_
            refine V_y (Y_load (El.int h247) Tryz.isAgg3 rfl) rfl rfl rfl ?_
            refine V_ge rfl rfl rfl hc246 ?_
            have h248 := El_level_Clock_4 h14
            refine V_y (Y_fieldAddr Tryz.underlying24 rfl Tryz.sizeOf3 (by decide) rfl) rfl rfl rfl ?_
            refine V_ge rfl rfl rfl hc246 ?_
            refine V_y (Y_load (El.int h248) Tryz.isAgg3 rfl) rfl rfl rfl ?_
            refine V_ge rfl rfl rfl hc246 ?_
            refine V_y (Y_eql rfl rfl) rfl rfl rfl ?_
            refine V_y (Y_pick_te rfl hc246 rfl) rfl rfl rfl ?_
            refine V_y (Y_move rfl) rfl rfl rfl ?_
            rcases Bool.eq_false_or_eq_true (a_.stop == b.stop) with hc249 | hc249
            · rw [if_pos hc249] at ho17
              refine V_ge rfl rfl rfl hc249 ?_
              have h250 := El_level_Clock_5 h8
              refine V_y (Y_fieldAddr Tryz.underlying24 rfl Tryz.sizeOf3 (by decide) rfl) rfl rfl rfl ?_
              refine V_ge rfl rfl rfl hc249 ?_
              refine V_y (Y_load (El.int h250) Tryz.isAgg3 rfl) rfl rfl rfl ?_
              refine V_ge rfl rfl rfl hc249 ?_
              have h251 := El_level_Clock_5 h14
              refine V_y (Y_fieldAddr Tryz.underlying24 rfl Tryz.sizeOf3 (by decide) rfl) rfl rfl rfl ?_
              refine V_ge rfl rfl rfl hc249 ?_
              refine V_y (Y_load (El.int h251) Tryz.isAgg3 rfl) rfl rfl rfl ?_
              refine V_ge rfl rfl rfl hc249 ?_
              refine V_y (Y_eql rfl rfl) rfl rfl rfl ?_
              refine V_y (Y_pick_te rfl hc249 rfl) rfl rfl rfl ?_
              refine V_y (Y_move rfl) rfl rfl rfl ?_
              rcases Bool.eq_false_or_eq_true (a_.end_ == b.end_) with hc252 | hc252
              · rw [if_pos hc252] at ho17
                refine V_ge rfl rfl rfl hc252 ?_
                have h253 := El_level_Clock_6 h8
                refine V_y (Y_fieldAddr Tryz.underlying24 rfl Tryz.sizeOf22 (by decide) rfl) rfl rfl rfl ?_
                refine V_ge rfl rfl rfl hc252 ?_
                obtain ⟨v254, h255, h256⟩ := El.list h253
                refine V_y (Y_load h255 Tryz.isAgg22 rfl) rfl rfl rfl ?_
                refine V_ge rfl rfl rfl hc252 ?_
                have h257 := El_level_Clock_6 h14
                refine V_y (Y_fieldAddr Tryz.underlying24 rfl Tryz.sizeOf22 (by decide) rfl) rfl rfl rfl ?_
                refine V_ge rfl rfl rfl hc252 ?_
                obtain ⟨v258, h259, h260⟩ := El.list h257
                refine V_y (Y_load h259 Tryz.isAgg22 rfl) rfl rfl rfl ?_
                refine V_ge rfl rfl rfl hc252 ?_
                obtain ⟨x261, hx261, ho17⟩ := Option.bind_eq_some_iff.1 ho17
                refine V_call Tryz.call52 rfl rfl rfl rfl (slices_Equal_Llevel_Piece_level_Piece_c (Dw := Dw) w12 hA a_.pieces v254 h256 b.pieces v258 h260 hx261) ?_
                rintro _ w262 ⟨rfl, hk263⟩
                have ht264 := Kp.tr (Dw := Dw) hk263 hA hB
                replace hH := Hp.kp (Dw := Dw) hH hk263
                replace h8 := El.tr (Dw := Dw) h8 ht264
                replace h14 := El.tr (Dw := Dw) h14 ht264
                replace h25 := El.tr (Dw := Dw) h25 ht264
                replace h26 := El.tr (Dw := Dw) h26 ht264
                replace h28 := El.tr (Dw := Dw) h28 ht264
                replace h29 := El.tr (Dw := Dw) h29 ht264
                replace h247 := El.tr (Dw := Dw) h247 ht264
                replace h248 := El.tr (Dw := Dw) h248 ht264
                replace h250 := El.tr (Dw := Dw) h250 ht264
                replace h251 := El.tr (Dw := Dw) h251 ht264
                replace h253 := El.tr (Dw := Dw) h253 ht264
                replace h256 := Sl.tr (Dw := Dw) h256 ht264
                replace h257 := El.tr (Dw := Dw) h257 ht264
                replace h260 := Sl.tr (Dw := Dw) h260 ht264
                replace hK := Tr.trans (Dw := Dw) hK ht264
                replace hr19 := Tr.trans (Dw := Dw) hr19 ht264
                replace hB := Nat.le_trans hB ht264.ex.size
                replace hA := ht264.new
                refine V_y (Y_pick_te rfl hc252 rfl) rfl rfl rfl ?_
                refine V_y (Y_assign rfl) rfl rfl rfl ?_
                obtain rfl := Option.some.inj ho17
                refine V_end (fun a ha265 => ?_)
                exact ⟨A, ha265.sub ⟨rfl, trivial⟩, ⟨hH, hr19⟩⟩
              · rw [if_neg (nt hc252)] at ho17
                refine V_gn rfl rfl rfl hc252 rfl rfl rfl ?_
                refine V_gn rfl rfl rfl hc252 rfl rfl rfl ?_
                refine V_gn rfl rfl rfl hc252 rfl rfl rfl ?_
                refine V_gn rfl rfl rfl hc252 rfl rfl rfl ?_
                refine V_gn rfl rfl rfl hc252 rfl rfl rfl ?_
                refine V_y (Y_pick_fe rfl hc252 rfl) rfl rfl rfl ?_
                refine V_y (Y_assign rfl) rfl rfl rfl ?_
                obtain rfl := Option.some.inj ho17
                refine V_end (fun a ha266 => ?_)
                exact ⟨A, ha266.sub ⟨rfl, trivial⟩, ⟨hH, hr19⟩⟩
            · rw [if_neg (nt hc249)] at ho17
              refine V_gn rfl rfl rfl hc249 rfl rfl rfl ?_
              refine V_gn rfl rfl rfl hc249 rfl rfl rfl ?_
              refine V_gn rfl rfl rfl hc249 rfl rfl rfl ?_
              refine V_gn rfl rfl rfl hc249 rfl rfl rfl ?_
              refine V_gn rfl rfl rfl hc249 rfl rfl rfl ?_
              refine V_y (Y_pick_fe rfl hc249 rfl) rfl rfl rfl ?_
              refine V_y (Y_move rfl) rfl rfl rfl ?_
              rcases Bool.eq_false_or_eq_true (false) with hc267 | hc267
              · rw [if_pos hc267] at ho17
                refine V_ge rfl rfl rfl hc267 ?_
                have h268 := El_level_Clock_6 h8
                refine V_y (Y_fieldAddr Tryz.underlying24 rfl Tryz.sizeOf22 (by decide) rfl) rfl rfl rfl ?_
                refine V_ge rfl rfl rfl hc267 ?_
                obtain ⟨v269, h270, h271⟩ := El.list h268
                refine V_y (Y_load h270 Tryz.isAgg22 rfl) rfl rfl rfl ?_
                refine V_ge rfl rfl rfl hc267 ?_
                have h272 := El_level_Clock_6 h14
                refine V_y (Y_fieldAddr Tryz.underlying24 rfl Tryz.sizeOf22 (by decide) rfl) rfl rfl rfl ?_
                refine V_ge rfl rfl rfl hc267 ?_
                obtain ⟨v273, h274, h275⟩ := El.list h272
                refine V_y (Y_load h274 Tryz.isAgg22 rfl) rfl rfl rfl ?_
                refine V_ge rfl rfl rfl hc267 ?_
                obtain ⟨x276, hx276, ho17⟩ := Option.bind_eq_some_iff.1 ho17
                refine V_call Tryz.call52 rfl rfl rfl rfl (slices_Equal_Llevel_Piece_level_Piece_c (Dw := Dw) w12 hA a_.pieces v269 h271 b.pieces v273 h275 hx276) ?_
                rintro _ w277 ⟨rfl, hk278⟩
                have ht279 := Kp.tr (Dw := Dw) hk278 hA hB
                replace hH := Hp.kp (Dw := Dw) hH hk278
                replace h8 := El.tr (Dw := Dw) h8 ht279
                replace h14 := El.tr (Dw := Dw) h14 ht279
                replace h25 := El.tr (Dw := Dw) h25 ht279
                replace h26 := El.tr (Dw := Dw) h26 ht279
                replace h28 := El.tr (Dw := Dw) h28 ht279
                replace h29 := El.tr (Dw := Dw) h29 ht279
                replace h247 := El.tr (Dw := Dw) h247 ht279
                replace h248 := El.tr (Dw := Dw) h248 ht279
                replace h268 := El.tr (Dw := Dw) h268 ht279
                replace h271 := Sl.tr (Dw := Dw) h271 ht279
                replace h272 := El.tr (Dw := Dw) h272 ht279
                replace h275 := Sl.tr (Dw := Dw) h275 ht279
                replace hK := Tr.trans (Dw := Dw) hK ht279
                replace hr19 := Tr.trans (Dw := Dw) hr19 ht279
                replace hB := Nat.le_trans hB ht279.ex.size
                replace hA := ht279.new
                refine V_y (Y_pick_te rfl hc267 rfl) rfl rfl rfl ?_
                refine V_y (Y_assign rfl) rfl rfl rfl ?_
                obtain rfl := Option.some.inj ho17
                refine V_end (fun a ha280 => ?_)
                exact ⟨A, ha280.sub ⟨rfl, trivial⟩, ⟨hH, hr19⟩⟩
              · rw [if_neg (nt hc267)] at ho17
                refine V_gn rfl rfl rfl hc267 rfl rfl rfl ?_
                refine V_gn rfl rfl rfl hc267 rfl rfl rfl ?_
                refine V_gn rfl rfl rfl hc267 rfl rfl rfl ?_
                refine V_gn rfl rfl rfl hc267 rfl rfl rfl ?_
                refine V_gn rfl rfl rfl hc267 rfl rfl rfl ?_
                refine V_y (Y_pick_fe rfl hc267 rfl) rfl rfl rfl ?_
                refine V_y (Y_assign rfl) rfl rfl rfl ?_
                obtain rfl := Option.some.inj ho17
                refine V_end (fun a ha281 => ?_)
                exact ⟨A, ha281.sub ⟨rfl, trivial⟩, ⟨hH, hr19⟩⟩
          · rw [if_neg (nt hc246)] at ho17
            refine V_gn rfl rfl rfl hc246 rfl rfl rfl ?_
            refine V_gn rfl rfl rfl hc246 rfl rfl rfl ?_
            refine V_gn rfl rfl rfl hc246 rfl rfl rfl ?_
            refine V_gn rfl rfl rfl hc246 rfl rfl rfl ?_
            refine V_gn rfl rfl rfl hc246 rfl rfl rfl ?_
            refine V_y (Y_pick_fe rfl hc246 rfl) rfl rfl rfl ?_
            refine V_y (Y_move rfl) rfl rfl rfl ?_
            rcases Bool.eq_false_or_eq_true (false) with hc282 | hc282
            · rw [if_pos hc282] at ho17
              refine V_ge rfl rfl rfl hc282 ?_
              have h283 := El_level_Clock_5 h8
              refine V_y (Y_fieldAddr Tryz.underlying24 rfl Tryz.sizeOf3 (by decide) rfl) rfl rfl rfl ?_
              refine V_ge rfl rfl rfl hc282 ?_
              refine V_y (Y_load (El.int h283) Tryz.isAgg3 rfl) rfl rfl rfl ?_
              refine V_ge rfl rfl rfl hc282 ?_
              have h284 := El_level_Clock_5 h14
              refine V_y (Y_fieldAddr Tryz.underlying24 rfl Tryz.sizeOf3 (by decide) rfl) rfl rfl rfl ?_
              refine V_ge rfl rfl rfl hc282 ?_
              refine V_y (Y_load (El.int h284) Tryz.isAgg3 rfl) rfl rfl rfl ?_
              refine V_ge rfl rfl rfl hc282 ?_
              refine V_y (Y_eql rfl rfl) rfl rfl rfl ?_
              refine V_y (Y_pick_te rfl hc282 rfl) rfl rfl rfl ?_
              refine V_y (Y_move rfl) rfl rfl rfl ?_
              rcases Bool.eq_false_or_eq_true (a_.end_ == b.end_) with hc285 | hc285
              · rw [if_pos hc285] at ho17
                refine V_ge rfl rfl rfl hc285 ?_
                have h286 := El_level_Clock_6 h8
                refine V_y (Y_fieldAddr Tryz.underlying24 rfl Tryz.sizeOf22 (by decide) rfl) rfl rfl rfl ?_
                refine V_ge rfl rfl rfl hc285 ?_
                obtain ⟨v287, h288, h289⟩ := El.list h286
                refine V_y (Y_load h288 Tryz.isAgg22 rfl) rfl rfl rfl ?_
                refine V_ge rfl rfl rfl hc285 ?_
                have h290 := El_level_Clock_6 h14
                refine V_y (Y_fieldAddr Tryz.underlying24 rfl Tryz.sizeOf22 (by decide) rfl) rfl rfl rfl ?_
                refine V_ge rfl rfl rfl hc285 ?_
                obtain ⟨v291, h292, h293⟩ := El.list h290
                refine V_y (Y_load h292 Tryz.isAgg22 rfl) rfl rfl rfl ?_
                refine V_ge rfl rfl rfl hc285 ?_
                obtain ⟨x294, hx294, ho17⟩ := Option.bind_eq_some_iff.1 ho17
                refine V_call Tryz.call52 rfl rfl rfl rfl (slices_Equal_Llevel_Piece_level_Piece_c (Dw := Dw) w12 hA a_.pieces v287 h289 b.pieces v291 h293 hx294) ?_
                rintro _ w295 ⟨rfl, hk296⟩
                have ht297 := Kp.tr (Dw := Dw) hk296 hA hB
                replace hH := Hp.kp (Dw := Dw) hH hk296
                replace h8 := El.tr (Dw := Dw) h8 ht297
                replace h14 := El.tr (Dw := Dw) h14 ht297
                replace h25 := El.tr (Dw := Dw) h25 ht297
                replace h26 := El.tr (Dw := Dw) h26 ht297
                replace h28 := El.tr (Dw := Dw) h28 ht297
                replace h29 := El.tr (Dw := Dw) h29 ht297
                replace h283 := El.tr (Dw := Dw) h283 ht297
                replace h284 := El.tr (Dw := Dw) h284 ht297
                replace h286 := El.tr (Dw := Dw) h286 ht297
                replace h289 := Sl.tr (Dw := Dw) h289 ht297
                replace h290 := El.tr (Dw := Dw) h290 ht297
                replace h293 := Sl.tr (Dw := Dw) h293 ht297
                replace hK := Tr.trans (Dw := Dw) hK ht297
                replace hr19 := Tr.trans (Dw := Dw) hr19 ht297
                replace hB := Nat.le_trans hB ht297.ex.size
                replace hA := ht297.new
                refine V_y (Y_pick_te rfl hc285 rfl) rfl rfl rfl ?_
                refine V_y (Y_assign rfl) rfl rfl rfl ?_
                obtain rfl := Option.some.inj ho17
                refine V_end (fun a ha298 => ?_)
                exact ⟨A, ha298.sub ⟨rfl, trivial⟩, ⟨hH, hr19⟩⟩
              · rw [if_neg (nt hc285)] at ho17
                refine V_gn rfl rfl rfl hc285 rfl rfl rfl ?_
                refine V_gn rfl rfl rfl hc285 rfl rfl rfl ?_
                refine V_gn rfl rfl rfl hc285 rfl rfl rfl ?_
                refine V_gn rfl rfl rfl hc285 rfl rfl rfl ?_
                refine V_gn rfl rfl rfl hc285 rfl rfl rfl ?_
                refine V_y (Y_pick_fe rfl hc285 rfl) rfl rfl rfl ?_
                refine V_y (Y_assign rfl) rfl rfl rfl ?_
                obtain rfl := Option.some.inj ho17
                refine V_end (fun a ha299 => ?_)
                exact ⟨A, ha299.sub ⟨rfl, trivial⟩, ⟨hH, hr19⟩⟩
            · rw [if_neg (nt hc282)] at ho17
              refine V_gn rfl rfl rfl hc282 rfl rfl rfl ?_
              refine V_gn rfl rfl rfl hc282 rfl rfl rfl ?_
              refine V_gn rfl rfl rfl hc282 rfl rfl rfl ?_
              refine V_gn rfl rfl rfl hc282 rfl rfl rfl ?_
              refine V_gn rfl rfl rfl hc282 rfl rfl rfl ?_
              refine V_y (Y_pick_fe rfl hc282 rfl) rfl rfl rfl ?_
              refine V_y (Y_move rfl) rfl rfl rfl ?_
              rcases Bool.eq_false_or_eq_true (false) with hc300 | hc300
              · rw [if_pos hc300] at ho17
                refine V_ge rfl rfl rfl hc300 ?_
                have h301 := El_level_Clock_6 h8
                refine V_y (Y_fieldAddr Tryz.underlying24 rfl Tryz.sizeOf22 (by decide) rfl) rfl rfl rfl ?_
                refine V_ge rfl rfl rfl hc300 ?_
                obtain ⟨v302, h303, h304⟩ := El.list h301
                refine V_y (Y_load h303 Tryz.isAgg22 rfl) rfl rfl rfl ?_
                refine V_ge rfl rfl rfl hc300 ?_
                have h305 := El_level_Clock_6 h14
                refine V_y (Y_fieldAddr Tryz.underlying24 rfl Tryz.sizeOf22 (by decide) rfl) rfl rfl rfl ?_
                refine V_ge rfl rfl rfl hc300 ?_
                obtain ⟨v306, h307, h308⟩ := El.list h305
                refine V_y (Y_load h307 Tryz.isAgg22 rfl) rfl rfl rfl ?_
                refine V_ge rfl rfl rfl hc300 ?_
                obtain ⟨x309, hx309, ho17⟩ := Option.bind_eq_some_iff.1 ho17
                refine V_call Tryz.call52 rfl rfl rfl rfl (slices_Equal_Llevel_Piece_level_Piece_c (Dw := Dw) w12 hA a_.pieces v302 h304 b.pieces v306 h308 hx309) ?_
                rintro _ w310 ⟨rfl, hk311⟩
                have ht312 := Kp.tr (Dw := Dw) hk311 hA hB
                replace hH := Hp.kp (Dw := Dw) hH hk311
                replace h8 := El.tr (Dw := Dw) h8 ht312
                replace h14 := El.tr (Dw := Dw) h14 ht312
                replace h25 := El.tr (Dw := Dw) h25 ht312
                replace h26 := El.tr (Dw := Dw) h26 ht312
                replace h28 := El.tr (Dw := Dw) h28 ht312
                replace h29 := El.tr (Dw := Dw) h29 ht312
                replace h301 := El.tr (Dw := Dw) h301 ht312
                replace h304 := Sl.tr (Dw := Dw) h304 ht312
                replace h305 := El.tr (Dw := Dw) h305 ht312
                replace h308 := Sl.tr (Dw := Dw) h308 ht312
                replace hK := Tr.trans (Dw := Dw) hK ht312
                replace hr19 := Tr.trans (Dw := Dw) hr19 ht312
                replace hB := Nat.le_trans hB ht312.ex.size
                replace hA := ht312.new
                refine V_y (Y_pick_te rfl hc300 rfl) rfl rfl rfl ?_
                refine V_y (Y_assign rfl) rfl rfl rfl ?_
                obtain rfl := Option.some.inj ho17
                refine V_end (fun a ha313 => ?_)
                exact ⟨A, ha313.sub ⟨rfl, trivial⟩, ⟨hH, hr19⟩⟩
              · rw [if_neg (nt hc300)] at ho17
                refine V_gn rfl rfl rfl hc300 rfl rfl rfl ?_
                refine V_gn rfl rfl rfl hc300 rfl rfl rfl ?_
                refine V_gn rfl rfl rfl hc300 rfl rfl rfl ?_
                refine V_gn rfl rfl rfl hc300 rfl rfl rfl ?_
                refine V_gn rfl rfl rfl hc300 rfl rfl rfl ?_
                refine V_y (Y_pick_fe rfl hc300 rfl) rfl rfl rfl ?_
                refine V_y (Y_assign rfl) rfl rfl rfl ?_
                obtain rfl := Option.some.inj ho17
                refine V_end (fun a ha314 => ?_)
                exact ⟨A, ha314.sub ⟨rfl, trivial⟩, ⟨hH, hr19⟩⟩
    · rw [if_neg (nt hc27)] at ho17
      refine V_gn rfl rfl rfl hc27 rfl rfl rfl ?_
      refine V_gn rfl rfl rfl hc27 rfl rfl rfl ?_
      refine V_gn rfl rfl rfl hc27 rfl rfl rfl ?_
      refine V_gn rfl rfl rfl hc27 rfl rfl rfl ?_
      refine V_gn rfl rfl rfl hc27 rfl rfl rfl ?_
      refine V_y (Y_pick_fe rfl hc27 rfl) rfl rfl rfl ?_
      refine V_y (Y_move rfl) rfl rfl rfl ?_
      rcases Bool.eq_false_or_eq_true (false) with hc315 | hc315
      · rw [if_pos hc315] at ho17
        refine V_ge rfl rfl rfl hc315 ?_
        have h316 := El_level_Clock_2 h8
        refine V_y (Y_fieldAddr Tryz.underlying24 rfl Tryz.sizeOf3 (by decide) rfl) rfl rfl rfl ?_
        refine V_ge rfl rfl rfl hc315 ?_
        refine V_y (Y_load (El.int h316) Tryz.isAgg3 rfl) rfl rfl rfl ?_
        refine V_ge rfl rfl rfl hc315 ?_
        have h317 := El_level_Clock_2 h14
        refine V_y (Y_fieldAddr Tryz.underlying24 rfl Tryz.sizeOf3 (by decide) rfl) rfl rfl rfl ?_
        refine V_ge rfl rfl rfl hc315 ?_
        refine V_y (Y_load (El.int h317) Tryz.isAgg3 rfl) rfl rfl rfl ?_
        refine V_ge rfl rfl rfl hc315 ?_
        refine V_y (Y_eql rfl rfl) rfl rfl rfl ?_
        refine V_y (Y_pick_te rfl hc315 rfl) rfl rfl rfl ?_
        refine V_y (Y_move rfl) rfl rfl rfl ?_
        rcases Bool.eq_false_or_eq_true (a_.minutes == b.minutes) with hc318 | hc318
        · rw [if_pos hc318] at ho17
          refine V_ge rfl rfl rfl hc318 ?_
          have h319 := El_level_Clock_3 h8
          refine V_y (Y_fieldAddr Tryz.underlying24 rfl Tryz.sizeOf3 (by decide) rfl) rfl rfl rfl ?_
          refine V_ge rfl rfl rfl hc318 ?_
          refine V_y (Y_load (El.int h319) Tryz.isAgg3 rfl) rfl rfl rfl ?_
          refine V_ge rfl rfl rfl hc318 ?_
          have h320 := El_level_Clock_3 h14
          refine V_y (Y_fieldAddr Tryz.underlying24 rfl Tryz.sizeOf3 (by decide) rfl) rfl rfl rfl ?_
          refine V_ge rfl rfl rfl hc318 ?_
          refine V_y (Y_load (El.int h320) Tryz.isAgg3 rfl) rfl rfl rfl ?_
          refine V_ge rfl rfl rfl hc318 ?_
          refine V_y (Y_eql rfl rfl) rfl rfl rfl ?_
          refine V_y (Y_pick_te rfl hc318 rfl) rfl rfl rfl ?_
          refine V_y (Y_move rfl) rfl rfl rfl ?_
          rcases Bool.eq_false_or_eq_true (a_.start == b.start) with hc321 | hc321
          · rw [if_pos hc321] at ho17
            refine V_ge rfl rfl rfl hc321 ?_
            have h322 := El_level_Clock_4 h8
            refine V_y (Y_fieldAddr Tryz.underlying24 rfl Tryz.sizeOf3 (by decide) rfl) rfl rfl rfl ?_
            refine V_ge rfl rfl rfl hc321 ?_
            refine V_y (Y_load (El.int h322) Tryz.isAgg3 rfl) rfl rfl rfl ?_
            refine V_ge rfl rfl rfl hc321 ?_
            have h323 := El_level_Clock_4 h14
            refine V_y (Y_fieldAddr Tryz.underlying24 rfl Tryz.sizeOf3 (by decide) rfl) rfl rfl rfl ?_
            refine V_ge rfl rfl rfl hc321 ?_
            refine V_y (Y_load (El.int h323) Tryz.isAgg3 rfl) rfl rfl rfl ?_
            refine V_ge rfl rfl rfl hc321 ?_
            refine V_y (Y_eql rfl rfl) rfl rfl rfl ?_
            refine V_y (Y_pick_te rfl hc321 rfl) rfl rfl rfl ?_
            refine V_y (Y_move rfl) rfl rfl rfl ?_
            rcases Bool.eq_false_or_eq_true (a_.stop == b.stop) with hc324 | hc324
            · rw [if_pos hc324] at ho17
              refine V_ge rfl rfl rfl hc324 ?_
              have h325 := El_level_Clock_5 h8
              refine V_y (Y_fieldAddr Tryz.underlying24 rfl Tryz.sizeOf3 (by decide) rfl) rfl rfl rfl ?_
              refine V_ge rfl rfl rfl hc324 ?_
              refine V_y (Y_load (El.int h325) Tryz.isAgg3 rfl) rfl rfl rfl ?_
              refine V_ge rfl rfl rfl hc324 ?_
              have h326 := El_level_Clock_5 h14
              refine V_y (Y_fieldAddr Tryz.underlying24 rfl Tryz.sizeOf3 (by decide) rfl) rfl rfl rfl ?_
              refine V_ge rfl rfl rfl hc324 ?_
              refine V_y (Y_load (El.int h326) Tryz.isAgg3 rfl) rfl rfl rfl ?_
              refine V_ge rfl rfl rfl hc324 ?_
              refine V_y (Y_eql rfl rfl) rfl rfl rfl ?_
              refine V_y (Y_pick_te rfl hc324 rfl) rfl rfl rfl ?_
              refine V_y (Y_move rfl) rfl rfl rfl ?_
              rcases Bool.eq_false_or_eq_true (a_.end_ == b.end_) with hc327 | hc327
              · rw [if_pos hc327] at ho17
                refine V_ge rfl rfl rfl hc327 ?_
                have h328 := El_level_Clock_6 h8
                refine V_y (Y_fieldAddr Tryz.underlying24 rfl Tryz.sizeOf22 (by decide) rfl) rfl rfl rfl ?_
                refine V_ge rfl rfl rfl hc327 ?_
                obtain ⟨v329, h330, h331⟩ := El.list h328
                refine V_y (Y_load h330 Tryz.isAgg22 rfl) rfl rfl rfl ?_
                refine V_ge rfl rfl rfl hc327 ?_
                have h332 := El_level_Clock_6 h14
                refine V_y (Y_fieldAddr Tryz.underlying24 rfl Tryz.sizeOf22 (by decide) rfl) rfl rfl rfl ?_
                refine V_ge rfl rfl rfl hc327 ?_
                obtain ⟨v333, h334, h335⟩ := El.list h332
                refine V_y (Y_load h334 Tryz.isAgg22 rfl) rfl rfl rfl ?_
                refine V_ge rfl rfl rfl hc327 ?_
                obtain ⟨x336, hx336, ho17⟩ := Option.bind_eq_some_iff.1 ho17
                refine V_call Tryz.call52 rfl rfl rfl rfl (slices_Equal_Llevel_Piece_level_Piece_c (Dw := Dw) w12 hA a_.pieces v329 h331 b.pieces v333 h335 hx336) ?_
                rintro _ w337 ⟨rfl, hk338⟩
                have ht339 := Kp.tr (Dw := Dw) hk338 hA hB
                replace hH := Hp.kp (Dw := Dw) hH hk338
                replace h8 := El.tr (Dw := Dw) h8 ht339
                replace h14 := El.tr (Dw := Dw) h14 ht339
                replace h25 := El.tr (Dw := Dw) h25 ht339
                replace h26 := El.tr (Dw := Dw) h26 ht339
                replace h316 := El.tr (Dw := Dw) h316 ht339
                replace h317 := El.tr (Dw := Dw) h317 ht339
                replace h319 := El.tr (Dw := Dw) h319 ht339
                replace h320 := El.tr (Dw := Dw) h320 ht339
                replace h322 := El.tr (Dw := Dw) h322 ht339
                replace h323 := El.tr (Dw := Dw) h323 ht339
                replace h325 := El.tr (Dw := Dw) h325 ht339
                replace h326 := El.tr (Dw := Dw) h326 ht339
                replace h328 := El.tr (Dw := Dw) h328 ht339
                replace h331 := Sl.tr (Dw := Dw) h331 ht339
                replace h332 := El.tr (Dw := Dw) h332 ht339
                replace h335 := Sl.tr (Dw := Dw) h335 ht339
                replace hK := Tr.trans (Dw := Dw) hK ht339
                replace hr19 := Tr.trans (Dw := Dw) hr19 ht339
                replace hB := Nat.le_trans hB ht339.ex.size
                replace hA := ht339.new
                refine V_y (Y_pick_te rfl hc327 rfl) rfl rfl rfl ?_
                refine V_y (Y_assign rfl) rfl rfl rfl ?_
                obtain rfl := Option.some.inj ho17
                refine V_end (fun a ha340 => ?_)
                exact ⟨A, ha340.sub ⟨rfl, trivial⟩, ⟨hH, hr19⟩⟩
              · rw [if_neg (nt hc327)] at ho17
                refine V_gn rfl rfl rfl hc327 rfl rfl rfl ?_
                refine V_gn rfl rfl rfl hc327 rfl rfl rfl ?_
                refine V_gn rfl rfl rfl hc327 rfl rfl rfl ?_
                refine V_gn rfl rfl rfl hc327 rfl rfl rfl ?_
                refine V_gn rfl rfl rfl hc327 rfl rfl rfl ?_
                refine V_y (Y_pick_fe rfl hc327 rfl) rfl rfl rfl ?_
                refine V_y (Y_assign rfl) rfl rfl rfl ?_
                obtain rfl := Option.some.inj ho17
                refine V_end (fun a ha341 => ?_)
                exact ⟨A, ha341.sub ⟨rfl, trivial⟩, ⟨hH, hr19⟩⟩
            · rw [if_neg (nt hc324)] at ho17
              refine V_gn rfl rfl rfl hc324 rfl rfl rfl ?_
              refine V_gn rfl rfl rfl hc324 rfl rfl rfl ?_
              refine V_gn rfl rfl rfl hc324 rfl rfl rfl ?_
              refine V_gn rfl rfl rfl hc324 rfl rfl rfl ?_
              refine V_gn rfl rfl rfl hc324 rfl rfl rfl ?_
              refine V_y (Y_pick_fe rfl hc324 rfl) rfl rfl rfl ?_
              refine V_y (Y_move rfl) rfl rfl rfl ?_
              rcases Bool.eq_false_or_eq_true (false) with hc342 | hc342
              · rw [if_pos hc342] at ho17
                refine V_ge rfl rfl rfl hc342 ?_
                have h343 := El_level_Clock_6 h8
                refine V_y (Y_fieldAddr Tryz.underlying24 rfl Tryz.sizeOf22 (by decide) rfl) rfl rfl rfl ?_
                refine V_ge rfl rfl rfl hc342 ?_
                obtain ⟨v344, h345, h346⟩ := El.list h343
                refine V_y (Y_load h345 Tryz.isAgg22 rfl) rfl rfl rfl ?_
                refine V_ge rfl rfl rfl hc342 ?_
                have h347 := El_level_Clock_6 h14
                refine V_y (Y_fieldAddr Tryz.underlying24 rfl Tryz.sizeOf22 (by decide) rfl) rfl rfl rfl ?_
                refine V_ge rfl rfl rfl hc342 ?_
                obtain ⟨v348, h349, h350⟩ := El.list h347
                refine V_y (Y_load h349 Tryz.isAgg22 rfl) rfl rfl rfl ?_
                refine V_ge rfl rfl rfl hc342 ?_
                obtain ⟨x351, hx351, ho17⟩ := Option.bind_eq_some_iff.1 ho17
                refine V_call Tryz.call52 rfl rfl rfl rfl (slices_Equal_Llevel_Piece_level_Piece_c (Dw := Dw) w12 hA a_.pieces v344 h346 b.pieces v348 h350 hx351) ?_
                rintro _ w352 ⟨rfl, hk353⟩
                have ht354 := Kp.tr (Dw := Dw) hk353 hA hB
                replace hH := Hp.kp (Dw := Dw) hH hk353
                replace h8 := El.tr (Dw := Dw) h8 ht354
                replace h14 := El.tr (Dw := Dw) h14 ht354
                replace h25 := El.tr (Dw := Dw) h25 ht354
                replace h26 := El.tr (Dw := Dw) h26 ht354
                replace h316 := El.tr (Dw := Dw) h316 ht354
                replace h317 := El.tr (Dw := Dw) h317 ht354
                replace h319 := El.tr (Dw := Dw) h319 ht354
                replace h320 := El.tr (Dw := Dw) h320 ht354
                replace h322 := El.tr (Dw := Dw) h322 ht354
                replace h323 := El.tr (Dw := Dw) h323 ht354
                replace h343 := El.tr (Dw := Dw) h343 ht354
                replace h346 := Sl.tr (Dw := Dw) h346 ht354
                replace h347 := El.tr (Dw := Dw) h347 ht354
                replace h350 := Sl.tr (Dw := Dw) h350 ht354
                replace hK := Tr.trans (Dw := Dw) hK ht354
                replace hr19 := Tr.trans (Dw := Dw) hr19 ht354
                replace hB := Nat.le_trans hB ht354.ex.size
                replace hA := ht354.new
                refine V_y (Y_pick_te rfl hc342 rfl) rfl rfl rfl ?_
                refine V_y (Y_assign rfl) rfl rfl rfl ?_
                obtain rfl := Option.some.inj ho17
                refine V_end (fun a ha355 => ?_)
                exact ⟨A, ha355.sub ⟨rfl, trivial⟩, ⟨hH, hr19⟩⟩
              · rw [if_neg (nt hc342)] at ho17
                refine V_gn rfl rfl rfl hc342 rfl rfl rfl ?_
                refine V_gn rfl rfl rfl hc342 rfl rfl rfl ?_
                refine V_gn rfl rfl rfl hc342 rfl rfl rfl ?_
                refine V_gn rfl rfl rfl hc342 rfl rfl rfl ?_
                refine V_gn rfl rfl rfl hc342 rfl rfl rfl ?_
                refine V_y (Y_pick_fe rfl hc342 rfl) rfl rfl rfl ?_
                refine V_y (Y_assign rfl) rfl rfl rfl ?_
                obtain rfl := Option.some.inj ho17
                refine V_end (fun a ha356 => ?_)
                exact ⟨A, ha356.sub ⟨rfl, trivial⟩, ⟨hH, hr19⟩⟩
          · rw [if_neg (nt hc321)] at ho17
            refine V_gn rfl rfl rfl hc321 rfl rfl rfl ?_
            refine V_gn rfl rfl rfl hc321 rfl rfl rfl ?_
            refine V_gn rfl rfl rfl hc321 rfl rfl rfl ?_
            refine V_gn rfl rfl rfl hc321 rfl rfl rfl ?_
            refine V_gn rfl rfl rfl hc321 rfl rfl rfl ?_
            refine V_y (Y_pick_fe rfl hc321 rfl) rfl rfl rfl ?_
            refine V_y (Y_move rfl) rfl rfl rfl ?_
            rcases Bool.eq_false_or_eq_true (false) with hc357 | hc357
            · rw [if_pos hc357] at ho17
              refine V_ge rfl rfl rfl hc357 ?_
              have h358 := El_level_Clock_5 h8
              refine V_y (Y_fieldAddr Tryz.underlying24 rfl Tryz.sizeOf3 (by decide) rfl) rfl rfl rfl ?_
              refine V_ge rfl rfl rfl hc357 ?_
              refine V_y (Y_load (El.int h358) Tryz.isAgg3 rfl) rfl rfl rfl ?_
              refine V_ge rfl rfl rfl hc357 ?_
              have h359 := El_level_Clock_5 h14
              refine V_y (Y_fieldAddr Tryz.underlying24 rfl Tryz.sizeOf3 (by decide) rfl) rfl rfl rfl ?_
              refine V_ge rfl rfl rfl hc357 ?_
              refine V_y (Y_load (El.int h359) Tryz.isAgg3 rfl) rfl rfl rfl ?_
              refine V_ge rfl rfl rfl hc357 ?_
              refine V_y (Y_eql rfl rfl) rfl rfl rfl ?_
              refine V_y (Y_pick_te rfl hc357 rfl) rfl rfl rfl ?_
              refine V_y (Y_move rfl) rfl rfl rfl ?_
              rcases Bool.eq_false_or_eq_true (a_.end_ == b.end_) with hc360 | hc360
              · rw [if_pos hc360] at ho17
                refine V_ge rfl rfl rfl hc360 ?_
                have h361 := El_level_Clock_6 h8
                refine V_y (Y_fieldAddr Tryz.underlying24 rfl Tryz.sizeOf22 (by decide) rfl) rfl rfl rfl ?_
                refine V_ge rfl rfl rfl hc360 ?_
                obtain ⟨v362, h363, h364⟩ := El.list h361
                refine V_y (Y_load h363 Tryz.isAgg22 rfl) rfl rfl rfl ?_
                refine V_ge rfl rfl rfl hc360 ?_
                have h365 := El_level_Clock_6 h14
                refine V_y (Y_fieldAddr Tryz.underlying24 rfl Tryz.sizeOf22 (by decide) rfl) rfl rfl rfl ?_
                refine V_ge rfl rfl rfl hc360 ?_
                obtain ⟨v366, h367, h368⟩ := El.list h365
                refine V_y (Y_load h367 Tryz.isAgg22 rfl) rfl rfl rfl ?_
                refine V_ge rfl rfl rfl hc360 ?_
                obtain ⟨x369, hx369, ho17⟩ := Option.bind_eq_some_iff.1 ho17
                refine V_call Tryz.call52 rfl rfl rfl rfl (slices_Equal_Llevel_Piece_level_Piece_c (Dw := Dw) w12 hA a_.pieces v362 h364 b.pieces v366 h368 hx369) ?_
                rintro _ w370 ⟨rfl, hk371⟩
                have ht372 := Kp.tr (Dw := Dw) hk371 hA hB
                replace hH := Hp.kp (Dw := Dw) hH hk371
                replace h8 := El.tr (Dw := Dw) h8 ht372
                replace h14 := El.tr (Dw := Dw) h14 ht372
                replace h25 := El.tr (Dw := Dw) h25 ht372
                replace h26 := El.tr (Dw := Dw) h26 ht372
                replace h316 := El.tr (Dw := Dw) h316 ht372
                replace h317 := El.tr (Dw := Dw) h317 ht372
                replace h319 := El.tr (Dw := Dw) h319 ht372
                replace h320 := El.tr (Dw := Dw) h320 ht372
                replace h358 := El.tr (Dw := Dw) h358 ht372
                replace h359 := El.tr (Dw := Dw) h359 ht372
                replace h361 := El.tr (Dw := Dw) h361 ht372
                replace h364 := Sl.tr (Dw := Dw) h364 ht372
                replace h365 := El.tr (Dw := Dw) h365 ht372
                replace h368 := Sl.tr (Dw := Dw) h368 ht372
                replace hK := Tr.trans (Dw := Dw) hK ht372
                replace hr19 := Tr.trans (Dw := Dw) hr19 ht372
                replace hB := Nat.le_trans hB ht372.ex.size
                replace hA := ht372.new
                refine V_y (Y_pick_te rfl hc360 rfl) rfl rfl rfl ?_
                refine V_y (Y_assign rfl) rfl rfl rfl ?_
                obtain rfl := Option.some.inj ho17
                refine V_end (fun a ha373 => ?_)
                exact ⟨A, ha373.sub ⟨rfl, trivial⟩, ⟨hH, hr19⟩⟩
              · rw [if_neg (nt hc360)] at ho17
                refine V_gn rfl rfl rfl hc360 rfl rfl rfl ?_
                refine V_gn rfl rfl rfl hc360 rfl rfl rfl ?_
                refine V_gn rfl rfl rfl hc360 rfl rfl rfl ?_
                refine V_gn rfl rfl rfl hc360 rfl rfl rfl ?_
                refine V_gn rfl rfl rfl hc360 rfl rfl rfl ?_
                refine V_y (Y_pick_fe rfl hc360 rfl) rfl rfl rfl ?_
                refine V_y (Y_assign rfl) rfl rfl rfl ?_
                obtain rfl := Option.some.inj ho17
                refine V_end (fun a ha374 => ?_)
                exact ⟨A, ha374.sub ⟨rfl, trivial⟩, ⟨hH, hr19⟩⟩
            · rw [if_neg (nt hc357)] at ho17
              refine V_gn rfl rfl rfl hc357 rfl rfl rfl ?_
              refine V_gn rfl rfl rfl hc357 rfl rfl rfl ?_
              refine V_gn rfl rfl rfl hc357 rfl rfl rfl ?_
              refine V_gn rfl rfl rfl hc357 rfl rfl rfl ?_
              refine V_gn rfl rfl rfl hc357 rfl rfl rfl ?_
              refine V_y (Y_pick_fe rfl hc357 rfl) rfl rfl rfl ?_
              refine V_y (Y_move rfl) rfl rfl rfl ?_
              rcases Bool.eq_false_or_eq_true (false) with hc375 | hc375
              · rw [if_pos hc375] at ho17
                refine V_ge rfl rfl rfl hc375 ?_
                have h376 := El_level_Clock_6 h8
                refine V_y (Y_fieldAddr Tryz.underlying24 rfl Tryz.sizeOf22 (by decide) rfl) rfl rfl rfl ?_
                refine V_ge rfl rfl rfl hc375 ?_
                obtain ⟨v377, h378, h379⟩ := El.list h376
                refine V_y (Y_load h378 Tryz.isAgg22 rfl) rfl rfl rfl ?_
                refine V_ge rfl rfl rfl hc375 ?_
                have h380 := El_level_Clock_6 h14
                refine V_y (Y_fieldAddr Tryz.underlying24 rfl Tryz.sizeOf22 (by decide) rfl) rfl rfl rfl ?_
                refine V_ge rfl rfl rfl hc375 ?_
                obtain ⟨v381, h382, h383⟩ := El.list h380
                refine V_y (Y_load h382 Tryz.isAgg22 rfl) rfl rfl rfl ?_
                refine V_ge rfl rfl rfl hc375 ?_
                obtain ⟨x384, hx384, ho17⟩ := Option.bind_eq_some_iff.1 ho17
                refine V_call Tryz.call52 rfl rfl rfl rfl (slices_Equal_Llevel_Piece_level_Piece_c (Dw := Dw) w12 hA a_.pieces v377 h379 b.pieces v381 h383 hx384) ?_
                rintro _ w385 ⟨rfl, hk386⟩
                have ht387 := Kp.tr (Dw := Dw) hk386 hA hB
                replace hH := Hp.kp (Dw := Dw) hH hk386
                replace h8 := El.tr (Dw := Dw) h8 ht387
                replace h14 := El.tr (Dw := Dw) h14 ht387
                replace h25 := El.tr (Dw := Dw) h25 ht387
                replace h26 := El.tr (Dw := Dw) h26 ht387
                replace h316 := El.tr (Dw := Dw) h316 ht387
                replace h317 := El.tr (Dw := Dw) h317 ht387
                replace h319 := El.tr (Dw := Dw) h319 ht387
                replace h320 := El.tr (Dw := Dw) h320 ht387
                replace h376 := El.tr (Dw := Dw) h376 ht387
                replace h379 := Sl.tr (Dw := Dw) h379 ht387
                replace h380 := El.tr (Dw := Dw) h380 ht387
                replace h383 := Sl.tr (Dw := Dw) h383 ht387
                replace hK := Tr.trans (Dw := Dw) hK ht387
                replace hr19 := Tr.trans (Dw := Dw) hr19 ht387
                replace hB := Nat.le_trans hB ht387.ex.size
                replace hA := ht387.new
                refine V_y (Y_pick_te rfl hc375 rfl) rfl rfl rfl ?_
                refine V_y (Y_assign rfl) rfl rfl rfl ?_
                obtain rfl := Option.some.inj ho17
                refine V_end (fun a ha388 => ?_)
                exact ⟨A, ha388.sub ⟨rfl, trivial⟩, ⟨hH, hr19⟩⟩
              · rw [if_neg (nt hc375)] at ho17
                refine V_gn rfl rfl rfl hc375 rfl rfl rfl ?_
                refine V_gn rfl rfl rfl hc375 rfl rfl rfl ?_
                refine V_gn rfl rfl rfl hc375 rfl rfl rfl ?_
                refine V_gn rfl rfl rfl hc375 rfl rfl rfl ?_
                refine V_gn rfl rfl rfl hc375 rfl rfl rfl ?_
                refine V_y (Y_pick_fe rfl hc375 rfl) rfl rfl rfl ?_
                refine V_y (Y_assign rfl) rfl rfl rfl ?_
                obtain rfl := Option.some.inj ho17
                refine V_end (fun a ha389 => ?_)
                exact ⟨A, ha389.sub ⟨rfl, trivial⟩, ⟨hH, hr19⟩⟩
        · rw [if_neg (nt hc318)] at ho17
          refine V_gn rfl rfl rfl hc318 rfl rfl rfl ?_
          refine V_gn rfl rfl rfl hc318 rfl rfl rfl ?_
          refine V_gn rfl rfl rfl hc318 rfl rfl rfl ?_
          refine V_gn rfl rfl rfl hc318 rfl rfl rfl ?_
          refine V_gn rfl rfl rfl hc318 rfl rfl rfl ?_
          refine V_y (Y_pick_fe rfl hc318 rfl) rfl rfl rfl ?_
          refine V_y (Y_move rfl) rfl rfl rfl ?_
          rcases Bool.eq_false_or_eq_true (false) with hc390 | hc390
          · rw [if_pos hc390] at ho17
            refine V_ge rfl rfl rfl hc390 ?_
            have h391 := El_level_Clock_4 h8
            refine V_y (Y_fieldAddr Tryz.underlying24 rfl Tryz.sizeOf3 (by decide) rfl) rfl rfl rfl ?_
            refine V_ge rfl rfl rfl hc390 ?_
            refine V_y (Y_load (El.int h391) Tryz.isAgg3 rfl) rfl rfl rfl ?_
            refine V_ge rfl rfl rfl hc390 ?_
            have h392 := El_level_Clock_4 h14
            refine V_y (Y_fieldAddr Tryz.underlying24 rfl Tryz.sizeOf3 (by decide) rfl) rfl rfl rfl ?_
            refine V_ge rfl rfl rfl hc390 ?_
            refine V_y (Y_load (El.int h392) Tryz.isAgg3 rfl) rfl rfl rfl ?_
            refine V_ge rfl rfl rfl hc390 ?_
            refine V_y (Y_eql rfl rfl) rfl rfl rfl ?_
            refine V_y (Y_pick_te rfl hc390 rfl) rfl rfl rfl ?_
            refine V_y (Y_move rfl) rfl rfl rfl ?_
            rcases Bool.eq_false_or_eq_true (a_.stop == b.stop) with hc393 | hc393
            · rw [if_pos hc393] at ho17
              refine V_ge rfl rfl rfl hc393 ?_
              have h394 := El_level_Clock_5 h8
              refine V_y (Y_fieldAddr Tryz.underlying24 rfl Tryz.sizeOf3 (by decide) rfl) rfl rfl rfl ?_
              refine V_ge rfl rfl rfl hc393 ?_
              refine V_y (Y_load (El.int h394) Tryz.isAgg3 rfl) rfl rfl rfl ?_
              refine V_ge rfl rfl rfl hc393 ?_
              have h395 := El_level_Clock_5 h14
              refine V_y (Y_fieldAddr Tryz.underlying24 rfl Tryz.sizeOf3 (by decide) rfl) rfl rfl rfl ?_
              refine V_ge rfl rfl rfl hc393 ?_
              refine V_y (Y_load (El.int h395) Tryz.isAgg3 rfl) rfl rfl rfl ?_
              refine V_ge rfl rfl rfl hc393 ?_
              refine V_y (Y_eql rfl rfl) rfl rfl rfl ?_
              refine V_y (Y_pick_te rfl hc393 rfl) rfl rfl rfl ?_
              refine V_y (Y_move rfl) rfl rfl rfl ?_
              rcases Bool.eq_false_or_eq_true (a_.end_ == b.end_) with hc396 | hc396
              · rw [if_pos hc396] at ho17
                refine V_ge rfl rfl rfl hc396 ?_
                have h397 := El_level_Clock_6 h8
                refine V_y (Y_fieldAddr Tryz.underlying24 rfl Tryz.sizeOf22 (by decide) rfl) rfl rfl rfl ?_
                refine V_ge rfl rfl rfl hc396 ?_
                obtain ⟨v398, h399, h400⟩ := El.list h397
                refine V_y (Y_load h399 Tryz.isAgg22 rfl) rfl rfl rfl ?_
                refine V_ge rfl rfl rfl hc396 ?_
                have h401 := El_level_Clock_6 h14
                refine V_y (Y_fieldAddr Tryz.underlying24 rfl Tryz.sizeOf22 (by decide) rfl) rfl rfl rfl ?_
                refine V_ge rfl rfl rfl hc396 ?_
                obtain ⟨v402, h403, h404⟩ := El.list h401
                refine V_y (Y_load h403 Tryz.isAgg22 rfl) rfl rfl rfl ?_
                refine V_ge rfl rfl rfl hc396 ?_
                obtain ⟨x405, hx405, ho17⟩ := Option.bind_eq_some_iff.1 ho17
                refine V_call Tryz.call52 rfl rfl rfl rfl (slices_Equal_Llevel_Piece_level_Piece_c (Dw := Dw) w12 hA a_.pieces v398 h400 b.pieces v402 h404 hx405) ?_
                rintro _ w406 ⟨rfl, hk407⟩
                have ht408 := Kp.tr (Dw := Dw) hk407 hA hB
                replace hH := Hp.kp (Dw := Dw) hH hk407
                replace h8 := El.tr (Dw := Dw) h8 ht408
                replace h14 := El.tr (Dw := Dw) h14 ht408
                replace h25 := El.tr (Dw := Dw) h25 ht408
                replace h26 := El.tr (Dw := Dw) h26 ht408
                replace h316 := El.tr (Dw := Dw) h316 ht408
                replace h317 := El.tr (Dw := Dw) h317 ht408
                replace h391 := El.tr (Dw := Dw) h391 ht408
                replace h392 := El.tr (Dw := Dw) h392 ht408
                replace h394 := El.tr (Dw := Dw) h394 ht408
                replace h395 := El.tr (Dw := Dw) h395 ht408
                replace h397 := El.tr (Dw := Dw) h397 ht408
                replace h400 := Sl.tr (Dw := Dw) h400 ht408
                replace h401 := El.tr (Dw := Dw) h401 ht408
                replace h404 := Sl.tr (Dw := Dw) h404 ht408
                replace hK := Tr.trans (Dw := Dw) hK ht408
                replace hr19 := Tr.trans (Dw := Dw) hr19 ht408
                replace hB := Nat.le_trans hB ht408.ex.size
                replace hA := ht408.new
                refine V_y (Y_pick_te rfl hc396 rfl) rfl rfl rfl ?_
                refine V_y (Y_assign rfl) rfl rfl rfl ?_
                obtain rfl := Option.some.inj ho17
                refine V_end (fun a ha409 => ?_)
                exact ⟨A, ha409.sub ⟨rfl, trivial⟩, ⟨hH, hr19⟩⟩
              · rw [if_neg (nt hc396)] at ho17
                refine V_gn rfl rfl rfl hc396 rfl rfl rfl ?_
                refine V_gn rfl rfl rfl hc396 rfl rfl rfl ?_
                refine V_gn rfl rfl rfl hc396 rfl rfl rfl ?_
                refine V_gn rfl rfl rfl hc396 rfl rfl rfl ?_
                refine V_gn rfl rfl rfl hc396 rfl rfl rfl ?_
                refine V_y (Y_pick_fe rfl hc396 rfl) rfl rfl rfl ?_
                refine V_y (Y_assign rfl) rfl rfl rfl ?_
                obtain rfl := Option.some.inj ho17
                refine V_end (fun a ha410 => ?_)
                exact ⟨A, ha410.sub ⟨rfl, trivial⟩, ⟨hH, hr19⟩⟩
            · rw [if_neg (nt hc393)] at ho17
              refine V_gn rfl rfl rfl hc393 rfl rfl rfl ?_
              refine V_gn rfl rfl rfl hc393 rfl rfl rfl ?_
              refine V_gn rfl rfl rfl hc393 rfl rfl rfl ?_
              refine V_gn rfl rfl rfl hc393 rfl rfl rfl ?_
              refine V_gn rfl rfl rfl hc393 rfl rfl rfl ?_
              refine V_y (Y_pick_fe rfl hc393 rfl) rfl rfl rfl ?_
              refine V_y (Y_move rfl) rfl rfl rfl ?_
              rcases Bool.eq_false_or_eq_true (false) with hc411 | hc411
              · rw [if_pos hc411] at ho17
                refine V_ge rfl rfl rfl hc411 ?_
                have h412 := El_level_Clock_6 h8
                refine V_y (Y_fieldAddr Tryz.underlying24 rfl Tryz.sizeOf22 (by decide) rfl) rfl rfl rfl ?_
                refine V_ge rfl rfl rfl hc411 ?_
                obtain ⟨v413, h414, h415⟩ := El.list h412
                refine V_y (Y_load h414 Tryz.isAgg22 rfl) rfl rfl rfl ?_
                refine V_ge rfl rfl rfl hc411 ?_
                have h416 := El_level_Clock_6 h14
                refine V_y (Y_fieldAddr Tryz.underlying24 rfl Tryz.sizeOf22 (by decide) rfl) rfl rfl rfl ?_
                refine V_ge rfl rfl rfl hc411 ?_
                obtain ⟨v417, h418, h419⟩ := El.list h416
                refine V_y (Y_load h418 Tryz.isAgg22 rfl) rfl rfl rfl ?_
                refine V_ge rfl rfl rfl hc411 ?_
                obtain ⟨x420, hx420, ho17⟩ := Option.bind_eq_some_iff.1 ho17
                refine V_call Tryz.call52 rfl rfl rfl rfl (slices_Equal_Llevel_Piece_level_Piece_c (Dw := Dw) w12 hA a_.pieces v413 h415 b.pieces v417 h419 hx420) ?_
                rintro _ w421 ⟨rfl, hk422⟩
                have ht423 := Kp.tr (Dw := Dw) hk422 hA hB
                replace hH := Hp.kp (Dw := Dw) hH hk422
                replace h8 := El.tr (Dw := Dw) h8 ht423
                replace h14 := El.tr (Dw := Dw) h14 ht423
                replace h25 := El.tr (Dw := Dw) h25 ht423
                replace h26 := El.tr (Dw := Dw) h26 ht423
                replace h316 := El.tr (Dw := Dw) h316 ht423
                replace h317 := El.tr (Dw := Dw) h317 ht423
                replace h391 := El.tr (Dw := Dw) h391 ht423
                replace h392 := El.tr (Dw := Dw) h392 ht423
                replace h412 := El.tr (Dw := Dw) h412 ht423
                replace h415 := Sl.tr (Dw := Dw) h415 ht423
                replace h416 := El.tr (Dw := Dw) h416 ht423
                replace h419 := Sl.tr (Dw := Dw) h419 ht423
                replace hK := Tr.trans (Dw := Dw) hK ht423
                replace hr19 := Tr.trans (Dw := Dw) hr19 ht423
                replace hB := Nat.le_trans hB ht423.ex.size
                replace hA := ht423.new
                refine V_y (Y_pick_te rfl hc411 rfl) rfl rfl rfl ?_
                refine V_y (Y_assign rfl) rfl rfl rfl ?_
                obtain rfl := Option.some.inj ho17
                refine V_end (fun a ha424 => ?_)
                exact ⟨A, ha424.sub ⟨rfl, trivial⟩, ⟨hH, hr19⟩⟩
              · rw [if_neg (nt hc411)] at ho17
                refine V_gn rfl rfl rfl hc411 rfl rfl rfl ?_
                refine V_gn rfl rfl rfl hc411 rfl rfl rfl ?_
                refine V_gn rfl rfl rfl hc411 rfl rfl rfl ?_
                refine V_gn rfl rfl rfl hc411 rfl rfl rfl ?_
                refine V_gn rfl rfl rfl hc411 rfl rfl rfl ?_
                refine V_y (Y_pick_fe rfl hc411 rfl) rfl rfl rfl ?_
                refine V_y (Y_assign rfl) rfl rfl rfl ?_
                obtain rfl := Option.some.inj ho17
                refine V_end (fun a ha425 => ?_)
                exact ⟨A, ha425.sub ⟨rfl, trivial⟩, ⟨hH, hr19⟩⟩
          · rw [if_neg (nt hc390)] at ho17
            refine V_gn rfl rfl rfl hc390 rfl rfl rfl ?_
            refine V_gn rfl rfl rfl hc390 rfl rfl rfl ?_
            refine V_gn rfl rfl rfl hc390 rfl rfl rfl ?_
            refine V_gn rfl rfl rfl hc390 rfl rfl rfl ?_
            refine V_gn rfl rfl rfl hc390 rfl rfl rfl ?_
            refine V_y (Y_pick_fe rfl hc390 rfl) rfl rfl rfl ?_
            refine V_y (Y_move rfl) rfl rfl rfl ?_
            rcases Bool.eq_false_or_eq_true (false) with hc426 | hc426
            · rw [if_pos hc426] at ho17
              refine V_ge rfl rfl rfl hc426 ?_
              have h427 := El_level_Clock_5 h8
              refine V_y (Y_fieldAddr Tryz.underlying24 rfl Tryz.sizeOf3 (by decide) rfl) rfl rfl rfl ?_
              refine V_ge rfl rfl rfl hc426 ?_
              refine V_y (Y_load (El.int h427) Tryz.isAgg3 rfl) rfl rfl rfl ?_
              refine V_ge rfl rfl rfl hc426 ?_
              have h428 := El_level_Clock_5 h14
              refine V_y (Y_fieldAddr Tryz.underlying24 rfl Tryz.sizeOf3 (by decide) rfl) rfl rfl rfl ?_
              refine V_ge rfl rfl rfl hc426 ?_
              refine V_y (Y_load (El.int h428) Tryz.isAgg3 rfl) rfl rfl rfl ?_
              refine V_ge rfl rfl rfl hc426 ?_
              refine V_y (Y_eql rfl rfl) rfl rfl rfl ?_
              refine V_y (Y_pick_te rfl hc426 rfl) rfl rfl rfl ?_
              refine V_y (Y_move rfl) rfl rfl rfl ?_
              rcases Bool.eq_false_or_eq_true (a_.end_ == b.end_) with hc429 | hc429
              · rw [if_pos hc429] at ho17
                refine V_ge rfl rfl rfl hc429 ?_
                have h430 := El_level_Clock_6 h8
                refine V_y (Y_fieldAddr Tryz.underlying24 rfl Tryz.sizeOf22 (by decide) rfl) rfl rfl rfl ?_
                refine V_ge rfl rfl rfl hc429 ?_
                obtain ⟨v431, h432, h433⟩ := El.list h430
                refine V_y (Y_load h432 Tryz.isAgg22 rfl) rfl rfl rfl ?_
                refine V_ge rfl rfl rfl hc429 ?_
                have h434 := El_level_Clock_6 h14
                refine V_y (Y_fieldAddr Tryz.underlying24 rfl Tryz.sizeOf22 (by decide) rfl) rfl rfl rfl ?_
                refine V_ge rfl rfl rfl hc429 ?_
                obtain ⟨v435, h436, h437⟩ := El.list h434
                refine V_y (Y_load h436 Tryz.isAgg22 rfl) rfl rfl rfl ?_
                refine V_ge rfl rfl rfl hc429 ?_
                obtain ⟨x438, hx438, ho17⟩ := Option.bind_eq_some_iff.1 ho17
                refine V_call Tryz.call52 rfl rfl rfl rfl (slices_Equal_Llevel_Piece_level_Piece_c (Dw := Dw) w12 hA a_.pieces v431 h433 b.pieces v435 h437 hx438) ?_
                rintro _ w439 ⟨rfl, hk440⟩
                have ht441 := Kp.tr (Dw := Dw) hk440 hA hB
                replace hH := Hp.kp (Dw := Dw) hH hk440
                replace h8 := El.tr (Dw := Dw) h8 ht441
                replace h14 := El.tr (Dw := Dw) h14 ht441
                replace h25 := El.tr (Dw := Dw) h25 ht441
                replace h26 := El.tr (Dw := Dw) h26 ht441
                replace h316 := El.tr (Dw := Dw) h316 ht441
                replace h317 := El.tr (Dw := Dw) h317 ht441
                replace h427 := El.tr (Dw := Dw) h427 ht441
                replace h428 := El.tr (Dw := Dw) h428 ht441
                replace h430 := El.tr (Dw := Dw) h430 ht441
                replace h433 := Sl.tr (Dw := Dw) h433 ht441
                replace h434 := El.tr (Dw := Dw) h434 ht441
                replace h437 := Sl.tr (Dw := Dw) h437 ht441
                replace hK := Tr.trans (Dw := Dw) hK ht441
                replace hr19 := Tr.trans (Dw := Dw) hr19 ht441
                replace hB := Nat.le_trans hB ht441.ex.size
                replace hA := ht441.new
                refine V_y (Y_pick_te rfl hc429 rfl) rfl rfl rfl ?_
                refine V_y (Y_assign rfl) rfl rfl rfl ?_
                obtain rfl := Option.some.inj ho17
                refine V_end (fun a ha442 => ?_)
                exact ⟨A, ha442.sub ⟨rfl, trivial⟩, ⟨hH, hr19⟩⟩
              · rw [if_neg (nt hc429)] at ho17
                refine V_gn rfl rfl rfl hc429 rfl rfl rfl ?_
                refine V_gn rfl rfl rfl hc429 rfl rfl rfl ?_
                refine V_gn rfl rfl rfl hc429 rfl rfl rfl ?_
                refine V_gn rfl rfl rfl hc429 rfl rfl rfl ?_
                refine V_gn rfl rfl rfl hc429 rfl rfl rfl ?_
                refine V_y (Y_pick_fe rfl hc429 rfl) rfl rfl rfl ?_
                refine V_y (Y_assign rfl) rfl rfl rfl ?_
                obtain rfl := Option.some.inj ho17
                refine V_end (fun a ha443 => ?_)
                exact ⟨A, ha443.sub ⟨rfl, trivial⟩, ⟨hH, hr19⟩⟩
            · rw [if_neg (nt hc426)] at ho17
              refine V_gn rfl rfl rfl hc426 rfl rfl rfl ?_
              refine V_gn rfl rfl rfl hc426 rfl rfl rfl ?_
              refine V_gn rfl rfl rfl hc426 rfl rfl rfl ?_
              refine V_gn rfl rfl rfl hc426 rfl rfl rfl ?_
              refine V_gn rfl rfl rfl hc426 rfl rfl rfl ?_
              refine V_y (Y_pick_fe rfl hc426 rfl) rfl rfl rfl ?_
              refine V_y (Y_move rfl) rfl rfl rfl ?_
              rcases Bool.eq_false_or_eq_true (false) with hc444 | hc444
              · rw [if_pos hc444] at ho17
                refine V_ge rfl rfl rfl hc444 ?_
                have h445 := El_level_Clock_6 h8
                refine V_y (Y_fieldAddr Tryz.underlying24 rfl Tryz.sizeOf22 (by decide) rfl) rfl rfl rfl ?_
                refine V_ge rfl rfl rfl hc444 ?_
                obtain ⟨v446, h447, h448⟩ := El.list h445
                refine V_y (Y_load h447 Tryz.isAgg22 rfl) rfl rfl rfl ?_
                refine V_ge rfl rfl rfl hc444 ?_
                have h449 := El_level_Clock_6 h14
                refine V_y (Y_fieldAddr Tryz.underlying24 rfl Tryz.sizeOf22 (by decide) rfl) rfl rfl rfl ?_
                refine V_ge rfl rfl rfl hc444 ?_
                obtain ⟨v450, h451, h452⟩ := El.list h449
                refine V_y (Y_load h451 Tryz.isAgg22 rfl) rfl rfl rfl ?_
                refine V_ge rfl rfl rfl hc444 ?_
                obtain ⟨x453, hx453, ho17⟩ := Option.bind_eq_some_iff.1 ho17
                refine V_call Tryz.call52 rfl rfl rfl rfl (slices_Equal_Llevel_Piece_level_Piece_c (Dw := Dw) w12 hA a_.pieces v446 h448 b.pieces v450 h452 hx453) ?_
                rintro _ w454 ⟨rfl, hk455⟩
                have ht456 := Kp.tr (Dw := Dw) hk455 hA hB
                replace hH := Hp.kp (Dw := Dw) hH hk455
                replace h8 := El.tr (Dw := Dw) h8 ht456
                replace h14 := El.tr (Dw := Dw) h14 ht456
                replace h25 := El.tr (Dw := Dw) h25 ht456
                replace h26 := El.tr (Dw := Dw) h26 ht456
                replace h316 := El.tr (Dw := Dw) h316 ht456
                replace h317 := El.tr (Dw := Dw) h317 ht456
                replace h445 := El.tr (Dw := Dw) h445 ht456
                replace h448 := Sl.tr (Dw := Dw) h448 ht456
                replace h449 := El.tr (Dw := Dw) h449 ht456
                replace h452 := Sl.tr (Dw := Dw) h452 ht456
                replace hK := Tr.trans (Dw := Dw) hK ht456
                replace hr19 := Tr.trans (Dw := Dw) hr19 ht456
                replace hB := Nat.le_trans hB ht456.ex.size
                replace hA := ht456.new
                refine V_y (Y_pick_te rfl hc444 rfl) rfl rfl rfl ?_
                refine V_y (Y_assign rfl) rfl rfl rfl ?_
                obtain rfl := Option.some.inj ho17
                refine V_end (fun a ha457 => ?_)
                exact ⟨A, ha457.sub ⟨rfl, trivial⟩, ⟨hH, hr19⟩⟩
              · rw [if_neg (nt hc444)] at ho17
                refine V_gn rfl rfl rfl hc444 rfl rfl rfl ?_
                refine V_gn rfl rfl rfl hc444 rfl rfl rfl ?_
                refine V_gn rfl rfl rfl hc444 rfl rfl rfl ?_
                refine V_gn rfl rfl rfl hc444 rfl rfl rfl ?_
                refine V_gn rfl rfl rfl hc444 rfl rfl rfl ?_
                refine V_y (Y_pick_fe rfl hc444 rfl) rfl rfl rfl ?_
                refine V_y (Y_assign rfl) rfl rfl rfl ?_
                obtain rfl := Option.some.inj ho17
                refine V_end (fun a ha458 => ?_)
                exact ⟨A, ha458.sub ⟨rfl, trivial⟩, ⟨hH, hr19⟩⟩
      · rw [if_neg (nt hc315)] at ho17
        refine V_gn rfl rfl rfl hc315 rfl rfl rfl ?_
        refine V_gn rfl rfl rfl hc315 rfl rfl rfl ?_
        refine V_gn rfl rfl rfl hc315 rfl rfl rfl ?_
        refine V_gn rfl rfl rfl hc315 rfl rfl rfl ?_
        refine V_gn rfl rfl rfl hc315 rfl rfl rfl ?_
        refine V_y (Y_pick_fe rfl hc315 rfl) rfl rfl rfl ?_
        refine V_y (Y_move rfl) rfl rfl rfl ?_
        rcases Bool.eq_false_or_eq_true (false) with hc459 | hc459
        · rw [if_pos hc459] at ho17
          refine V_ge rfl rfl rfl hc459 ?_
          have h460 := El_level_Clock_3 h8
          refine V_y (Y_fieldAddr Tryz.underlying24 rfl Tryz.sizeOf3 (by decide) rfl) rfl rfl rfl ?_
          refine V_ge rfl rfl rfl hc459 ?_
          refine V_y (Y_load (El.int h460) Tryz.isAgg3 rfl) rfl rfl rfl ?_
          refine V_ge rfl rfl rfl hc459 ?_
          have h461 := El_level_Clock_3 h14
          refine V_y (Y_fieldAddr Tryz.underlying24 rfl Tryz.sizeOf3 (by decide) rfl) rfl rfl rfl ?_
          refine V_ge rfl rfl rfl hc459 ?_
          refine V_y (Y_load (El.int h461) Tryz.isAgg3 rfl) rfl rfl rfl ?_
          refine V_ge rfl rfl rfl hc459 ?_
          refine V_y (Y_eql rfl rfl) rfl rfl rfl ?_
          refine V_y (Y_pick_te rfl hc459 rfl) rfl rfl rfl ?_
          refine V_y (Y_move rfl) rfl rfl rfl ?_
          rcases Bool.eq_false_or_eq_true (a_.start == b.start) with hc462 | hc462
          · rw [if_pos hc462] at ho17
            refine V_ge rfl rfl rfl hc462 ?_
            have h463 := El_level_Clock_4 h8
            refine V_y (Y_fieldAddr Tryz.underlying24 rfl Tryz.sizeOf3 (by decide) rfl) rfl rfl rfl ?_
            refine V_ge rfl rfl rfl hc462 ?_
            refine V_y (Y_load (El.int h463) Tryz.isAgg3 rfl) rfl rfl rfl ?_
            refine V_ge rfl rfl rfl hc462 ?_
            have h464 := El_level_Clock_4 h14
            refine V_y (Y_fieldAddr Tryz.underlying24 rfl Tryz.sizeOf3 (by decide) rfl) rfl rfl rfl ?_
            refine V_ge rfl rfl rfl hc462 ?_
            refine V_y (Y_load (El.int h464) Tryz.isAgg3 rfl) rfl rfl rfl ?_
            refine V_ge rfl rfl rfl hc462 ?_
            refine V_y (Y_eql rfl rfl) rfl rfl rfl ?_
            refine V_y (Y_pick_te rfl hc462 rfl) rfl rfl rfl ?_
            refine V_y (Y_move rfl) rfl rfl rfl ?_
            rcases Bool.eq_false_or_eq_true (a_.stop == b.stop) with hc465 | hc465
            · rw [if_pos hc465] at ho17
              refine V_ge rfl rfl rfl hc465 ?_
              have h466 := El_level_Clock_5 h8
              refine V_y (Y_fieldAddr Tryz.underlying24 rfl Tryz.sizeOf3 (by decide) rfl) rfl rfl rfl ?_
              refine V_ge rfl rfl rfl hc465 ?_
              refine V_y (Y_load (El.int h466) Tryz.isAgg3 rfl) rfl rfl rfl ?_
              refine V_ge rfl rfl rfl hc465 ?_
              have h467 := El_level_Clock_5 h14
              refine V_y (Y_fieldAddr Tryz.underlying24 rfl Tryz.sizeOf3 (by decide) rfl) rfl rfl rfl ?_
              refine V_ge rfl rfl rfl hc465 ?_
              refine V_y (Y_load (El.int h467) Tryz.isAgg3 rfl) rfl rfl rfl ?_
              refine V_ge rfl rfl rfl hc465 ?_
              refine V_y (Y_eql rfl rfl) rfl rfl rfl ?_
              refine V_y (Y_pick_te rfl hc465 rfl) rfl rfl rfl ?_
              refine V_y (Y_move rfl) rfl rfl rfl ?_
              rcases Bool.eq_false_or_eq_true (a_.end_ == b.end_) with hc468 | hc468
              · rw [if_pos hc468] at ho17
                refine V_ge rfl rfl rfl hc468 ?_
                have h469 := El_level_Clock_6 h8
                refine V_y (Y_fieldAddr Tryz.underlying24 rfl Tryz.sizeOf22 (by decide) rfl) rfl rfl rfl ?_
                refine V_ge rfl rfl rfl hc468 ?_
                obtain ⟨v470, h471, h472⟩ := El.list h469
                refine V_y (Y_load h471 Tryz.isAgg22 rfl) rfl rfl rfl ?_
                refine V_ge rfl rfl rfl hc468 ?_
                have h473 := El_level_Clock_6 h14
                refine V_y (Y_fieldAddr Tryz.underlying24 rfl Tryz.sizeOf22 (by decide) rfl) rfl rfl rfl ?_
                refine V_ge rfl rfl rfl hc468 ?_
                obtain ⟨v474, h475, h476⟩ := El.list h473
                refine V_y (Y_load h475 Tryz.isAgg22 rfl) rfl rfl rfl ?_
                refine V_ge rfl rfl rfl hc468 ?_
                obtain ⟨x477, hx477, ho17⟩ := Option.bind_eq_some_iff.1 ho17
                refine V_call Tryz.call52 rfl rfl rfl rfl (slices_Equal_Llevel_Piece_level_Piece_c (Dw := Dw) w12 hA a_.pieces v470 h472 b.pieces v474 h476 hx477) ?_
                rintro _ w478 ⟨rfl, hk479⟩
                have ht480 := Kp.tr (Dw := Dw) hk479 hA hB
                replace hH := Hp.kp (Dw := Dw) hH hk479
                replace h8 := El.tr (Dw := Dw) h8 ht480
                replace h14 := El.tr (Dw := Dw) h14 ht480
                replace h25 := El.tr (Dw := Dw) h25 ht480
                replace h26 := El.tr (Dw := Dw) h26 ht480
                replace h460 := El.tr (Dw := Dw) h460 ht480
                replace h461 := El.tr (Dw := Dw) h461 ht480
                replace h463 := El.tr (Dw := Dw) h463 ht480
                replace h464 := El.tr (Dw := Dw) h464 ht480
                replace h466 := El.tr (Dw := Dw) h466 ht480
                replace h467 := El.tr (Dw := Dw) h467 ht480
                replace h469 := El.tr (Dw := Dw) h469 ht480
                replace h472 := Sl.tr (Dw := Dw) h472 ht480
                replace h473 := El.tr (Dw := Dw) h473 ht480
                replace h476 := Sl.tr (Dw := Dw) h476 ht480
                replace hK := Tr.trans (Dw := Dw) hK ht480
                replace hr19 := Tr.trans (Dw := Dw) hr19 ht480
                replace hB := Nat.le_trans hB ht480.ex.size
                replace hA := ht480.new
                refine V_y (Y_pick_te rfl hc468 rfl) rfl rfl rfl ?_
                refine V_y (Y_assign rfl) rfl rfl rfl ?_
                obtain rfl := Option.some.inj ho17
                refine V_end (fun a ha481 => ?_)
                exact ⟨A, ha481.sub ⟨rfl, trivial⟩, ⟨hH, hr19⟩⟩
              · rw [if_neg (nt hc468)] at ho17
                refine V_gn rfl rfl rfl hc468 rfl rfl rfl ?_
                refine V_gn rfl rfl rfl hc468 rfl rfl rfl ?_
                refine V_gn rfl rfl rfl hc468 rfl rfl rfl ?_
                refine V_gn rfl rfl rfl hc468 rfl rfl rfl ?_
                refine V_gn rfl rfl rfl hc468 rfl rfl rfl ?_
                refine V_y (Y_pick_fe rfl hc468 rfl) rfl rfl rfl ?_
                refine V_y (Y_assign rfl) rfl rfl rfl ?_
                obtain rfl := Option.some.inj ho17
                refine V_end (fun a ha482 => ?_)
                exact ⟨A, ha482.sub ⟨rfl, trivial⟩, ⟨hH, hr19⟩⟩
            · rw [if_neg (nt hc465)] at ho17
              refine V_gn rfl rfl rfl hc465 rfl rfl rfl ?_
              refine V_gn rfl rfl rfl hc465 rfl rfl rfl ?_
              refine V_gn rfl rfl rfl hc465 rfl rfl rfl ?_
              refine V_gn rfl rfl rfl hc465 rfl rfl rfl ?_
              refine V_gn rfl rfl rfl hc465 rfl rfl rfl ?_
              refine V_y (Y_pick_fe rfl hc465 rfl) rfl rfl rfl ?_
              refine V_y (Y_move rfl) rfl rfl rfl ?_
              rcases Bool.eq_false_or_eq_true (false) with hc483 | hc483
              · rw [if_pos hc483] at ho17
                refine V_ge rfl rfl rfl hc483 ?_
                have h484 := El_level_Clock_6 h8
                refine V_y (Y_fieldAddr Tryz.underlying24 rfl Tryz.sizeOf22 (by decide) rfl) rfl rfl rfl ?_
                refine V_ge rfl rfl rfl hc483 ?_
                obtain ⟨v485, h486, h487⟩ := El.list h484
                refine V_y (Y_load h486 Tryz.isAgg22 rfl) rfl rfl rfl ?_
                refine V_ge rfl rfl rfl hc483 ?_
                have h488 := El_level_Clock_6 h14
                refine V_y (Y_fieldAddr Tryz.underlying24 rfl Tryz.sizeOf22 (by decide) rfl) rfl rfl rfl ?_
                refine V_ge rfl rfl rfl hc483 ?_
                obtain ⟨v489, h490, h491⟩ := El.list h488
                refine V_y (Y_load h490 Tryz.isAgg22 rfl) rfl rfl rfl ?_
                refine V_ge rfl rfl rfl hc483 ?_
                obtain ⟨x492, hx492, ho17⟩ := Option.bind_eq_some_iff.1 ho17
                refine V_call Tryz.call52 rfl rfl rfl rfl (slices_Equal_Llevel_Piece_level_Piece_c (Dw := Dw) w12 hA a_.pieces v485 h487 b.pieces v489 h491 hx492) ?_
                rintro _ w493 ⟨rfl, hk494⟩
                have ht495 := Kp.tr (Dw := Dw) hk494 hA hB
                replace hH := Hp.kp (Dw := Dw) hH hk494
                replace h8 := El.tr (Dw := Dw) h8 ht495
                replace h14 := El.tr (Dw := Dw) h14 ht495
                replace h25 := El.tr (Dw := Dw) h25 ht495
                replace h26 := El.tr (Dw := Dw) h26 ht495
                replace h460 := El.tr (Dw := Dw) h460 ht495
                replace h461 := El.tr (Dw := Dw) h461 ht495
                replace h463 := El.tr (Dw := Dw) h463 ht495
                replace h464 := El.tr (Dw := Dw) h464 ht495
                replace h484 := El.tr (Dw := Dw) h484 ht495
                replace h487 := Sl.tr (Dw := Dw) h487 ht495
                replace h488 := El.tr (Dw := Dw) h488 ht495
                replace h491 := Sl.tr (Dw := Dw) h491 ht495
                replace hK := Tr.trans (Dw := Dw) hK ht495
                replace hr19 := Tr.trans (Dw := Dw) hr19 ht495
                replace hB := Nat.le_trans hB ht495.ex.size
                replace hA := ht495.new
                refine V_y (Y_pick_te rfl hc483 rfl) rfl rfl rfl ?_
                refine V_y (Y_assign rfl) rfl rfl rfl ?_
                obtain rfl := Option.some.inj ho17
                refine V_end (fun a ha496 => ?_)
                exact ⟨A, ha496.sub ⟨rfl, trivial⟩, ⟨hH, hr19⟩⟩
              · rw [if_neg (nt hc483)] at ho17
                refine V_gn rfl rfl rfl hc483 rfl rfl rfl ?_
                refine V_gn rfl rfl rfl hc483 rfl rfl rfl ?_
                refine V_gn rfl rfl rfl hc483 rfl rfl rfl ?_
                refine V_gn rfl rfl rfl hc483 rfl rfl rfl ?_
                refine V_gn rfl rfl rfl hc483 rfl rfl rfl ?_
                refine V_y (Y_pick_fe rfl hc483 rfl) rfl rfl rfl ?_
                refine V_y (Y_assign rfl) rfl rfl rfl ?_
                obtain rfl := Option.some.inj ho17
                refine V_end (fun a ha497 => ?_)
                exact ⟨A, ha497.sub ⟨rfl, trivial⟩, ⟨hH, hr19⟩⟩
          · rw [if_neg (nt hc462)] at ho17
            refine V_gn rfl rfl rfl hc462 rfl rfl rfl ?_
            refine V_gn rfl rfl rfl hc462 rfl rfl rfl ?_
            refine V_gn rfl rfl rfl hc462 rfl rfl rfl ?_
            refine V_gn rfl rfl rfl hc462 rfl rfl rfl ?_
            refine V_gn rfl rfl rfl hc462 rfl rfl rfl ?_
            refine V_y (Y_pick_fe rfl hc462 rfl) rfl rfl rfl ?_
            refine V_y (Y_move rfl) rfl rfl rfl ?_
            rcases Bool.eq_false_or_eq_true (false) with hc498 | hc498
            · rw [if_pos hc498] at ho17
              refine V_ge rfl rfl rfl hc498 ?_
              have h499 := El_level_Clock_5 h8
              refine V_y (Y_fieldAddr Tryz.underlying24 rfl Tryz.sizeOf3 (by decide) rfl) rfl rfl rfl ?_
              refine V_ge rfl rfl rfl hc498 ?_
              refine V_y (Y_load (El.int h499) Tryz.isAgg3 rfl) rfl rfl rfl ?_
              refine V_ge rfl rfl rfl hc498 ?_
              have h500 := El_level_Clock_5 h14
              refine V_y (Y_fieldAddr Tryz.underlying24 rfl Tryz.sizeOf3 (by decide) rfl) rfl rfl rfl ?_
              refine V_ge rfl rfl rfl hc498 ?_
              refine V_y (Y_load (El.int h500) Tryz.isAgg3 rfl) rfl rfl rfl ?_
              refine V_ge rfl rfl rfl hc498 ?_
              refine V_y (Y_eql rfl rfl) rfl rfl rfl ?_
              refine V_y (Y_pick_te rfl hc498 rfl) rfl rfl rfl ?_
              refine V_y (Y_move rfl) rfl rfl rfl ?_
              rcases Bool.eq_false_or_eq_true (a_.end_ == b.end_) with hc501 | hc501
              · rw [if_pos hc501] at ho17
                refine V_ge rfl rfl rfl hc501 ?_
                have h502 := El_level_Clock_6 h8
                refine V_y (Y_fieldAddr Tryz.underlying24 rfl Tryz.sizeOf22 (by decide) rfl) rfl rfl rfl ?_
                refine V_ge rfl rfl rfl hc501 ?_
                obtain ⟨v503, h504, h505⟩ := El.list h502
                refine V_y (Y_load h504 Tryz.isAgg22 rfl) rfl rfl rfl ?_
                refine V_ge rfl rfl rfl hc501 ?_
                have h506 := El_level_Clock_6 h14
                refine V_y (Y_fieldAddr Tryz.underlying24 rfl Tryz.sizeOf22 (by decide) rfl) rfl rfl rfl ?_
                refine V_ge rfl rfl rfl hc501 ?_
                obtain ⟨v507, h508, h509⟩ := El.list h506
                refine V_y (Y_load h508 Tryz.isAgg22 rfl) rfl rfl rfl ?_
                refine V_ge rfl rfl rfl hc501 ?_
                obtain ⟨x510, hx510, ho17⟩ := Option.bind_eq_some_iff.1 ho17
                refine V_call Tryz.call52 rfl rfl rfl rfl (slices_Equal_Llevel_Piece_level_Piece_c (Dw := Dw) w12 hA a_.pieces v503 h505 b.pieces v507 h509 hx510) ?_
                rintro _ w511 ⟨rfl, hk512⟩
                have ht513 := Kp.tr (Dw := Dw) hk512 hA hB
                replace hH := Hp.kp (Dw := Dw) hH hk512
                replace h8 := El.tr (Dw := Dw) h8 ht513
                replace h14 := El.tr (Dw := Dw) h14 ht513
                replace h25 := El.tr (Dw := Dw) h25 ht513
                replace h26 := El.tr (Dw := Dw) h26 ht513
                replace h460 := El.tr (Dw := Dw) h460 ht513
                replace h461 := El.tr (Dw := Dw) h461 ht513
                replace h499 := El.tr (Dw := Dw) h499 ht513
                replace h500 := El.tr (Dw := Dw) h500 ht513
                replace h502 := El.tr (Dw := Dw) h502 ht513
                replace h505 := Sl.tr (Dw := Dw) h505 ht513
                replace h506 := El.tr (Dw := Dw) h506 ht513
                replace h509 := Sl.tr (Dw := Dw) h509 ht513
                replace hK := Tr.trans (Dw := Dw) hK ht513
                replace hr19 := Tr.trans (Dw := Dw) hr19 ht513
                replace hB := Nat.le_trans hB ht513.ex.size
                replace hA := ht513.new
                refine V_y (Y_pick_te rfl hc501 rfl) rfl rfl rfl ?_
                refine V_y (Y_assign rfl) rfl rfl rfl ?_
                obtain rfl := Option.some.inj ho17
                refine V_end (fun a ha514 => ?_)
                exact ⟨A, ha514.sub ⟨rfl, trivial⟩, ⟨hH, hr19⟩⟩
              · rw [if_neg (nt hc501)] at ho17
                refine V_gn rfl rfl rfl hc501 rfl rfl rfl ?_
                refine V_gn rfl rfl rfl hc501 rfl rfl rfl ?_
                refine V_gn rfl rfl rfl hc501 rfl rfl rfl ?_
                refine V_gn rfl rfl rfl hc501 rfl rfl rfl ?_
                refine V_gn rfl rfl rfl hc501 rfl rfl rfl ?_
                refine V_y (Y_pick_fe rfl hc501 rfl) rfl rfl rfl ?_
                refine V_y (Y_assign rfl) rfl rfl rfl ?_
                obtain rfl := Option.some.inj ho17
                refine V_end (fun a ha515 => ?_)
                exact ⟨A, ha515.sub ⟨rfl, trivial⟩, ⟨hH, hr19⟩⟩
            · rw [if_neg (nt hc498)] at ho17
              refine V_gn rfl rfl rfl hc498 rfl rfl rfl ?_
              refine V_gn rfl rfl rfl hc498 rfl rfl rfl ?_
              refine V_gn rfl rfl rfl hc498 rfl rfl rfl ?_
              refine V_gn rfl rfl rfl hc498 rfl rfl rfl ?_
              refine V_gn rfl rfl rfl hc498 rfl rfl rfl ?_
              refine V_y (Y_pick_fe rfl hc498 rfl) rfl rfl rfl ?_
              refine V_y (Y_move rfl) rfl rfl rfl ?_
              rcases Bool.eq_false_or_eq_true (false) with hc516 | hc516
              · rw [if_pos hc516] at ho17
                refine V_ge rfl rfl rfl hc516 ?_
                have h517 := El_level_Clock_6 h8
                refine V_y (Y_fieldAddr Tryz.underlying24 rfl Tryz.sizeOf22 (by decide) rfl) rfl rfl rfl ?_
                refine V_ge rfl rfl rfl hc516 ?_
                obtain ⟨v518, h519, h520⟩ := El.list h517
                refine V_y (Y_load h519 Tryz.isAgg22 rfl) rfl rfl rfl ?_
                refine V_ge rfl rfl rfl hc516 ?_
                have h521 := El_level_Clock_6 h14
                refine V_y (Y_fieldAddr Tryz.underlying24 rfl Tryz.sizeOf22 (by decide) rfl) rfl rfl rfl ?_
                refine V_ge rfl rfl rfl hc516 ?_
                obtain ⟨v522, h523, h524⟩ := El.list h521
                refine V_y (Y_load h523 Tryz.isAgg22 rfl) rfl rfl rfl ?_
                refine V_ge rfl rfl rfl hc516 ?_
                obtain ⟨x525, hx525, ho17⟩ := Option.bind_eq_some_iff.1 ho17
                refine V_call Tryz.call52 rfl rfl rfl rfl (slices_Equal_Llevel_Piece_level_Piece_c (Dw := Dw) w12 hA a_.pieces v518 h520 b.pieces v522 h524 hx525) ?_
                rintro _ w526 ⟨rfl, hk527⟩
                have ht528 := Kp.tr (Dw := Dw) hk527 hA hB
                replace hH := Hp.kp (Dw := Dw) hH hk527
                replace h8 := El.tr (Dw := Dw) h8 ht528
                replace h14 := El.tr (Dw := Dw) h14 ht528
                replace h25 := El.tr (Dw := Dw) h25 ht528
                replace h26 := El.tr (Dw := Dw) h26 ht528
                replace h460 := El.tr (Dw := Dw) h460 ht528
                replace h461 := El.tr (Dw := Dw) h461 ht528
                replace h517 := El.tr (Dw := Dw) h517 ht528
                replace h520 := Sl.tr (Dw := Dw) h520 ht528
                replace h521 := El.tr (Dw := Dw) h521 ht528
                replace h524 := Sl.tr (Dw := Dw) h524 ht528
                replace hK := Tr.trans (Dw := Dw) hK ht528
                replace hr19 := Tr.trans (Dw := Dw) hr19 ht528
                replace hB := Nat.le_trans hB ht528.ex.size
                replace hA := ht528.new
                refine V_y (Y_pick_te rfl hc516 rfl) rfl rfl rfl ?_
                refine V_y (Y_assign rfl) rfl rfl rfl ?_
                obtain rfl := Option.some.inj ho17
                refine V_end (fun a ha529 => ?_)
                exact ⟨A, ha529.sub ⟨rfl, trivial⟩, ⟨hH, hr19⟩⟩
              · rw [if_neg (nt hc516)] at ho17
                refine V_gn rfl rfl rfl hc516 rfl rfl rfl ?_
                refine V_gn rfl rfl rfl hc516 rfl rfl rfl ?_
                refine V_gn rfl rfl rfl hc516 rfl rfl rfl ?_
                refine V_gn rfl rfl rfl hc516 rfl rfl rfl ?_
                refine V_gn rfl rfl rfl hc516 rfl rfl rfl ?_
                refine V_y (Y_pick_fe rfl hc516 rfl) rfl rfl rfl ?_
                refine V_y (Y_assign rfl) rfl rfl rfl ?_
                obtain rfl := Option.some.inj ho17
                refine V_end (fun a ha530 => ?_)
                exact ⟨A, ha530.sub ⟨rfl, trivial⟩, ⟨hH, hr19⟩⟩
        · rw [if_neg (nt hc459)] at ho17
          refine V_gn rfl rfl rfl hc459 rfl rfl rfl ?_
          refine V_gn rfl rfl rfl hc459 rfl rfl rfl ?_
          refine V_gn rfl rfl rfl hc459 rfl rfl rfl ?_
          refine V_gn rfl rfl rfl hc459 rfl rfl rfl ?_
          refine V_gn rfl rfl rfl hc459 rfl rfl rfl ?_
          refine V_y (Y_pick_fe rfl hc459 rfl) rfl rfl rfl ?_
          refine V_y (Y_move rfl) rfl rfl rfl ?_
          rcases Bool.eq_false_or_eq_true (false) with hc531 | hc531
          · rw [if_pos hc531] at ho17
            refine V_ge rfl rfl rfl hc531 ?_
            have h532 := El_level_Clock_4 h8
            refine V_y (Y_fieldAddr Tryz.underlying24 rfl Tryz.sizeOf3 (by decide) rfl) rfl rfl rfl ?_
            refine V_ge rfl rfl rfl hc531 ?_
            refine V_y (Y_load (El.int h532) Tryz.isAgg3 rfl) rfl rfl rfl ?_
            refine V_ge rfl rfl rfl hc531 ?_
            have h533 := El_level_Clock_4 h14
            refine V_y (Y_fieldAddr Tryz.underlying24 rfl Tryz.sizeOf3 (by decide) rfl) rfl rfl rfl ?_
            refine V_ge rfl rfl rfl hc531 ?_
            refine V_y (Y_load (El.int h533) Tryz.isAgg3 rfl) rfl rfl rfl ?_
            refine V_ge rfl rfl rfl hc531 ?_
            refine V_y (Y_eql rfl rfl) rfl rfl rfl ?_
            refine V_y (Y_pick_te rfl hc531 rfl) rfl rfl rfl ?_
            refine V_y (Y_move rfl) rfl rfl rfl ?_
            rcases Bool.eq_false_or_eq_true (a_.stop == b.stop) with hc534 | hc534
            · rw [if_pos hc534] at ho17
              refine V_ge rfl rfl rfl hc534 ?_
              have h535 := El_level_Clock_5 h8
              refine V_y (Y_fieldAddr Tryz.underlying24 rfl Tryz.sizeOf3 (by decide) rfl) rfl rfl rfl ?_
              refine V_ge rfl rfl rfl hc534 ?_
              refine V_y (Y_load (El.int h535) Tryz.isAgg3 rfl) rfl rfl rfl ?_
              refine V_ge rfl rfl rfl hc534 ?_
              have h536 := El_level_Clock_5 h14
              refine V_y (Y_fieldAddr Tryz.underlying24 rfl Tryz.sizeOf3 (by decide) rfl) rfl rfl rfl ?_
              refine V_ge rfl rfl rfl hc534 ?_
              refine V_y (Y_load (El.int h536) Tryz.isAgg3 rfl) rfl rfl rfl ?_
              refine V_ge rfl rfl rfl hc534 ?_
              refine V_y (Y_eql rfl rfl) rfl rfl rfl ?_
              refine V_y (Y_pick_te rfl hc534 rfl) rfl rfl rfl ?_
              refine V_y (Y_move rfl) rfl rfl rfl ?_
              rcases Bool.eq_false_or_eq_true (a_.end_ == b.end_) with hc537 | hc537
              · rw [if_pos hc537] at ho17
                refine V_ge rfl rfl rfl hc537 ?_
                have h538 := El_level_Clock_6 h8
                refine V_y (Y_fieldAddr Tryz.underlying24 rfl Tryz.sizeOf22 (by decide) rfl) rfl rfl rfl ?_
                refine V_ge rfl rfl rfl hc537 ?_
                obtain ⟨v539, h540, h541⟩ := El.list h538
                refine V_y (Y_load h540 Tryz.isAgg22 rfl) rfl rfl rfl ?_
                refine V_ge rfl rfl rfl hc537 ?_
                have h542 := El_level_Clock_6 h14
                refine V_y (Y_fieldAddr Tryz.underlying24 rfl Tryz.sizeOf22 (by decide) rfl) rfl rfl rfl ?_
                refine V_ge rfl rfl rfl hc537 ?_
                obtain ⟨v543, h544, h545⟩ := El.list h542
                refine V_y (Y_load h544 Tryz.isAgg22 rfl) rfl rfl rfl ?_
                refine V_ge rfl rfl rfl hc537 ?_
                obtain ⟨x546, hx546, ho17⟩ := Option.bind_eq_some_iff.1 ho17
                refine V_call Tryz.call52 rfl rfl rfl rfl (slices_Equal_Llevel_Piece_level_Piece_c (Dw := Dw) w12 hA a_.pieces v539 h541 b.pieces v543 h545 hx546) ?_
                rintro _ w547 ⟨rfl, hk548⟩
                have ht549 := Kp.tr (Dw := Dw) hk548 hA hB
                replace hH := Hp.kp (Dw := Dw) hH hk548
                replace h8 := El.tr (Dw := Dw) h8 ht549
                replace h14 := El.tr (Dw := Dw) h14 ht549
                replace h25 := El.tr (Dw := Dw) h25 ht549
                replace h26 := El.tr (Dw := Dw) h26 ht549
                replace h532 := El.tr (Dw := Dw) h532 ht549
                replace h533 := El.tr (Dw := Dw) h533 ht549
                replace h535 := El.tr (Dw := Dw) h535 ht549
                replace h536 := El.tr (Dw := Dw) h536 ht549
                replace h538 := El.tr (Dw := Dw) h538 ht549
                replace h541 := Sl.tr (Dw := Dw) h541 ht549
                replace h542 := El.tr (Dw := Dw) h542 ht549
                replace h545 := Sl.tr (Dw := Dw) h545 ht549
                replace hK := Tr.trans (Dw := Dw) hK ht549
                replace hr19 := Tr.trans (Dw := Dw) hr19 ht549
                replace hB := Nat.le_trans hB ht549.ex.size
                replace hA := ht549.new
                refine V_y (Y_pick_te rfl hc537 rfl) rfl rfl rfl ?_
                refine V_y (Y_assign rfl) rfl rfl rfl ?_
                obtain rfl := Option.some.inj ho17
                refine V_end (fun a ha550 => ?_)
                exact ⟨A, ha550.sub ⟨rfl, trivial⟩, ⟨hH, hr19⟩⟩
              · rw [if_neg (nt hc537)] at ho17
                refine V_gn rfl rfl rfl hc537 rfl rfl rfl ?_
                refine V_gn rfl rfl rfl hc537 rfl rfl rfl ?_
                refine V_gn rfl rfl rfl hc537 rfl rfl rfl ?_
                refine V_gn rfl rfl rfl hc537 rfl rfl rfl ?_
                refine V_gn rfl rfl rfl hc537 rfl rfl rfl ?_
                refine V_y (Y_pick_fe rfl hc537 rfl) rfl rfl rfl ?_
                refine V_y (Y_assign rfl) rfl rfl rfl ?_
                obtain rfl := Option.some.inj ho17
                refine V_end (fun a ha551 => ?_)
                exact ⟨A, ha551.sub ⟨rfl, trivial⟩, ⟨hH, hr19⟩⟩
            · rw [if_neg (nt hc534)] at ho17
              refine V_gn rfl rfl rfl hc534 rfl rfl rfl ?_
              refine V_gn rfl rfl rfl hc534 rfl rfl rfl ?_
              refine V_gn rfl rfl rfl hc534 rfl rfl rfl ?_
              refine V_gn rfl rfl rfl hc534 rfl rfl rfl ?_
              refine V_gn rfl rfl rfl hc534 rfl rfl rfl ?_
              refine V_y (Y_pick_fe rfl hc534 rfl) rfl rfl rfl ?_
              refine V_y (Y_move rfl) rfl rfl rfl ?_
              rcases Bool.eq_false_or_eq_true (false) with hc552 | hc552
              · rw [if_pos hc552] at ho17
                refine V_ge rfl rfl rfl hc552 ?_
                have h553 := El_level_Clock_6 h8
                refine V_y (Y_fieldAddr Tryz.underlying24 rfl Tryz.sizeOf22 (by decide) rfl) rfl rfl rfl ?_
                refine V_ge rfl rfl rfl hc552 ?_
                obtain ⟨v554, h555, h556⟩ := El.list h553
                refine V_y (Y_load h555 Tryz.isAgg22 rfl) rfl rfl rfl ?_
                refine V_ge rfl rfl rfl hc552 ?_
                have h557 := El_level_Clock_6 h14
                refine V_y (Y_fieldAddr Tryz.underlying24 rfl Tryz.sizeOf22 (by decide) rfl) rfl rfl rfl ?_
                refine V_ge rfl rfl rfl hc552 ?_
                obtain ⟨v558, h559, h560⟩ := El.list h557
                refine V_y (Y_load h559 Tryz.isAgg22 rfl) rfl rfl rfl ?_
                refine V_ge rfl rfl rfl hc552 ?_
                obtain ⟨x561, hx561, ho17⟩ := Option.bind_eq_some_iff.1 ho17
                refine V_call Tryz.call52 rfl rfl rfl rfl (slices_Equal_Llevel_Piece_level_Piece_c (Dw := Dw) w12 hA a_.pieces v554 h556 b.pieces v558 h560 hx561) ?_
                rintro _ w562 ⟨rfl, hk563⟩
                have ht564 := Kp.tr (Dw := Dw) hk563 hA hB
                replace hH := Hp.kp (Dw := Dw) hH hk563
                replace h8 := El.tr (Dw := Dw) h8 ht564
                replace h14 := El.tr (Dw := Dw) h14 ht564
                replace h25 := El.tr (Dw := Dw) h25 ht564
                replace h26 := El.tr (Dw := Dw) h26 ht564
                replace h532 := El.tr (Dw := Dw) h532 ht564
                replace h533 := El.tr (Dw := Dw) h533 ht564
                replace h553 := El.tr (Dw := Dw) h553 ht564
                replace h556 := Sl.tr (Dw := Dw) h556 ht564
                replace h557 := El.tr (Dw := Dw) h557 ht564
                replace h560 := Sl.tr (Dw := Dw) h560 ht564
                replace hK := Tr.trans (Dw := Dw) hK ht564
                replace hr19 := Tr.trans (Dw := Dw) hr19 ht564
                replace hB := Nat.le_trans hB ht564.ex.size
                replace hA := ht564.new
                refine V_y (Y_pick_te rfl hc552 rfl) rfl rfl rfl ?_
                refine V_y (Y_assign rfl) rfl rfl rfl ?_
                obtain rfl := Option.some.inj ho17
                refine V_end (fun a ha565 => ?_)
                exact ⟨A, ha565.sub ⟨rfl, trivial⟩, ⟨hH, hr19⟩⟩
              · rw [if_neg (nt hc552)] at ho17
                refine V_gn rfl rfl rfl hc552 rfl rfl rfl ?_
                refine V_gn rfl rfl rfl hc552 rfl rfl rfl ?_
                refine V_gn rfl rfl rfl hc552 rfl rfl rfl ?_
                refine V_gn rfl rfl rfl hc552 rfl rfl rfl ?_
                refine V_gn rfl rfl rfl hc552 rfl rfl rfl ?_
                refine V_y (Y_pick_fe rfl hc552 rfl) rfl rfl rfl ?_
                refine V_y (Y_assign rfl) rfl rfl rfl ?_
                obtain rfl := Option.some.inj ho17
                refine V_end (fun a ha566 => ?_)
                exact ⟨A, ha566.sub ⟨rfl, trivial⟩, ⟨hH, hr19⟩⟩
          · rw [if_neg (nt hc531)] at ho17
            refine V_gn rfl rfl rfl hc531 rfl rfl rfl ?_
            refine V_gn rfl rfl rfl hc531 rfl rfl rfl ?_
            refine V_gn rfl rfl rfl hc531 rfl rfl rfl ?_
            refine V_gn rfl rfl rfl hc531 rfl rfl rfl ?_
            refine V_gn rfl rfl rfl hc531 rfl rfl rfl ?_
            refine V_y (Y_pick_fe rfl hc531 rfl) rfl rfl rfl ?_
            refine V_y (Y_move rfl) rfl rfl rfl ?_
            rcases Bool.eq_false_or_eq_true (false) with hc567 | hc567
            · rw [if_pos hc567] at ho17
              refine V_ge rfl rfl rfl hc567 ?_
              have h568 := El_level_Clock_5 h8
              refine V_y (Y_fieldAddr Tryz.underlying24 rfl Tryz.sizeOf3 (by decide) rfl) rfl rfl rfl ?_
              refine V_ge rfl rfl rfl hc567 ?_
              refine V_y (Y_load (El.int h568) Tryz.isAgg3 rfl) rfl rfl rfl ?_
              refine V_ge rfl rfl rfl hc567 ?_
              have h569 := El_level_Clock_5 h14
              refine V_y (Y_fieldAddr Tryz.underlying24 rfl Tryz.sizeOf3 (by decide) rfl) rfl rfl rfl ?_
              refine V_ge rfl rfl rfl hc567 ?_
              refine V_y (Y_load (El.int h569) Tryz.isAgg3 rfl) rfl rfl rfl ?_
              refine V_ge rfl rfl rfl hc567 ?_
              refine V_y (Y_eql rfl rfl) rfl rfl rfl ?_
              refine V_y (Y_pick_te rfl hc567 rfl) rfl rfl rfl ?_
              refine V_y (Y_move rfl) rfl rfl rfl ?_
              rcases Bool.eq_false_or_eq_true (a_.end_ == b.end_) with hc570 | hc570
              · rw [if_pos hc570] at ho17
                refine V_ge rfl rfl rfl hc570 ?_
                have h571 := El_level_Clock_6 h8
                refine V_y (Y_fieldAddr Tryz.underlying24 rfl Tryz.sizeOf22 (by decide) rfl) rfl rfl rfl ?_
                refine V_ge rfl rfl rfl hc570 ?_
                obtain ⟨v572, h573, h574⟩ := El.list h571
                refine V_y (Y_load h573 Tryz.isAgg22 rfl) rfl rfl rfl ?_
                refine V_ge rfl rfl rfl hc570 ?_
                have h575 := El_level_Clock_6 h14
                refine V_y (Y_fieldAddr Tryz.underlying24 rfl Tryz.sizeOf22 (by decide) rfl) rfl rfl rfl ?_
                refine V_ge rfl rfl rfl hc570 ?_
                obtain ⟨v576, h577, h578⟩ := El.list h575
                refine V_y (Y_load h577 Tryz.isAgg22 rfl) rfl rfl rfl ?_
                refine V_ge rfl rfl rfl hc570 ?_
                obtain ⟨x579, hx579, ho17⟩ := Option.bind_eq_some_iff.1 ho17
                refine V_call Tryz.call52 rfl rfl rfl rfl (slices_Equal_Llevel_Piece_level_Piece_c (Dw := Dw) w12 hA a_.pieces v572 h574 b.pieces v576 h578 hx579) ?_
                rintro _ w580 ⟨rfl, hk581⟩
                have ht582 := Kp.tr (Dw := Dw) hk581 hA hB
                replace hH := Hp.kp (Dw := Dw) hH hk581
                replace h8 := El.tr (Dw := Dw) h8 ht582
                replace h14 := El.tr (Dw := Dw) h14 ht582
                replace h25 := El.tr (Dw := Dw) h25 ht582
                replace h26 := El.tr (Dw := Dw) h26 ht582
                replace h568 := El.tr (Dw := Dw) h568 ht582
                replace h569 := El.tr (Dw := Dw) h569 ht582
                replace h571 := El.tr (Dw := Dw) h571 ht582
                replace h574 := Sl.tr (Dw := Dw) h574 ht582
                replace h575 := El.tr (Dw := Dw) h575 ht582
                replace h578 := Sl.tr (Dw := Dw) h578 ht582
                replace hK := Tr.trans (Dw := Dw) hK ht582
                replace hr19 := Tr.trans (Dw := Dw) hr19 ht582
                replace hB := Nat.le_trans hB ht582.ex.size
                replace hA := ht582.new
                refine V_y (Y_pick_te rfl hc570 rfl) rfl rfl rfl ?_
                refine V_y (Y_assign rfl) rfl rfl rfl ?_
                obtain rfl := Option.some.inj ho17
                refine V_end (fun a ha583 => ?_)
                exact ⟨A, ha583.sub ⟨rfl, trivial⟩, ⟨hH, hr19⟩⟩
              · rw [if_neg (nt hc570)] at ho17
                refine V_gn rfl rfl rfl hc570 rfl rfl rfl ?_
                refine V_gn rfl rfl rfl hc570 rfl rfl rfl ?_
                refine V_gn rfl rfl rfl hc570 rfl rfl rfl ?_
                refine V_gn rfl rfl rfl hc570 rfl rfl rfl ?_
                refine V_gn rfl rfl rfl hc570 rfl rfl rfl ?_
                refine V_y (Y_pick_fe rfl hc570 rfl) rfl rfl rfl ?_
                refine V_y (Y_assign rfl) rfl rfl rfl ?_
                obtain rfl := Option.some.inj ho17
                refine V_end (fun a ha584 => ?_)
                exact ⟨A, ha584.sub ⟨rfl, trivial⟩, ⟨hH, hr19⟩⟩
            · rw [if_neg (nt hc567)] at ho17
              refine V_gn rfl rfl rfl hc567 rfl rfl rfl ?_
              refine V_gn rfl rfl rfl hc567 rfl rfl rfl ?_
              refine V_gn rfl rfl rfl hc567 rfl rfl rfl ?_
              refine V_gn rfl rfl rfl hc567 rfl rfl rfl ?_
              refine V_gn rfl rfl rfl hc567 rfl rfl rfl ?_
              refine V_y (Y_pick_fe rfl hc567 rfl) rfl rfl rfl ?_
              refine V_y (Y_move rfl) rfl rfl rfl ?_
              rcases Bool.eq_false_or_eq_true (false) with hc585 | hc585
              · rw [if_pos hc585] at ho17
                refine V_ge rfl rfl rfl hc585 ?_
                have h586 := El_level_Clock_6 h8
                refine V_y (Y_fieldAddr Tryz.underlying24 rfl Tryz.sizeOf22 (by decide) rfl) rfl rfl rfl ?_
                refine V_ge rfl rfl rfl hc585 ?_
                obtain ⟨v587, h588, h589⟩ := El.list h586
                refine V_y (Y_load h588 Tryz.isAgg22 rfl) rfl rfl rfl ?_
                refine V_ge rfl rfl rfl hc585 ?_
                have h590 := El_level_Clock_6 h14
                refine V_y (Y_fieldAddr Tryz.underlying24 rfl Tryz.sizeOf22 (by decide) rfl) rfl rfl rfl ?_
                refine V_ge rfl rfl rfl hc585 ?_
                obtain ⟨v591, h592, h593⟩ := El.list h590
                refine V_y (Y_load h592 Tryz.isAgg22 rfl) rfl rfl rfl ?_
                refine V_ge rfl rfl rfl hc585 ?_
                obtain ⟨x594, hx594, ho17⟩ := Option.bind_eq_some_iff.1 ho17
                refine V_call Tryz.call52 rfl rfl rfl rfl (slices_Equal_Llevel_Piece_level_Piece_c (Dw := Dw) w12 hA a_.pieces v587 h589 b.pieces v591 h593 hx594) ?_
                rintro _ w595 ⟨rfl, hk596⟩
                have ht597 := Kp.tr (Dw := Dw) hk596 hA hB
                replace hH := Hp.kp (Dw := Dw) hH hk596
                replace h8 := El.tr (Dw := Dw) h8 ht597
                replace h14 := El.tr (Dw := Dw) h14 ht597
                replace h25 := El.tr (Dw := Dw) h25 ht597
                replace h26 := El.tr (Dw := Dw) h26 ht597
                replace h586 := El.tr (Dw := Dw) h586 ht597
                replace h589 := Sl.tr (Dw := Dw) h589 ht597
                replace h590 := El.tr (Dw := Dw) h590 ht597
                replace h593 := Sl.tr (Dw := Dw) h593 ht597
                replace hK := Tr.trans (Dw := Dw) hK ht597
                replace hr19 := Tr.trans (Dw := Dw) hr19 ht597
                replace hB := Nat.le_trans hB ht597.ex.size
                replace hA := ht597.new
                refine V_y (Y_pick_te rfl hc585 rfl) rfl rfl rfl ?_
                refine V_y (Y_assign rfl) rfl rfl rfl ?_
                obtain rfl := Option.some.inj ho17
                refine V_end (fun a ha598 => ?_)
                exact ⟨A, ha598.sub ⟨rfl, trivial⟩, ⟨hH, hr19⟩⟩
              · rw [if_neg (nt hc585)] at ho17
                refine V_gn rfl rfl rfl hc585 rfl rfl rfl ?_
                refine V_gn rfl rfl rfl hc585 rfl rfl rfl ?_
                refine V_gn rfl rfl rfl hc585 rfl rfl rfl ?_
                refine V_gn rfl rfl rfl hc585 rfl rfl rfl ?_
                refine V_gn rfl rfl rfl hc585 rfl rfl rfl ?_
                refine V_y (Y_pick_fe rfl hc585 rfl) rfl rfl rfl ?_
                refine V_y (Y_assign rfl) rfl rfl rfl ?_
                obtain rfl := Option.some.inj ho17
                refine V_end (fun a ha599 => ?_)
                exact ⟨A, ha599.sub ⟨rfl, trivial⟩, ⟨hH, hr19⟩⟩
  rintro A23 w20 ⟨hH24, hk21⟩ a ha22
  replace hK := Tr.trans (Dw := Dw) hK hk21
  replace hB := Nat.le_trans hB hk21.ex.size
  replace hA := hk21.new
  replace hH : Hp w.heap.size A23 w20 ([]) := hH24
  refine C_at (n := ⟨52, [], none⟩) (fun _ _ => rfl) ?_ ha22
  obtain rfl := Option.some.inj hm
  refine C_ret ?_
  try simp only [↓inBlock_ret, ↓then_ret]
  exact retQ rfl (Res.one Tryz.results44 rfl) ⟨rfl, hK.kp⟩

end Go.Proofs.YtnkjmfbpkbooeaaGreatDoor.W
