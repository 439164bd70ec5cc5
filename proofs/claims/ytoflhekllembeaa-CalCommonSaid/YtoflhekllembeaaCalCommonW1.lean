/-
  Written by program (gen.py) from the IR of the dump: each function computes its model.
-/
import Derived.Test.YtoflhekllembeaaCalCommonW0
namespace Go.Proofs.Ytoflhekllembeaa.W
open Go Go.RowKit Go.Pu Go.Gw Go.Proofs Go.Proofs.Ytoflhekllembeaa.M
set_option linter.unusedVariables false
set_option linter.unusedSimpArgs false
variable {Dw : Prop}

set_option maxRecDepth 4000 in
set_option maxHeartbeats 4000000 in
theorem cal_Calendar_shifts_1_1_c (w : World) {A : Nat → Prop} {B : Nat} (hB : B ≤ w.heap.size) (hA : ∀ b, w.heap.size ≤ b → A b) (day : Int) (p1 : cal_Calendar) (b_p1 : Nat) (h_p1 : El A w b_p1 0 p1) (p2 : cal_part) (b_p2 : Nat) (h_p2 : El A w b_p2 0 p2) (p3 : Int) (b_p3 : Nat) (h_p3 : El A w b_p3 0 p3) (p4 : Int) (b_p4 : Nat) (h_p4 : El A w b_p4 0 p4) {p5_S : Type} (p5 : cal_Span → p5_S → Option (Bool × p5_S)) (p5_Y : p5_S → Ob) (p5_v : Value) (p5_one : p5_v.cells.toList = [p5_v]) (p5_s : p5_S) (p5_spec : ∀ (w2 : World) (A2 : Nat → Prop) (L2 : List Ob) (x : cal_Span) (z : p5_S) (b : Bool) (z2 : p5_S), B ≤ w2.heap.size → (∀ b, w2.heap.size ≤ b → A2 b) → Tr Dw B A w A2 w2 → Hp B A2 w2 (p5_Y z :: L2) → p5 x z = some (b, z2) → CallV Try.prog p5_v [.agg #[.int .i64 x.from_, .int .i64 x.to_]] w2 fun v w3 => v = .bool b ∧ ∃ A3, Tr Dw B A2 w2 A3 w3 ∧ Hp B A3 w3 (p5_Y z2 :: L2)) (b_p5 : Nat) (h_p5 : Vb A w b_p5 p5_v) {L : List Ob} (hH : Hp B A w (p5_Y p5_s :: L)) {r : (Bool × p5_S)} (hm : cal_Calendar_shifts_1_1 day p1 p2 p3 p4 p5 p5_s = some r) : Ret Try.prog 37 #[.int .i64 day, .pointer (some ⟨b_p1, 0, none⟩), .pointer (some ⟨b_p2, 0, none⟩), .pointer (some ⟨b_p3, 0, none⟩), .pointer (some ⟨b_p4, 0, none⟩), .pointer (some ⟨b_p5, 0, none⟩)] w fun v w' => ∃ A1 : Nat → Prop, v = .bool r.1 ∧ Hp B A1 w' (p5_Y r.2 :: L) ∧ Tr Dw B A w A1 w' := by
  unfold cal_Calendar_shifts_1_1 at hm
  refine enter Try.func37 rfl Try.ntmps37 rfl ?_
  have hK : Tr Dw B A w A w := Tr.refl (Dw := Dw) hA
  refine C_seq ?_
  refine C_region ?_
  refine V_y (Y_assign rfl) rfl rfl rfl ?_
  refine V_to (fun _ _ => rfl) ?_
  refine C_seq ?_
  refine C_seq ?_
  refine C_region ?_
  obtain ⟨v1, v3, v5, h7, h2, h4, h6⟩ := El_cal_Calendar h_p1
  refine V_y (Y_loadA h7 Try.isAgg37 Try.sizeOf37 rfl) rfl rfl rfl ?_
  refine V_y (Y_move rfl) rfl rfl rfl ?_
  obtain ⟨x8, hx8, hm⟩ := Option.bind_eq_some_iff.1 hm
  refine V_call Try.call38 rfl rfl rfl rfl (cal_Calendar_shiftsOf_c (Dw := Dw) w hA p1 v1 h2 v3 h4 v5 h6 day hx8) ?_
  rintro v9 w11 ⟨_, rfl, h10, hk12⟩
  obtain ⟨A13, ht14, hH15⟩ := Hp.addOwnd (Dw := Dw) hH hB hA hk12 h10
  replace h_p1 := El.tr (Dw := Dw) h_p1 ht14
  replace h_p2 := El.tr (Dw := Dw) h_p2 ht14
  replace h_p3 := El.tr (Dw := Dw) h_p3 ht14
  replace h_p4 := El.tr (Dw := Dw) h_p4 ht14
  replace h_p5 := Vb.tr (Dw := Dw) h_p5 ht14
  replace h2 := Sl.tr (Dw := Dw) h2 ht14
  replace h4 := Sl.tr (Dw := Dw) h4 ht14
  replace h6 := Sl.tr (Dw := Dw) h6 ht14
  replace hK := Tr.trans (Dw := Dw) hK ht14
  replace hB := Nat.le_trans hB ht14.ex.size
  replace hA := ht14.new
  replace hH : Hp B A13 w11 (obS (α := cal_Shift) 73 v9 x8 :: p5_Y p5_s :: L) := hH15
  refine V_y (Y_lenSl (Hp.any (α := cal_Shift) (e := 73) (v := v9) (l := x8) hH (i := 0) rfl) rfl Try.underlying34 rfl) rfl rfl rfl ?_
  refine V_y (Y_move rfl) rfl rfl rfl ?_
  refine V_to (fun _ _ => rfl) ?_
  have hn36 := Hp.le (α := cal_Shift) (e := 73) (v := v9) (l := x8) hH (i := 0) rfl
  obtain ⟨o16, ho16, hm⟩ := Option.bind_eq_some_iff.1 hm
  refine C_cutG (ι := (p5_S × (Nat → Prop))) (fun ⟨s17, A23⟩ => []) (fun ⟨s17, A23⟩ => fun w' => o16 = .fin s17 ∧ Hp B A23 w' (obS (α := cal_Shift) 73 v9 x8 :: p5_Y s17 :: L) ∧ Tr Dw B A13 w11 A23 w') ?_ ?_
  · refine C_block ?_
    refine C_range ho16 (fun k19 s25 a w' => ∃ i : (Nat → Prop), Has ⟨50, [], none⟩ a ([(0, .int .i64 day), (2, .pointer (some ⟨b_p2, 0, none⟩)), (3, .pointer (some ⟨b_p3, 0, none⟩)), (4, .pointer (some ⟨b_p4, 0, none⟩)), (5, .pointer (some ⟨b_p5, 0, none⟩)), (14, v9), (15, .int .i64 (x8.length : Int)), (16, .int .i64 (k19 : Int))]) ∧ Hp B i w' (obS (α := cal_Shift) 73 v9 x8 :: p5_Y s25 :: L) ∧ Tr Dw B A13 w11 i w') (fun a ha => ⟨A13, ha.sub ⟨rfl, rfl, rfl, rfl, rfl, rfl, rfl, rfl, trivial⟩, ⟨hH, Tr.refl (Dw := Dw) hA⟩⟩) ?_
    rintro K k19 s25 a w26 ⟨A27, ha85, hH28, hr18⟩ hle32 K35 h34
    refine C_of ?_ ha85
    replace h_p2 := El.tr (Dw := Dw) h_p2 hr18
    replace h_p3 := El.tr (Dw := Dw) h_p3 hr18
    replace h_p4 := El.tr (Dw := Dw) h_p4 hr18
    replace h_p5 := Vb.tr (Dw := Dw) h_p5 hr18
    replace hK := Tr.trans (Dw := Dw) hK hr18
    replace hB := Nat.le_trans hB hr18.ex.size
    replace hA := hr18.new
    replace hH : Hp B A27 w26 (obS (α := cal_Shift) 73 v9 x8 :: p5_Y s25 :: L) := hH28
    refine C_seq (C_region (V_y (Y_lss rfl rfl) rfl rfl rfl (V_to (fun _ _ => rfl) ?_)))
    refine C_seq ?_
    refine C_cond rfl (fun hc37 => ?_) (fun hc37 => ?_)
    · have hlt33 := lt_of_dec hc37
      obtain ⟨x29, h30, h31⟩ := K35 hlt33
      refine C_skip_to (fun _ _ => rfl) ?_
      refine C_seq ?_
      refine C_block ?_
      refine C_seq ?_
      refine C_region ?_
      obtain ⟨x38, hx38, h30⟩ := Option.bind_eq_some_iff.1 h30
      refine V_indexAddrH (α := cal_Shift) (e := 73) (v := v9) (l := x8) hH (i := 0) rfl hx38 Try.underlying34 Try.sizeOf73 rfl rfl rfl ?_
      intro b39 o40 h41 hl42
      obtain ⟨h43, _⟩ := El_cal_Shift h41
      refine V_y (Y_loadA h43 Try.isAgg73 Try.sizeOf73 rfl) rfl rfl rfl ?_
      refine V_alloc Try.zeroValue73 rfl ?_
      intro b44 w45 h46
      refine V_storeNew h46 Try.sizeOf73 rfl rfl rfl rfl (by exact (List.forall_mem_cons.2 ⟨rfl, (List.forall_mem_cons.2 ⟨rfl, (List.forall_mem_cons.2 ⟨rfl, (fun _ h => nomatch h)⟩)⟩)⟩)) ?_
      intro w47 h48
      have hk50 := h48.kp (Dw := Dw)
      have h49 : El (α := cal_Shift) A27 w47 b44 0 x38 := h48.el hA ⟨[.int .i64 x38.day], _, rfl, rfl, ⟨[.int .i64 x38.from_], _, rfl, rfl, rfl⟩⟩
      have ht51 := Kp.tr (Dw := Dw) hk50 hA hB
      replace hH := Hp.kp (Dw := Dw) hH hk50
      replace h_p2 := El.tr (Dw := Dw) h_p2 ht51
      replace h_p3 := El.tr (Dw := Dw) h_p3 ht51
      replace h_p4 := El.tr (Dw := Dw) h_p4 ht51
      replace h_p5 := Vb.tr (Dw := Dw) h_p5 ht51
      replace h41 := El.kp (Dw := Dw) h41 hk50
      replace hK := Tr.trans (Dw := Dw) hK ht51
      replace hr18 := Tr.trans (Dw := Dw) hr18 ht51
      replace hB := Nat.le_trans hB ht51.ex.size
      replace hA := ht51.new
      refine V_to (fun _ _ => rfl) ?_
      refine C_seq ?_
      refine C_region ?_
      refine V_y (Y_move rfl) rfl rfl rfl ?_
      refine V_y (Y_mulI rfl rfl) rfl rfl rfl ?_
      have h52 := El_cal_part_2 h_p2
      refine V_y (Y_fieldAddr Try.underlying80 rfl Try.sizeOf3 (by decide) rfl) rfl rfl rfl ?_
      refine V_y (Y_load (El.int h52) Try.isAgg3 rfl) rfl rfl rfl ?_
      refine V_y (Y_subI rfl rfl) rfl rfl rfl ?_
      refine V_y (Y_assign rfl) rfl rfl rfl ?_
      refine V_to (fun _ _ => rfl) ?_
      refine C_seq ?_
      refine C_region ?_
      refine V_y (Y_load (El.int h_p3) Try.isAgg3 rfl) rfl rfl rfl ?_
      refine V_y (Y_move rfl) rfl rfl rfl ?_
      have h53 := El_cal_Shift_1 h49
      refine V_y (Y_fieldAddr Try.underlying73 rfl Try.sizeOf3 (by decide) rfl) rfl rfl rfl ?_
      refine V_y (Y_load (El.int h53) Try.isAgg3 rfl) rfl rfl rfl ?_
      refine V_y (Y_addI rfl rfl) rfl rfl rfl ?_
      refine V_y (Y_max2 rfl rfl) rfl rfl rfl ?_
      refine V_y (Y_load (El.int h_p4) Try.isAgg3 rfl) rfl rfl rfl ?_
      refine V_y (Y_move rfl) rfl rfl rfl ?_
      have h54 := El_cal_Shift_2 h49
      refine V_y (Y_fieldAddr Try.underlying73 rfl Try.sizeOf3 (by decide) rfl) rfl rfl rfl ?_
      refine V_y (Y_load (El.int h54) Try.isAgg3 rfl) rfl rfl rfl ?_
      refine V_y (Y_addI rfl rfl) rfl rfl rfl ?_
      refine V_y (Y_min2 rfl rfl) rfl rfl rfl ?_
      refine V_y (Y_build Try.underlying29 Try.zeroValue29 (Try_places29 _ Try.underlying29) rfl (by with_unfolding_all rfl)) rfl rfl rfl ?_
      refine V_alloc Try.zeroValue29 rfl ?_
      intro b55 w56 h57
      refine V_storeNew h57 Try.sizeOf29 rfl rfl rfl rfl (by exact (List.forall_mem_cons.2 ⟨rfl, (List.forall_mem_cons.2 ⟨rfl, (fun _ h => nomatch h)⟩)⟩)) ?_
      intro w58 h59
      have hk61 := h59.kp (Dw := Dw)
      have h60 : El (α := cal_Span) A27 w58 b55 0 (⟨(if p3 < w64 ((w64 ((w64 (day * 1440)) - p2.offset)) + x38.from_) then w64 ((w64 ((w64 (day * 1440)) - p2.offset)) + x38.from_) else p3), (if w64 ((w64 ((w64 (day * 1440)) - p2.offset)) + x38.to_) < p4 then w64 ((w64 ((w64 (day * 1440)) - p2.offset)) + x38.to_) else p4)⟩ : cal_Span) := h59.el hA ⟨[.int .i64 (if p3 < w64 ((w64 ((w64 (day * 1440)) - p2.offset)) + x38.from_) then w64 ((w64 ((w64 (day * 1440)) - p2.offset)) + x38.from_) else p3)], _, rfl, rfl, rfl⟩
      have ht62 := Kp.tr (Dw := Dw) hk61 hA hB
      replace hH := Hp.kp (Dw := Dw) hH hk61
      replace h_p2 := El.tr (Dw := Dw) h_p2 ht62
      replace h_p3 := El.tr (Dw := Dw) h_p3 ht62
      replace h_p4 := El.tr (Dw := Dw) h_p4 ht62
      replace h_p5 := Vb.tr (Dw := Dw) h_p5 ht62
      replace h49 := El.tr (Dw := Dw) h49 ht62
      replace h53 := El.tr (Dw := Dw) h53 ht62
      replace h54 := El.tr (Dw := Dw) h54 ht62
      replace hK := Tr.trans (Dw := Dw) hK ht62
      replace hr18 := Tr.trans (Dw := Dw) hr18 ht62
      replace hB := Nat.le_trans hB ht62.ex.size
      replace hA := ht62.new
      refine V_to (fun _ _ => rfl) ?_
      refine C_seq ?_
      obtain ⟨s64, ho63, h30⟩ := Option.bind_eq_some_iff.1 h30
      refine C_cutG (ι := (Nat → Prop)) (fun (A69 : (Nat → Prop)) => [(0, .int .i64 day), (2, .pointer (some ⟨b_p2, 0, none⟩)), (3, .pointer (some ⟨b_p3, 0, none⟩)), (4, .pointer (some ⟨b_p4, 0, none⟩)), (5, .pointer (some ⟨b_p5, 0, none⟩)), (14, v9), (15, .int .i64 (x8.length : Int)), (16, .int .i64 (k19 : Int)), (48, .bool s64.1)]) (fun (A69 : (Nat → Prop)) => fun w' => Hp B A69 w' (obS (α := cal_Shift) 73 v9 x8 :: p5_Y s64.2 :: L) ∧ Tr Dw B A27 w58 A69 w') ?_ ?_
      · have hr65 : Tr Dw B A27 w58 A27 w58 := Tr.refl (Dw := Dw) hA
        refine C_region ?_
        have h71 := El_cal_Span_0 h60
        refine V_y (Y_fieldAddr Try.underlying29 rfl Try.sizeOf3 (by decide) rfl) rfl rfl rfl ?_
        refine V_y (Y_load (El.int h71) Try.isAgg3 rfl) rfl rfl rfl ?_
        have h72 := El_cal_Span_1 h60
        refine V_y (Y_fieldAddr Try.underlying29 rfl Try.sizeOf3 (by decide) rfl) rfl rfl rfl ?_
        refine V_y (Y_load (El.int h72) Try.isAgg3 rfl) rfl rfl rfl ?_
        refine V_y (Y_lss rfl rfl) rfl rfl rfl ?_
        refine V_y (Y_move rfl) rfl rfl rfl ?_
        rcases Bool.eq_false_or_eq_true (decide (((⟨(if p3 < w64 ((w64 ((w64 (day * 1440)) - p2.offset)) + x38.from_) then w64 ((w64 ((w64 (day * 1440)) - p2.offset)) + x38.from_) else p3), (if w64 ((w64 ((w64 (day * 1440)) - p2.offset)) + x38.to_) < p4 then w64 ((w64 ((w64 (day * 1440)) - p2.offset)) + x38.to_) else p4)⟩ : cal_Span).from_) < ((⟨(if p3 < w64 ((w64 ((w64 (day * 1440)) - p2.offset)) + x38.from_) then w64 ((w64 ((w64 (day * 1440)) - p2.offset)) + x38.from_) else p3), (if w64 ((w64 ((w64 (day * 1440)) - p2.offset)) + x38.to_) < p4 then w64 ((w64 ((w64 (day * 1440)) - p2.offset)) + x38.to_) else p4)⟩ : cal_Span).to_))) with hc73 | hc73
        · rw [if_pos hc73] at ho63
          refine V_ge rfl rfl rfl hc73 ?_
          refine V_y (Y_load h_p5.2.2 Try.isAgg59 rfl) rfl rfl rfl ?_
          refine V_ge rfl rfl rfl hc73 ?_
          obtain ⟨h74, _⟩ := El_cal_Span h60
          refine V_y (Y_loadA h74 Try.isAgg29 Try.sizeOf29 rfl) rfl rfl rfl ?_
          refine V_ge rfl rfl rfl hc73 ?_
          obtain ⟨x75, hx75, ho63⟩ := Option.bind_eq_some_iff.1 ho63
          replace hH : Hp B A27 w58 (p5_Y s25 :: obS (α := cal_Shift) 73 v9 x8 :: L) := Hp.front hH (i := 1) rfl
          refine V_callV rfl rfl rfl (p5_spec w58 _ _ (⟨(if p3 < w64 ((w64 ((w64 (day * 1440)) - p2.offset)) + x38.from_) then w64 ((w64 ((w64 (day * 1440)) - p2.offset)) + x38.from_) else p3), (if w64 ((w64 ((w64 (day * 1440)) - p2.offset)) + x38.to_) < p4 then w64 ((w64 ((w64 (day * 1440)) - p2.offset)) + x38.to_) else p4)⟩ : cal_Span) _ x75.1 x75.2 hB hA hK hH hx75) ?_
          rintro _ w76 ⟨rfl, A77, ht79, hH78⟩
          replace h_p2 := El.tr (Dw := Dw) h_p2 ht79
          replace h_p3 := El.tr (Dw := Dw) h_p3 ht79
          replace h_p4 := El.tr (Dw := Dw) h_p4 ht79
          replace h_p5 := Vb.tr (Dw := Dw) h_p5 ht79
          replace h60 := El.tr (Dw := Dw) h60 ht79
          replace h71 := El.tr (Dw := Dw) h71 ht79
          replace h72 := El.tr (Dw := Dw) h72 ht79
          replace hK := Tr.trans (Dw := Dw) hK ht79
          replace hr18 := Tr.trans (Dw := Dw) hr18 ht79
          replace hr65 := Tr.trans (Dw := Dw) hr65 ht79
          replace hB := Nat.le_trans hB ht79.ex.size
          replace hA := ht79.new
          replace hH : Hp B A77 w76 (p5_Y x75.2 :: obS (α := cal_Shift) 73 v9 x8 :: L) := hH78
          refine V_ge rfl rfl rfl hc73 ?_
          refine V_y (Y_not rfl) rfl rfl rfl ?_
          refine V_y (Y_pick_te rfl hc73 rfl) rfl rfl rfl ?_
          obtain rfl := Option.some.inj ho63
          refine V_end (fun a ha80 => ?_)
          replace hH : Hp B A77 w76 (obS (α := cal_Shift) 73 v9 x8 :: p5_Y x75.2 :: L) := Hp.front hH (i := 1) rfl
          exact ⟨A77, ha80.sub ⟨rfl, rfl, rfl, rfl, rfl, rfl, rfl, rfl, rfl, trivial⟩, ⟨hH, hr65⟩⟩
        · rw [if_neg (nt hc73)] at ho63
          refine V_gn rfl rfl rfl hc73 rfl rfl rfl ?_
          refine V_gn rfl rfl rfl hc73 rfl rfl rfl ?_
          refine V_gn rfl rfl rfl hc73 rfl rfl rfl ?_
          refine V_gn rfl rfl rfl hc73 rfl rfl rfl ?_
          refine V_y (Y_pick_fe rfl hc73 rfl) rfl rfl rfl ?_
          obtain rfl := Option.some.inj ho63
          refine V_end (fun a ha81 => ?_)
          exact ⟨A27, ha81.sub ⟨rfl, rfl, rfl, rfl, rfl, rfl, rfl, rfl, rfl, trivial⟩, ⟨hH, hr65⟩⟩
      rintro A69 w66 ⟨hH70, hk67⟩ a ha68
      replace h_p2 := El.tr (Dw := Dw) h_p2 hk67
      replace h_p3 := El.tr (Dw := Dw) h_p3 hk67
      replace h_p4 := El.tr (Dw := Dw) h_p4 hk67
      replace h_p5 := Vb.tr (Dw := Dw) h_p5 hk67
      replace hK := Tr.trans (Dw := Dw) hK hk67
      replace hr18 := Tr.trans (Dw := Dw) hr18 hk67
      replace hB := Nat.le_trans hB hk67.ex.size
      replace hA := hk67.new
      replace hH : Hp B A69 w66 (obS (α := cal_Shift) 73 v9 x8 :: p5_Y s64.2 :: L) := hH70
      refine C_at (n := ⟨50, [], none⟩) (fun _ _ => rfl) ?_ ha68
      refine C_cond rfl (fun hc82 => ?_) (fun hc82 => ?_)
      · rw [if_pos hc82] at h30
        refine C_seq ?_
        refine C_region ?_
        refine V_y (Y_assign rfl) rfl rfl rfl ?_
        refine V_to (fun _ _ => rfl) ?_
        obtain rfl := Option.some.inj h30
        obtain rfl := (h31 : Lp.rt _ = _)
        rw [Lp.andThen_rt] at hm
        obtain rfl := Option.some.inj hm
        replace hH : Hp B A69 w66 (p5_Y s64.2 :: obS (α := cal_Shift) 73 v9 x8 :: L) := Hp.front hH (i := 1) rfl
        replace hH : Hp B A69 w66 (p5_Y s64.2 :: L) := Hp.drop hH (i := 1) rfl
        refine C_ret ?_
        try simp only [↓inBlock_ret, ↓then_ret]
        exact retQ rfl (Res.one Try.results37 rfl) ⟨A69, rfl, hH, hK⟩
      · rw [if_neg (nt hc82)] at h30
        refine C_skip_to (fun _ _ => rfl) ?_
        refine C_region ?_
        refine V_y (Y_addI rfl rfl) rfl rfl rfl ?_
        refine V_y (Y_move rfl) rfl rfl rfl ?_
        obtain rfl := Option.some.inj h30
        refine V_end (fun a ha83 => ?_)
        exact ⟨s64.2, hlt33, h31, ⟨A69, ha83.sub ⟨rfl, rfl, rfl, rfl, rfl, rfl, rfl, (congrArg (fun z => some (Value.int .i64 z)) (w64_succ hlt33 hn36)), trivial⟩, ⟨hH, hr18⟩⟩⟩
    · refine C_exit (fun a ha84 => ?_)
      exact ⟨(s25, A27), ha84.sub trivial, ⟨(h34 (eq_of_dec hle32 hc37)).symm, hH, hr18⟩⟩
  rintro ⟨s17, A23⟩ w20 ⟨rfl, hH24, hk21⟩ a ha22
  rw [Lp.andThen_fin] at hm
  replace hK := Tr.trans (Dw := Dw) hK hk21
  replace hB := Nat.le_trans hB hk21.ex.size
  replace hA := hk21.new
  replace hH : Hp B A23 w20 (obS (α := cal_Shift) 73 v9 x8 :: p5_Y s17 :: L) := hH24
  refine C_at (n := ⟨50, [], none⟩) (fun _ _ => rfl) ?_ ha22
  refine C_seq ?_
  refine C_region ?_
  refine V_y (Y_assign rfl) rfl rfl rfl ?_
  refine V_to (fun _ _ => rfl) ?_
  obtain rfl := Option.some.inj hm
  replace hH : Hp B A23 w20 (p5_Y s17 :: obS (α := cal_Shift) 73 v9 x8 :: L) := Hp.front hH (i := 1) rfl
  replace hH : Hp B A23 w20 (p5_Y s17 :: L) := Hp.drop hH (i := 1) rfl
  refine C_ret ?_
  try simp only [↓inBlock_ret, ↓then_ret]
  exact retQ rfl (Res.one Try.results37 rfl) ⟨A23, rfl, hH, hK⟩

set_option maxRecDepth 4000 in
set_option maxHeartbeats 4000000 in
theorem cal_Calendar_shifts_1_c (w : World) {A : Nat → Prop} {B : Nat} (hB : B ≤ w.heap.size) (hA : ∀ b, w.heap.size ≤ b → A b) {yield_S : Type} (yield : cal_Span → yield_S → Option (Bool × yield_S)) (yield_Y : yield_S → Ob) (yield_v : Value) (yield_one : yield_v.cells.toList = [yield_v]) (yield_s : yield_S) (yield_spec : ∀ (w2 : World) (A2 : Nat → Prop) (L2 : List Ob) (x : cal_Span) (z : yield_S) (b : Bool) (z2 : yield_S), B ≤ w2.heap.size → (∀ b, w2.heap.size ≤ b → A2 b) → Tr Dw B A w A2 w2 → Hp B A2 w2 (yield_Y z :: L2) → yield x z = some (b, z2) → CallV Try.prog yield_v [.agg #[.int .i64 x.from_, .int .i64 x.to_]] w2 fun v w3 => v = .bool b ∧ ∃ A3, Tr Dw B A2 w2 A3 w3 ∧ Hp B A3 w3 (yield_Y z2 :: L2)) (p1 : cal_Calendar) (b_p1 : Nat) (h_p1 : El A w b_p1 0 p1) (p2 : Int) (b_p2 : Nat) (h_p2 : El A w b_p2 0 p2) (p3 : Int) (b_p3 : Nat) (h_p3 : El A w b_p3 0 p3) {L : List Ob} (hH : Hp B A w (yield_Y yield_s :: L)) {r : yield_S} (hm : cal_Calendar_shifts_1 yield yield_s p1 p2 p3 = some r) : Ret Try.prog 35 #[yield_v, .pointer (some ⟨b_p1, 0, none⟩), .pointer (some ⟨b_p2, 0, none⟩), .pointer (some ⟨b_p3, 0, none⟩)] w fun v w' => ∃ A1 : Nat → Prop, v = .tuple #[] ∧ Hp B A1 w' (yield_Y r :: L) ∧ Tr Dw B A w A1 w' := by
  unfold cal_Calendar_shifts_1 at hm
  refine enter Try.func35 rfl Try.ntmps35 rfl ?_
  have hK : Tr Dw B A w A w := Tr.refl (Dw := Dw) hA
  refine C_seq ?_
  refine C_region ?_
  refine V_box rfl rfl ?_
  intro b1 w2 h3
  have hk4 := h3.kp (Dw := Dw)
  have h5 : Vb A w2 b1 yield_v := h3.vb hA yield_one
  have ht6 := Kp.tr (Dw := Dw) hk4 hA hB
  replace hH := Hp.kp (Dw := Dw) hH hk4
  replace h_p1 := El.tr (Dw := Dw) h_p1 ht6
  replace h_p2 := El.tr (Dw := Dw) h_p2 ht6
  replace h_p3 := El.tr (Dw := Dw) h_p3 ht6
  replace hK := Tr.trans (Dw := Dw) hK ht6
  replace hB := Nat.le_trans hB ht6.ex.size
  replace hA := ht6.new
  refine V_to (fun _ _ => rfl) ?_
  refine C_seq ?_
  refine C_region ?_
  have h7 := El_cal_Calendar_0 h_p1
  refine V_y (Y_fieldAddr Try.underlying37 rfl Try.sizeOf33 (by decide) rfl) rfl rfl rfl ?_
  obtain ⟨v8, h10, h9⟩ := El_cal_Zone h7
  refine V_y (Y_loadA h10 Try.isAgg33 Try.sizeOf33 rfl) rfl rfl rfl ?_
  obtain ⟨x11, hx11, hm⟩ := Option.bind_eq_some_iff.1 hm
  refine V_call Try.call36 rfl rfl rfl rfl (cal_Zone_parts_c (Dw := Dw) w2 hA p1.zone v8 h9 hx11) ?_
  rintro v12 w14 ⟨_, rfl, h13, hk15⟩
  obtain ⟨A16, ht17, hH18⟩ := Hp.addOwnd (Dw := Dw) hH hB hA hk15 h13
  replace h_p1 := El.tr (Dw := Dw) h_p1 ht17
  replace h_p2 := El.tr (Dw := Dw) h_p2 ht17
  replace h_p3 := El.tr (Dw := Dw) h_p3 ht17
  replace h5 := Vb.tr (Dw := Dw) h5 ht17
  replace h7 := El.tr (Dw := Dw) h7 ht17
  replace h9 := Sl.tr (Dw := Dw) h9 ht17
  replace hK := Tr.trans (Dw := Dw) hK ht17
  replace hB := Nat.le_trans hB ht17.ex.size
  replace hA := ht17.new
  replace hH : Hp B A16 w14 (obS (α := cal_part) 80 v12 x11 :: yield_Y yield_s :: L) := hH18
  refine V_y (Y_lenSl (Hp.any (α := cal_part) (e := 80) (v := v12) (l := x11) hH (i := 0) rfl) rfl Try.underlying77 rfl) rfl rfl rfl ?_
  refine V_y (Y_move rfl) rfl rfl rfl ?_
  refine V_to (fun _ _ => rfl) ?_
  have hn39 := Hp.le (α := cal_part) (e := 80) (v := v12) (l := x11) hH (i := 0) rfl
  obtain ⟨o19, ho19, hm⟩ := Option.bind_eq_some_iff.1 hm
  refine C_cutG (ι := (yield_S × (Nat → Prop))) (fun ⟨s20, A26⟩ => []) (fun ⟨s20, A26⟩ => fun w' => o19 = .fin s20 ∧ Hp B A26 w' (obS (α := cal_part) 80 v12 x11 :: yield_Y s20 :: L) ∧ Tr Dw B A16 w14 A26 w') ?_ ?_
  · refine C_block ?_
    refine C_range ho19 (fun k22 s28 a w' => ∃ i : (Nat → Prop), Has ⟨52, [], none⟩ a ([(1, .pointer (some ⟨b_p1, 0, none⟩)), (2, .pointer (some ⟨b_p2, 0, none⟩)), (3, .pointer (some ⟨b_p3, 0, none⟩)), (4, .pointer (some ⟨b1, 0, none⟩)), (13, v12), (14, .int .i64 (x11.length : Int)), (15, .int .i64 (k22 : Int))]) ∧ Hp B i w' (obS (α := cal_part) 80 v12 x11 :: yield_Y s28 :: L) ∧ Tr Dw B A16 w14 i w') (fun a ha => ⟨A16, ha.sub ⟨rfl, rfl, rfl, rfl, rfl, rfl, rfl, trivial⟩, ⟨hH, Tr.refl (Dw := Dw) hA⟩⟩) ?_
    rintro K k22 s28 a w29 ⟨A30, ha119, hH31, hr21⟩ hle35 K38 h37
    refine C_of ?_ ha119
    replace h_p1 := El.tr (Dw := Dw) h_p1 hr21
    replace h_p2 := El.tr (Dw := Dw) h_p2 hr21
    replace h_p3 := El.tr (Dw := Dw) h_p3 hr21
    replace h5 := Vb.tr (Dw := Dw) h5 hr21
    replace hK := Tr.trans (Dw := Dw) hK hr21
    replace hB := Nat.le_trans hB hr21.ex.size
    replace hA := hr21.new
    replace hH : Hp B A30 w29 (obS (α := cal_part) 80 v12 x11 :: yield_Y s28 :: L) := hH31
    refine C_seq (C_region (V_y (Y_lss rfl rfl) rfl rfl rfl (V_to (fun _ _ => rfl) ?_)))
    refine C_seq ?_
    refine C_cond rfl (fun hc40 => ?_) (fun hc40 => ?_)
    · have hlt36 := lt_of_dec hc40
      obtain ⟨x32, h33, h34⟩ := K38 hlt36
      refine C_skip_to (fun _ _ => rfl) ?_
      refine C_seq ?_
      obtain ⟨o41, ho41, h33⟩ := Option.bind_eq_some_iff.1 h33
      refine C_cutG (ι := (yield_S × (Nat → Prop))) (fun ⟨s42, A47⟩ => [(1, .pointer (some ⟨b_p1, 0, none⟩)), (2, .pointer (some ⟨b_p2, 0, none⟩)), (3, .pointer (some ⟨b_p3, 0, none⟩)), (4, .pointer (some ⟨b1, 0, none⟩)), (13, v12), (14, .int .i64 (x11.length : Int)), (15, .int .i64 (k22 : Int))]) (fun ⟨s42, A47⟩ => fun w' => o41 = .fin s42 ∧ Hp B A47 w' (obS (α := cal_part) 80 v12 x11 :: yield_Y s42 :: L) ∧ Tr Dw B A30 w29 A47 w') ?_ ?_
      · have hr43 : Tr Dw B A30 w29 A30 w29 := Tr.refl (Dw := Dw) hA
        refine C_block ?_
        refine C_seq ?_
        refine C_region ?_
        obtain ⟨x49, hx49, ho41⟩ := Option.bind_eq_some_iff.1 ho41
        refine V_indexAddrH (α := cal_part) (e := 80) (v := v12) (l := x11) hH (i := 0) rfl hx49 Try.underlying77 Try.sizeOf80 rfl rfl rfl ?_
        intro b50 o51 h52 hl53
        obtain ⟨h54, _⟩ := El_cal_part h52
        refine V_y (Y_loadA h54 Try.isAgg80 Try.sizeOf80 rfl) rfl rfl rfl ?_
        refine V_alloc Try.zeroValue80 rfl ?_
        intro b55 w56 h57
        refine V_storeNew h57 Try.sizeOf80 rfl rfl rfl rfl (by exact (List.forall_mem_cons.2 ⟨rfl, (List.forall_mem_cons.2 ⟨rfl, (List.forall_mem_cons.2 ⟨rfl, (fun _ h => nomatch h)⟩)⟩)⟩)) ?_
        intro w58 h59
        have hk61 := h59.kp (Dw := Dw)
        have h60 : El (α := cal_part) A30 w58 b55 0 x49 := h59.el hA ⟨[.int .i64 x49.from_], _, rfl, rfl, ⟨[.int .i64 x49.to_], _, rfl, rfl, rfl⟩⟩
        have ht62 := Kp.tr (Dw := Dw) hk61 hA hB
        replace hH := Hp.kp (Dw := Dw) hH hk61
        replace h_p1 := El.tr (Dw := Dw) h_p1 ht62
        replace h_p2 := El.tr (Dw := Dw) h_p2 ht62
        replace h_p3 := El.tr (Dw := Dw) h_p3 ht62
        replace h5 := Vb.tr (Dw := Dw) h5 ht62
        replace h52 := El.kp (Dw := Dw) h52 hk61
        replace hK := Tr.trans (Dw := Dw) hK ht62
        replace hr21 := Tr.trans (Dw := Dw) hr21 ht62
        replace hr43 := Tr.trans (Dw := Dw) hr43 ht62
        replace hB := Nat.le_trans hB ht62.ex.size
        replace hA := ht62.new
        refine V_to (fun _ _ => rfl) ?_
        refine C_seq ?_
        refine C_region_def (Dw := Dw) (B := B) (k := 8) [(7, 3, .int .i64 0), (8, 3, .int .i64 0)] [(22, 3), (26, 7)] Try_mixed (by kernel_rfl) rfl ⟨⟨_, _, _, rfl, by simp⟩, Try.zeroValue3, ⟨⟨_, _, _, rfl, by simp⟩, Try.zeroValue3, trivial⟩⟩ ⟨⟨_, _, _, rfl, by decide, by decide⟩, by decide, rfl, Try.sizeOf3, ⟨⟨_, _, _, rfl, by decide, by decide⟩, by decide, rfl, Try.sizeOf3, trivial⟩⟩ rfl rfl (by decide) hH hB hA ?_
        simp only [List.take]
        refine VQ_y (fun w' hw' => Y_load (El.int (El.kp (Dw := Dw) h_p2 hw')) Try.isAgg3 rfl) rfl rfl rfl ?_
        have h70 := El_cal_part_0 h60
        refine VQ_y (fun w' hw' => Y_fieldAddr Try.underlying80 rfl Try.sizeOf3 (by decide) rfl) rfl rfl rfl ?_
        refine VQ_y (fun w' hw' => Y_load (El.int (El.kp (Dw := Dw) h70 hw')) Try.isAgg3 rfl) rfl rfl rfl ?_
        refine VQ_y (fun w' hw' => Y_max2 rfl rfl) rfl rfl rfl ?_
        refine VQ_y (fun w' hw' => Y_load (El.int (El.kp (Dw := Dw) h_p3 hw')) Try.isAgg3 rfl) rfl rfl rfl ?_
        have h71 := El_cal_part_1 h60
        refine VQ_y (fun w' hw' => Y_fieldAddr Try.underlying80 rfl Try.sizeOf3 (by decide) rfl) rfl rfl rfl ?_
        refine VQ_y (fun w' hw' => Y_load (El.int (El.kp (Dw := Dw) h71 hw')) Try.isAgg3 rfl) rfl rfl rfl ?_
        refine VQ_y (fun w' hw' => Y_min2 rfl rfl) rfl rfl rfl ?_
        refine VQ_end fun a ha => ⟨_, [.int .i64 (if p2 < x49.from_ then x49.from_ else p2), .int .i64 (if x49.to_ < p3 then x49.to_ else p3)], ha, rfl, rfl, ⟨rfl, (by simp [Value.cells, Value.oneCell']), ⟨rfl, (by simp [Value.cells, Value.oneCell']), trivial⟩⟩, fun b63 w65 A66 hH67 ht68 a ha69 => ?_⟩
        replace h_p1 := El.tr (Dw := Dw) h_p1 ht68
        replace h_p2 := El.tr (Dw := Dw) h_p2 ht68
        replace h_p3 := El.tr (Dw := Dw) h_p3 ht68
        replace h5 := Vb.tr (Dw := Dw) h5 ht68
        replace h60 := El.tr (Dw := Dw) h60 ht68
        replace h70 := El.tr (Dw := Dw) h70 ht68
        replace h71 := El.tr (Dw := Dw) h71 ht68
        replace hK := Tr.trans (Dw := Dw) hK ht68
        replace hr21 := Tr.trans (Dw := Dw) hr21 ht68
        replace hr43 := Tr.trans (Dw := Dw) hr43 ht68
        replace hB := Nat.le_trans hB ht68.ex.size
        replace hA := ht68.new
        replace hH : Hp B A66 w65 (obC (b63 0) [.int .i64 (if p2 < x49.from_ then x49.from_ else p2)] 3 :: obC (b63 1) [.int .i64 (if x49.to_ < p3 then x49.to_ else p3)] 3 :: obS (α := cal_part) 80 v12 x11 :: yield_Y s28 :: L) := hH67
        obtain ⟨A72, ht73, h74, hH75⟩ := Hp.freezeC (Dw := Dw) (α := Int) (x := (if p2 < x49.from_ then x49.from_ else p2)) hH (i := 0) rfl hA (by exact rfl)
        replace h_p1 := El.tr (Dw := Dw) h_p1 ht73
        replace h_p2 := El.tr (Dw := Dw) h_p2 ht73
        replace h_p3 := El.tr (Dw := Dw) h_p3 ht73
        replace h5 := Vb.tr (Dw := Dw) h5 ht73
        replace h60 := El.tr (Dw := Dw) h60 ht73
        replace h70 := El.tr (Dw := Dw) h70 ht73
        replace h71 := El.tr (Dw := Dw) h71 ht73
        replace hK := Tr.trans (Dw := Dw) hK ht73
        replace hr21 := Tr.trans (Dw := Dw) hr21 ht73
        replace hr43 := Tr.trans (Dw := Dw) hr43 ht73
        replace hB := Nat.le_trans hB ht73.ex.size
        replace hA := ht73.new
        replace hH : Hp B A72 w65 (obC (b63 1) [.int .i64 (if x49.to_ < p3 then x49.to_ else p3)] 3 :: obS (α := cal_part) 80 v12 x11 :: yield_Y s28 :: L) := hH75
        obtain ⟨A76, ht77, h78, hH79⟩ := Hp.freezeC (Dw := Dw) (α := Int) (x := (if x49.to_ < p3 then x49.to_ else p3)) hH (i := 0) rfl hA (by exact rfl)
        replace h_p1 := El.tr (Dw := Dw) h_p1 ht77
        replace h_p2 := El.tr (Dw := Dw) h_p2 ht77
        replace h_p3 := El.tr (Dw := Dw) h_p3 ht77
        replace h5 := Vb.tr (Dw := Dw) h5 ht77
        replace h60 := El.tr (Dw := Dw) h60 ht77
        replace h70 := El.tr (Dw := Dw) h70 ht77
        replace h71 := El.tr (Dw := Dw) h71 ht77
        replace h74 := El.tr (Dw := Dw) h74 ht77
        replace hK := Tr.trans (Dw := Dw) hK ht77
        replace hr21 := Tr.trans (Dw := Dw) hr21 ht77
        replace hr43 := Tr.trans (Dw := Dw) hr43 ht77
        replace hB := Nat.le_trans hB ht77.ex.size
        replace hA := ht77.new
        replace hH : Hp B A76 w65 (obS (α := cal_part) 80 v12 x11 :: yield_Y s28 :: L) := hH79
        refine C_at (n := ⟨52, [], none⟩) (fun _ _ => rfl) ?_ ha69
        refine C_seq ?_
        refine C_region ?_
        refine V_y (Y_makeFunc rfl rfl) rfl rfl rfl ?_
        refine V_y (Y_assign rfl) rfl rfl rfl ?_
        refine V_to (fun _ _ => rfl) ?_
        refine C_seq ?_
        refine C_seq ?_
        refine C_region ?_
        refine V_y (Y_load (El.int h74) Try.isAgg3 rfl) rfl rfl rfl ?_
        refine V_y (Y_load (El.int h78) Try.isAgg3 rfl) rfl rfl rfl ?_
        refine V_y (Y_geq rfl rfl) rfl rfl rfl ?_
        refine V_to (fun _ _ => rfl) ?_
        refine C_cond rfl (fun hc80 => ?_) (fun hc80 => ?_)
        · rw [if_pos hc80] at ho41
          obtain rfl := Option.some.inj ho41
          refine C_exit (fun a ha81 => ?_)
          exact ⟨(s28, A76), ha81.sub ⟨rfl, rfl, rfl, rfl, rfl, rfl, rfl, trivial⟩, ⟨rfl, hH, hr43⟩⟩
        · rw [if_neg (nt hc80)] at ho41
          refine C_skip_to (fun _ _ => rfl) ?_
          refine C_seq ?_
          refine C_region ?_
          refine V_y (Y_load (El.int h74) Try.isAgg3 rfl) rfl rfl rfl ?_
          have h82 := El_cal_part_2 h60
          refine V_y (Y_fieldAddr Try.underlying80 rfl Try.sizeOf3 (by decide) rfl) rfl rfl rfl ?_
          refine V_y (Y_load (El.int h82) Try.isAgg3 rfl) rfl rfl rfl ?_
          refine V_y (Y_addI rfl rfl) rfl rfl rfl ?_
          obtain ⟨x83, hx83, ho41⟩ := Option.bind_eq_some_iff.1 ho41
          refine V_call Try.call39 rfl rfl rfl rfl (cal_floor_c w65 (w64 ((if p2 < x49.from_ then x49.from_ else p2) + x49.offset)) 1440 hx83) ?_
          rintro _ _ ⟨rfl, rfl⟩
          refine V_y (Y_subI rfl rfl) rfl rfl rfl ?_
          refine V_y (Y_assign rfl) rfl rfl rfl ?_
          refine V_to (fun _ _ => rfl) ?_
          obtain ⟨o84, ho84, ho41⟩ := Option.bind_eq_some_iff.1 ho41
          refine C_cutG (ι := ((Int × yield_S) × (Nat → Prop))) (fun ⟨s85, A91⟩ => [(1, .pointer (some ⟨b_p1, 0, none⟩)), (2, .pointer (some ⟨b_p2, 0, none⟩)), (3, .pointer (some ⟨b_p3, 0, none⟩)), (4, .pointer (some ⟨b1, 0, none⟩)), (13, v12), (14, .int .i64 (x11.length : Int)), (15, .int .i64 (k22 : Int))]) (fun ⟨s85, A91⟩ => fun w' => o84 = .fin s85 ∧ Hp B A91 w' (obS (α := cal_part) 80 v12 x11 :: yield_Y s85.2 :: L) ∧ Tr Dw B A76 w65 A91 w') ?_ ?_
          · refine C_block ?_
            refine C_while ho84 (fun s93 a w' => ∃ i : (Nat → Prop), Has ⟨52, [], none⟩ a ([(1, .pointer (some ⟨b_p1, 0, none⟩)), (2, .pointer (some ⟨b_p2, 0, none⟩)), (3, .pointer (some ⟨b_p3, 0, none⟩)), (4, .pointer (some ⟨b1, 0, none⟩)), (6, .pointer (some ⟨b55, 0, none⟩)), (8, .pointer (some ⟨(b63 1), 0, none⟩)), (9, .func (.func 37) #[] #[.pointer (some ⟨b_p1, 0, none⟩), .pointer (some ⟨b55, 0, none⟩), .pointer (some ⟨(b63 0), 0, none⟩), .pointer (some ⟨(b63 1), 0, none⟩), .pointer (some ⟨b1, 0, none⟩)]), (10, .int .i64 s93.1), (13, v12), (14, .int .i64 (x11.length : Int)), (15, .int .i64 (k22 : Int))]) ∧ Hp B i w' (obS (α := cal_part) 80 v12 x11 :: yield_Y s93.2 :: L) ∧ Tr Dw B A76 w65 i w') (fun a ha => ⟨A76, ha.sub ⟨rfl, rfl, rfl, rfl, rfl, rfl, rfl, rfl, rfl, rfl, rfl, trivial⟩, ⟨hH, Tr.refl (Dw := Dw) hA⟩⟩) ?_
            rintro K s93 a w94 ⟨A95, ha115, hH96, hr86⟩ K103
            refine C_of ?_ ha115
            replace h_p1 := El.tr (Dw := Dw) h_p1 hr86
            replace h_p2 := El.tr (Dw := Dw) h_p2 hr86
            replace h_p3 := El.tr (Dw := Dw) h_p3 hr86
            replace h5 := Vb.tr (Dw := Dw) h5 hr86
            replace h60 := El.tr (Dw := Dw) h60 hr86
            replace h78 := El.tr (Dw := Dw) h78 hr86
            replace h74 := El.tr (Dw := Dw) h74 hr86
            replace hK := Tr.trans (Dw := Dw) hK hr86
            replace hr21 := Tr.trans (Dw := Dw) hr21 hr86
            replace hr43 := Tr.trans (Dw := Dw) hr43 hr86
            replace hB := Nat.le_trans hB hr86.ex.size
            replace hA := hr86.new
            replace hH : Hp B A95 w94 (obS (α := cal_part) 80 v12 x11 :: yield_Y s93.2 :: L) := hH96
            obtain ⟨x97, h98, h99⟩ := K103
            refine C_seq ?_
            refine C_seq ?_
            refine C_region ?_
            refine V_y (Y_move rfl) rfl rfl rfl ?_
            refine V_y (Y_load (El.int h78) Try.isAgg3 rfl) rfl rfl rfl ?_
            refine V_y (Y_subI rfl rfl) rfl rfl rfl ?_
            have h104 := El_cal_part_2 h60
            refine V_y (Y_fieldAddr Try.underlying80 rfl Try.sizeOf3 (by decide) rfl) rfl rfl rfl ?_
            refine V_y (Y_load (El.int h104) Try.isAgg3 rfl) rfl rfl rfl ?_
            refine V_y (Y_addI rfl rfl) rfl rfl rfl ?_
            obtain ⟨x105, hx105, h98⟩ := Option.bind_eq_some_iff.1 h98
            refine V_call Try.call39 rfl rfl rfl rfl (cal_floor_c w94 (w64 ((w64 ((if x49.to_ < p3 then x49.to_ else p3) - 1)) + x49.offset)) 1440 hx105) ?_
            rintro _ _ ⟨rfl, rfl⟩
            refine V_y (Y_leq rfl rfl) rfl rfl rfl ?_
            refine V_to (fun _ _ => rfl) ?_
            refine C_cond rfl (fun hc106 => ?_) (fun hc106 => ?_)
            · rw [if_pos hc106] at h98
              refine C_skip_to (fun _ _ => rfl) ?_
              refine C_seq ?_
              refine C_block ?_
              refine C_seq ?_
              refine C_region ?_
              refine V_y (Y_move rfl) rfl rfl rfl ?_
              refine V_y (Y_move rfl) rfl rfl rfl ?_
              replace hH : Hp B A95 w94 (yield_Y s93.2 :: obS (α := cal_part) 80 v12 x11 :: L) := Hp.front hH (i := 1) rfl
              obtain ⟨x107, hx107, h98⟩ := Option.bind_eq_some_iff.1 h98
              refine V_call Try.call37 rfl rfl rfl rfl (cal_Calendar_shifts_1_1_c (Dw := Dw) w94 hB hA s93.1 p1 b_p1 h_p1 x49 b55 h60 (if p2 < x49.from_ then x49.from_ else p2) (b63 0) h74 (if x49.to_ < p3 then x49.to_ else p3) (b63 1) h78 yield yield_Y yield_v yield_one s93.2 (fun w2 A2 L2 x2 z2 b2 z3 h1 h2 h3 => yield_spec w2 A2 L2 x2 z2 b2 z3 h1 h2 (Tr.trans (Dw := Dw) hK h3)) b1 h5 hH hx107) ?_
              rintro _ w108 ⟨A109, rfl, hH110, ht111⟩
              replace h_p1 := El.tr (Dw := Dw) h_p1 ht111
              replace h_p2 := El.tr (Dw := Dw) h_p2 ht111
              replace h_p3 := El.tr (Dw := Dw) h_p3 ht111
              replace h5 := Vb.tr (Dw := Dw) h5 ht111
              replace h60 := El.tr (Dw := Dw) h60 ht111
              replace h78 := El.tr (Dw := Dw) h78 ht111
              replace h74 := El.tr (Dw := Dw) h74 ht111
              replace hK := Tr.trans (Dw := Dw) hK ht111
              replace hr21 := Tr.trans (Dw := Dw) hr21 ht111
              replace hr43 := Tr.trans (Dw := Dw) hr43 ht111
              replace hr86 := Tr.trans (Dw := Dw) hr86 ht111
              replace hB := Nat.le_trans hB ht111.ex.size
              replace hA := ht111.new
              replace hH : Hp B A109 w108 (yield_Y x107.2 :: obS (α := cal_part) 80 v12 x11 :: L) := hH110
              refine V_y (Y_not rfl) rfl rfl rfl ?_
              refine V_to (fun _ _ => rfl) ?_
              refine C_cond rfl (fun hc112 => ?_) (fun hc112 => ?_)
              · rw [if_pos hc112] at h98
                obtain rfl := Option.some.inj h98
                obtain rfl := (h99 : Lp.rt _ = _)
                rw [Lp.andThen_rt] at ho41
                obtain rfl := Option.some.inj ho41
                rw [Lp.andThen_rt] at h33
                obtain rfl := Option.some.inj h33
                obtain rfl := (h34 : Lp.rt _ = _)
                rw [Lp.andThen_rt] at hm
                obtain rfl := Option.some.inj hm
                replace hH : Hp B A109 w108 (yield_Y x107.2 :: L) := Hp.drop hH (i := 1) rfl
                refine C_ret ?_
                try simp only [↓inBlock_ret, ↓then_ret]
                exact retQ rfl (Res.zero Try.results35) ⟨A109, rfl, hH, hK⟩
              · rw [if_neg (nt hc112)] at h98
                refine C_skip_to (fun _ _ => rfl) ?_
                refine C_region ?_
                refine V_y (Y_move rfl) rfl rfl rfl ?_
                refine V_y (Y_addI rfl rfl) rfl rfl rfl ?_
                refine V_y (Y_assign rfl) rfl rfl rfl ?_
                obtain rfl := Option.some.inj h98
                refine V_end (fun a ha113 => ?_)
                replace hH : Hp B A109 w108 (obS (α := cal_part) 80 v12 x11 :: yield_Y x107.2 :: L) := Hp.front hH (i := 1) rfl
                exact ⟨(w64 (s93.1 + 1), x107.2), h99, ⟨A109, ha113.sub ⟨rfl, rfl, rfl, rfl, rfl, rfl, rfl, rfl, rfl, rfl, rfl, trivial⟩, ⟨hH, hr86⟩⟩⟩
            · rw [if_neg (nt hc106)] at h98
              obtain rfl := Option.some.inj h98
              refine C_exit (fun a ha114 => ?_)
              exact ⟨((s93.1, s93.2), A95), ha114.sub ⟨rfl, rfl, rfl, rfl, rfl, rfl, rfl, trivial⟩, ⟨h99.symm, hH, hr86⟩⟩
          rintro ⟨s85, A91⟩ w88 ⟨rfl, hH92, hk89⟩ a ha90
          rw [Lp.andThen_fin] at ho41
          replace h_p1 := El.tr (Dw := Dw) h_p1 hk89
          replace h_p2 := El.tr (Dw := Dw) h_p2 hk89
          replace h_p3 := El.tr (Dw := Dw) h_p3 hk89
          replace h5 := Vb.tr (Dw := Dw) h5 hk89
          replace hK := Tr.trans (Dw := Dw) hK hk89
          replace hr21 := Tr.trans (Dw := Dw) hr21 hk89
          replace hr43 := Tr.trans (Dw := Dw) hr43 hk89
          replace hB := Nat.le_trans hB hk89.ex.size
          replace hA := hk89.new
          replace hH : Hp B A91 w88 (obS (α := cal_part) 80 v12 x11 :: yield_Y s85.2 :: L) := hH92
          obtain rfl := Option.some.inj ho41
          exact ⟨(s85.2, A91), ha90.sub ⟨rfl, rfl, rfl, rfl, rfl, rfl, rfl, trivial⟩, ⟨rfl, hH, hr43⟩⟩
      rintro ⟨s42, A47⟩ w44 ⟨rfl, hH48, hk45⟩ a ha46
      rw [Lp.andThen_fin] at h33
      replace h_p1 := El.tr (Dw := Dw) h_p1 hk45
      replace h_p2 := El.tr (Dw := Dw) h_p2 hk45
      replace h_p3 := El.tr (Dw := Dw) h_p3 hk45
      replace h5 := Vb.tr (Dw := Dw) h5 hk45
      replace hK := Tr.trans (Dw := Dw) hK hk45
      replace hr21 := Tr.trans (Dw := Dw) hr21 hk45
      replace hB := Nat.le_trans hB hk45.ex.size
      replace hA := hk45.new
      replace hH : Hp B A47 w44 (obS (α := cal_part) 80 v12 x11 :: yield_Y s42 :: L) := hH48
      refine C_at (n := ⟨52, [], none⟩) (fun _ _ => rfl) ?_ ha46
      refine C_region ?_
      refine V_y (Y_addI rfl rfl) rfl rfl rfl ?_
      refine V_y (Y_move rfl) rfl rfl rfl ?_
      obtain rfl := Option.some.inj h33
      refine V_end (fun a ha117 => ?_)
      exact ⟨s42, hlt36, h34, ⟨A47, ha117.sub ⟨rfl, rfl, rfl, rfl, rfl, rfl, (congrArg (fun z => some (Value.int .i64 z)) (w64_succ hlt36 hn39)), trivial⟩, ⟨hH, hr21⟩⟩⟩
    · refine C_exit (fun a ha118 => ?_)
      exact ⟨(s28, A30), ha118.sub trivial, ⟨(h37 (eq_of_dec hle35 hc40)).symm, hH, hr21⟩⟩
  rintro ⟨s20, A26⟩ w23 ⟨rfl, hH27, hk24⟩ a ha25
  rw [Lp.andThen_fin] at hm
  replace hK := Tr.trans (Dw := Dw) hK hk24
  replace hB := Nat.le_trans hB hk24.ex.size
  replace hA := hk24.new
  replace hH : Hp B A26 w23 (obS (α := cal_part) 80 v12 x11 :: yield_Y s20 :: L) := hH27
  obtain rfl := Option.some.inj hm
  replace hH : Hp B A26 w23 (yield_Y s20 :: obS (α := cal_part) 80 v12 x11 :: L) := Hp.front hH (i := 1) rfl
  replace hH : Hp B A26 w23 (yield_Y s20 :: L) := Hp.drop hH (i := 1) rfl
  try simp only [↓inBlock_ret, ↓then_ret]
  exact normQ (retQ rfl (Res.zero Try.results35) ⟨A26, rfl, hH, hK⟩ a ha25)

set_option maxRecDepth 4000 in
set_option maxHeartbeats 4000000 in
theorem cal_Calendar_open_1_c (w : World) {A : Nat → Prop} {B : Nat} (hB : B ≤ w.heap.size) (hA : ∀ b, w.heap.size ≤ b → A b) {yield_S : Type} (yield : cal_Span → yield_S → Option (Bool × yield_S)) (yield_Y : yield_S → Ob) (yield_v : Value) (yield_one : yield_v.cells.toList = [yield_v]) (yield_s : yield_S) (yield_spec : ∀ (w2 : World) (A2 : Nat → Prop) (L2 : List Ob) (x : cal_Span) (z : yield_S) (b : Bool) (z2 : yield_S), B ≤ w2.heap.size → (∀ b, w2.heap.size ≤ b → A2 b) → Tr Dw B A w A2 w2 → Hp B A2 w2 (yield_Y z :: L2) → yield x z = some (b, z2) → CallV Try.prog yield_v [.agg #[.int .i64 x.from_, .int .i64 x.to_]] w2 fun v w3 => v = .bool b ∧ ∃ A3, Tr Dw B A2 w2 A3 w3 ∧ Hp B A3 w3 (yield_Y z2 :: L2)) (p1 : cal_Calendar) (b_p1 : Nat) (h_p1 : El A w b_p1 0 p1) (p2 : Int) (b_p2 : Nat) (h_p2 : El A w b_p2 0 p2) (p3 : Int) (b_p3 : Nat) (h_p3 : El A w b_p3 0 p3) {L : List Ob} (hH : Hp B A w (yield_Y yield_s :: L)) {r : yield_S} (hm : cal_Calendar_open_1 yield yield_s p1 p2 p3 = some r) : Ret Try.prog 23 #[yield_v, .pointer (some ⟨b_p1, 0, none⟩), .pointer (some ⟨b_p2, 0, none⟩), .pointer (some ⟨b_p3, 0, none⟩)] w fun v w' => ∃ A1 : Nat → Prop, v = .tuple #[] ∧ Hp B A1 w' (yield_Y r :: L) ∧ Tr Dw B A w A1 w' := by
  unfold cal_Calendar_open_1 at hm
  refine enterM Try.func23 rfl Try.ntmps23 rfl ?_
  have hK : Tr Dw B A w A w := Tr.refl (Dw := Dw) hA
  refine C_seq ?_
  refine C_region ?_
  refine V_box rfl rfl ?_
  intro b1 w2 h3
  have hk4 := h3.kp (Dw := Dw)
  have h5 : Vb A w2 b1 yield_v := h3.vb hA yield_one
  have ht6 := Kp.tr (Dw := Dw) hk4 hA hB
  replace hH := Hp.kp (Dw := Dw) hH hk4
  replace h_p1 := El.tr (Dw := Dw) h_p1 ht6
  replace h_p2 := El.tr (Dw := Dw) h_p2 ht6
  replace h_p3 := El.tr (Dw := Dw) h_p3 ht6
  replace hK := Tr.trans (Dw := Dw) hK ht6
  replace hB := Nat.le_trans hB ht6.ex.size
  replace hA := ht6.new
  refine V_to (fun _ _ => rfl) ?_
  refine C_seq ?_
  refine C_region ?_
  refine V_y (Y_build Try.underlying29 Try.zeroValue29 (Try_places29 _ Try.underlying29) rfl (by with_unfolding_all rfl)) rfl rfl rfl ?_
  refine V_allocH (Dw := Dw) (B := B) hH Try.zeroValue29 hB hA rfl ?_
  intro b7 w9 A10 hH11 ht12
  replace h_p1 := El.tr (Dw := Dw) h_p1 ht12
  replace h_p2 := El.tr (Dw := Dw) h_p2 ht12
  replace h_p3 := El.tr (Dw := Dw) h_p3 ht12
  replace h5 := Vb.tr (Dw := Dw) h5 ht12
  replace hK := Tr.trans (Dw := Dw) hK ht12
  replace hB := Nat.le_trans hB ht12.ex.size
  replace hA := ht12.new
  replace hH : Hp B A10 w9 (obC b7 [.int .i64 0, .int .i64 0] 29 :: yield_Y yield_s :: L) := hH11
  refine V_storeC (Dw := Dw) (off := 0) (ds := [.int .i64 (-1), .int .i64 (-1)]) hH (i := 0) rfl Try.sizeOf29 rfl (Nat.le_of_ble_eq_true rfl) (by simp [Value.cells, Value.oneCell']) rfl hB hA rfl rfl ?_
  intro w13 hH14 ht15
  replace h_p1 := El.tr (Dw := Dw) h_p1 ht15
  replace h_p2 := El.tr (Dw := Dw) h_p2 ht15
  replace h_p3 := El.tr (Dw := Dw) h_p3 ht15
  replace h5 := Vb.tr (Dw := Dw) h5 ht15
  replace hK := Tr.trans (Dw := Dw) hK ht15
  replace hB := Nat.le_trans hB ht15.ex.size
  replace hA := ht15.new
  replace hH : Hp B A10 w13 (obC b7 [.int .i64 (-1), .int .i64 (-1)] 29 :: yield_Y yield_s :: L) := hH14
  refine V_to (fun _ _ => rfl) ?_
  refine C_seq ?_
  refine C_seq ?_
  refine C_region ?_
  obtain ⟨v16, v18, v20, h22, h17, h19, h21⟩ := El_cal_Calendar h_p1
  refine V_y (Y_loadA h22 Try.isAgg37 Try.sizeOf37 rfl) rfl rfl rfl ?_
  refine V_y (Y_load (El.int h_p2) Try.isAgg3 rfl) rfl rfl rfl ?_
  refine V_y (Y_load (El.int h_p3) Try.isAgg3 rfl) rfl rfl rfl ?_
  obtain ⟨x23, hx23, hm⟩ := Option.bind_eq_some_iff.1 hm
  refine V_call Try.call24 rfl rfl rfl rfl (cal_Calendar_shifts_c (Dw := Dw) w13 hA p1 v16 h17 v18 h19 v20 h21 p2 p3 hx23) ?_
  rintro _ w30 ⟨b24, b26, b28, rfl, h25, h27, h29, hk31⟩
  have ht32 := Kp.tr (Dw := Dw) hk31 hA hB
  replace hH := Hp.kp (Dw := Dw) hH hk31
  replace h_p1 := El.tr (Dw := Dw) h_p1 ht32
  replace h_p2 := El.tr (Dw := Dw) h_p2 ht32
  replace h_p3 := El.tr (Dw := Dw) h_p3 ht32
  replace h5 := Vb.tr (Dw := Dw) h5 ht32
  replace h17 := Sl.tr (Dw := Dw) h17 ht32
  replace h19 := Sl.tr (Dw := Dw) h19 ht32
  replace h21 := Sl.tr (Dw := Dw) h21 ht32
  replace hK := Tr.trans (Dw := Dw) hK ht32
  replace hB := Nat.le_trans hB ht32.ex.size
  replace hA := ht32.new
  refine V_to (fun _ _ => rfl) ?_
  have hH37 : Hp B A10 w30 ((fun (s34 : (cal_Span × yield_S)) => obE (fun (i : Unit) => [obC b7 [.int .i64 s34.1.from_, .int .i64 s34.1.to_] 29, yield_Y s34.2])) ((⟨(-1), (-1)⟩ : cal_Span), yield_s) :: L) := Hp.pack (F := fun (i : Unit) => [obC b7 [.int .i64 ((⟨(-1), (-1)⟩ : cal_Span), yield_s).1.from_, .int .i64 ((⟨(-1), (-1)⟩ : cal_Span), yield_s).1.to_] 29, yield_Y ((⟨(-1), (-1)⟩ : cal_Span), yield_s).2]) () hH
  obtain ⟨z33, hz33, hm⟩ := Option.bind_eq_some_iff.1 hm
  refine C_cutN (ι := Nat × (Nat → Prop)) (fun i => ⟨41, [{ target := .collected i.1, args := #[] }], none⟩) (fun i => [(4, .pointer (some ⟨b1, 0, none⟩)), (5, .pointer (some ⟨b7, 0, none⟩))]) (fun i w' => z33.2 ≠ some 0 ∧ Hp B i.2 w' ((fun (s34 : (cal_Span × yield_S)) => obE (fun (i : Unit) => [obC b7 [.int .i64 s34.1.from_, .int .i64 s34.1.to_] 29, yield_Y s34.2])) z33.1 :: obO i.1 (.deferred (some [])) :: L) ∧ Tr Dw B A10 w30 i.2 w') ?_ ?_
  · refine C_block ?_
    refine C_rangeFunc (Dw := Dw) (B := B) (A := A10) (L := L) (X := cal_Span) (fun (x43 : cal_Span) => [.agg #[.int .i64 x43.from_, .int .i64 x43.to_]]) (fun (s34 : (cal_Span × yield_S)) => obE (fun (i : Unit) => [obC b7 [.int .i64 s34.1.from_, .int .i64 s34.1.to_] 29, yield_Y s34.2])) (fun (x43 : cal_Span) (s35 : (cal_Span × yield_S)) => Option.bind (α := Lp _ _) (Option.bind (α := Lp _ _) (Option.bind (α := Lp _ _) (if (decide (s35.1.from_ < 0)) = true then some (.fin (x43, s35.2)) else Option.bind (α := Lp _ _) (if (decide (x43.from_ ≤ s35.1.to_)) = true then some (.fin ((⟨s35.1.from_, (if s35.1.to_ < x43.to_ then x43.to_ else s35.1.to_)⟩ : cal_Span), s35.2)) else Option.bind (yield s35.1 s35.2) fun x110 => if (!x110.1) = true then some (.rt ((s35.1, x110.2), some 0)) else some (.fin (x43, x110.2))) fun o96 => o96.andThen (fun y => some (.rt y)) fun s97 => some (.fin (s97.1, s97.2))) fun o81 => o81.andThen (fun y => some (.rt y)) fun s82 => some (.fin (s82.1, s82.2))) fun o73 => o73.andThen (fun y => some (.rt y)) fun s74 => some (.fin (s74.1, s74.2))) fun o65 => o65.andThen (fun y => some y) fun s66 => some ((s66.1, s66.2), none)) (fun k => if k = 0 then .ret else .exit 0) (s0 := ((⟨(-1), (-1)⟩ : cal_Span), yield_s)) (zf := z33) rfl rfl rfl (by decide) (fun _ => rfl) hB hA hH37 35 _ rfl Try.call35 ?_ ?_ ?_ ?_
    · intro Ys yv w1 A1 L1 h1 h2 h3 h4 h0 h5
      exact (cal_Calendar_shifts_1_c (Dw := Dw) w1 h1 h2 (yieldB (fun (x43 : cal_Span) (s35 : (cal_Span × yield_S)) => Option.bind (α := Lp _ _) (Option.bind (α := Lp _ _) (Option.bind (α := Lp _ _) (if (decide (s35.1.from_ < 0)) = true then some (.fin (x43, s35.2)) else Option.bind (α := Lp _ _) (if (decide (x43.from_ ≤ s35.1.to_)) = true then some (.fin ((⟨s35.1.from_, (if s35.1.to_ < x43.to_ then x43.to_ else s35.1.to_)⟩ : cal_Span), s35.2)) else Option.bind (yield s35.1 s35.2) fun x110 => if (!x110.1) = true then some (.rt ((s35.1, x110.2), some 0)) else some (.fin (x43, x110.2))) fun o96 => o96.andThen (fun y => some (.rt y)) fun s97 => some (.fin (s97.1, s97.2))) fun o81 => o81.andThen (fun y => some (.rt y)) fun s82 => some (.fin (s82.1, s82.2))) fun o73 => o73.andThen (fun y => some (.rt y)) fun s74 => some (.fin (s74.1, s74.2))) fun o65 => o65.andThen (fun y => some y) fun s66 => some ((s66.1, s66.2), none))) Ys yv h0 (((⟨(-1), (-1)⟩ : cal_Span), yield_s), none) h5 x23.1 b24 (El.tr (Dw := Dw) h25 h3) x23.2.1 b26 (El.tr (Dw := Dw) h27 h3) x23.2.2 b28 (El.tr (Dw := Dw) h29 h3) h4 hz33).mono fun _ _ ⟨A3, _, hh, tt⟩ => ⟨A3, tt, hh⟩
    · intro l38 rc39 w40 A41 L42 x43 s35 s36 j44 hst45 hB46 hA47 ht48 hH49 h50
      obtain ⟨_, hH49⟩ := Hp.open hH49
      replace h5 := Vb.tr (Dw := Dw) h5 ht48
      replace h25 := El.tr (Dw := Dw) h25 ht48
      replace h27 := El.tr (Dw := Dw) h27 ht48
      replace h29 := El.tr (Dw := Dw) h29 ht48
      replace hK := Tr.trans (Dw := Dw) hK ht48
      replace hB := Nat.le_trans hB ht48.ex.size
      replace hA := ht48.new
      replace hH : Hp B A41 w40 (obC b7 [.int .i64 s35.1.from_, .int .i64 s35.1.to_] 29 :: yield_Y s35.2 :: obO l38 (.loop rc39) :: L42) := hH49
      have hr51 : Tr Dw B A41 w40 A41 w40 := Tr.refl (Dw := Dw) hA
      show C _ _ _ _ _ _
      refine C_region ?_
      refine V_alloc Try.zeroValue29 rfl ?_
      intro b53 w54 h55
      refine V_storeNew h55 Try.sizeOf29 rfl rfl rfl rfl (by exact (List.forall_mem_cons.2 ⟨rfl, (List.forall_mem_cons.2 ⟨rfl, (fun _ h => nomatch h)⟩)⟩)) ?_
      intro w56 h57
      have hk59 := h57.kp (Dw := Dw)
      have h58 : El (α := cal_Span) A41 w56 b53 0 x43 := h57.el hA ⟨[.int .i64 x43.from_], _, rfl, rfl, rfl⟩
      have ht60 := Kp.tr (Dw := Dw) hk59 hA hB
      replace hH := Hp.kp (Dw := Dw) hH hk59
      replace h5 := Vb.tr (Dw := Dw) h5 ht60
      replace h25 := El.tr (Dw := Dw) h25 ht60
      replace h27 := El.tr (Dw := Dw) h27 ht60
      replace h29 := El.tr (Dw := Dw) h29 ht60
      replace hK := Tr.trans (Dw := Dw) hK ht60
      replace hr51 := Tr.trans (Dw := Dw) hr51 ht60
      replace hB := Nat.le_trans hB ht60.ex.size
      replace hA := ht60.new
      refine V_end (fun a ha61 => ?_)
      refine begin_at (Dw := Dw) hH (i := 2) rfl hst45 hB hA (fun w62 hH63 ht64 => ?_) ha61
      replace h5 := Vb.tr (Dw := Dw) h5 ht64
      replace h58 := El.tr (Dw := Dw) h58 ht64
      replace hK := Tr.trans (Dw := Dw) hK ht64
      replace hr51 := Tr.trans (Dw := Dw) hr51 ht64
      replace hB := Nat.le_trans hB ht64.ex.size
      replace hA := ht64.new
      replace hH : Hp B A41 w62 (obC b7 [.int .i64 s35.1.from_, .int .i64 s35.1.to_] 29 :: yield_Y s35.2 :: obO l38 (.loop { rc39 with state := .busy }) :: L42) := hH63
      obtain ⟨o65, ho65, h50⟩ := Option.bind_eq_some_iff.1 h50
      refine C_cutG (ι := ((cal_Span × yield_S) × (Nat → Prop))) (fun ⟨s66, A71⟩ => []) (fun ⟨s66, A71⟩ => fun w' => o65 = .fin s66 ∧ Hp B A71 w' (obC b7 [.int .i64 s66.1.from_, .int .i64 s66.1.to_] 29 :: yield_Y s66.2 :: obO l38 (.loop { rc39 with state := .busy }) :: L42) ∧ Tr Dw B A41 w62 A71 w') ?_ ?_
      · have hr67 : Tr Dw B A41 w62 A41 w62 := Tr.refl (Dw := Dw) hA
        refine C_block ?_
        obtain ⟨o73, ho73, ho65⟩ := Option.bind_eq_some_iff.1 ho65
        refine C_cutG (ι := ((cal_Span × yield_S) × (Nat → Prop))) (fun ⟨s74, A79⟩ => []) (fun ⟨s74, A79⟩ => fun w' => o73 = .fin s74 ∧ Hp B A79 w' (obC b7 [.int .i64 s74.1.from_, .int .i64 s74.1.to_] 29 :: yield_Y s74.2 :: obO l38 (.loop { rc39 with state := .busy }) :: L42) ∧ Tr Dw B A41 w62 A79 w') ?_ ?_
        · have hr75 : Tr Dw B A41 w62 A41 w62 := Tr.refl (Dw := Dw) hA
          refine C_block ?_
          refine C_seq ?_
          refine C_region ?_
          refine V_y (Y_fieldAddrC (off2 := 0) Try.underlying29 rfl Try.sizeOf3 (by decide) rfl rfl) rfl rfl rfl ?_
          refine V_y (Y_load (Hp.cell (j := 0) hH (i := 0) rfl rfl) Try.isAgg3 rfl) rfl rfl rfl ?_
          refine V_y (Y_lss rfl rfl) rfl rfl rfl ?_
          refine V_y (Y_assign rfl) rfl rfl rfl ?_
          refine V_to (fun _ _ => rfl) ?_
          obtain ⟨o81, ho81, ho73⟩ := Option.bind_eq_some_iff.1 ho73
          refine C_cutG (ι := ((cal_Span × yield_S) × (Nat → Prop))) (fun ⟨s82, A87⟩ => []) (fun ⟨s82, A87⟩ => fun w' => o81 = .fin s82 ∧ Hp B A87 w' (obC b7 [.int .i64 s82.1.from_, .int .i64 s82.1.to_] 29 :: yield_Y s82.2 :: obO l38 (.loop { rc39 with state := .busy }) :: L42) ∧ Tr Dw B A41 w62 A87 w') ?_ ?_
          · have hr83 : Tr Dw B A41 w62 A41 w62 := Tr.refl (Dw := Dw) hA
            refine C_cond rfl (fun hc89 => ?_) (fun hc89 => ?_)
            · rw [if_pos hc89] at ho81
              refine C_region ?_
              obtain ⟨h90, _⟩ := El_cal_Span h58
              refine V_y (Y_loadA h90 Try.isAgg29 Try.sizeOf29 rfl) rfl rfl rfl ?_
              refine V_storeC (Dw := Dw) (off := 0) (ds := [.int .i64 x43.from_, .int .i64 x43.to_]) hH (i := 0) rfl Try.sizeOf29 rfl (Nat.le_of_ble_eq_true rfl) (by simp [Value.cells, Value.oneCell']) rfl hB hA rfl rfl ?_
              intro w91 hH92 ht93
              replace h5 := Vb.tr (Dw := Dw) h5 ht93
              replace h58 := El.tr (Dw := Dw) h58 ht93
              replace hK := Tr.trans (Dw := Dw) hK ht93
              replace hr51 := Tr.trans (Dw := Dw) hr51 ht93
              replace hr67 := Tr.trans (Dw := Dw) hr67 ht93
              replace hr75 := Tr.trans (Dw := Dw) hr75 ht93
              replace hr83 := Tr.trans (Dw := Dw) hr83 ht93
              replace hB := Nat.le_trans hB ht93.ex.size
              replace hA := ht93.new
              replace hH : Hp B A41 w91 (obC b7 [.int .i64 x43.from_, .int .i64 x43.to_] 29 :: yield_Y s35.2 :: obO l38 (.loop { rc39 with state := .busy }) :: L42) := hH92
              obtain rfl := Option.some.inj ho81
              refine V_end (fun a ha94 => ?_)
              exact ⟨((x43, s35.2), A41), ha94.sub trivial, ⟨rfl, hH, hr83⟩⟩
            · rw [if_neg (nt hc89)] at ho81
              refine C_seq ?_
              refine C_region ?_
              have h95 := El_cal_Span_0 h58
              refine V_y (Y_fieldAddr Try.underlying29 rfl Try.sizeOf3 (by decide) rfl) rfl rfl rfl ?_
              refine V_y (Y_load (El.int h95) Try.isAgg3 rfl) rfl rfl rfl ?_
              refine V_y (Y_fieldAddrC (off2 := 1) Try.underlying29 rfl Try.sizeOf3 (by decide) rfl rfl) rfl rfl rfl ?_
              refine V_y (Y_load (Hp.cell (j := 1) hH (i := 0) rfl rfl) Try.isAgg3 rfl) rfl rfl rfl ?_
              refine V_y (Y_leq rfl rfl) rfl rfl rfl ?_
              refine V_y (Y_assign rfl) rfl rfl rfl ?_
              refine V_to (fun _ _ => rfl) ?_
              obtain ⟨o96, ho96, ho81⟩ := Option.bind_eq_some_iff.1 ho81
              refine C_cutG (ι := ((cal_Span × yield_S) × (Nat → Prop))) (fun ⟨s97, A102⟩ => []) (fun ⟨s97, A102⟩ => fun w' => o96 = .fin s97 ∧ Hp B A102 w' (obC b7 [.int .i64 s97.1.from_, .int .i64 s97.1.to_] 29 :: yield_Y s97.2 :: obO l38 (.loop { rc39 with state := .busy }) :: L42) ∧ Tr Dw B A41 w62 A102 w') ?_ ?_
              · have hr98 : Tr Dw B A41 w62 A41 w62 := Tr.refl (Dw := Dw) hA
                refine C_cond rfl (fun hc104 => ?_) (fun hc104 => ?_)
                · rw [if_pos hc104] at ho96
                  refine C_region ?_
                  refine V_y (Y_fieldAddrC (off2 := 1) Try.underlying29 rfl Try.sizeOf3 (by decide) rfl rfl) rfl rfl rfl ?_
                  refine V_y (Y_load (Hp.cell (j := 1) hH (i := 0) rfl rfl) Try.isAgg3 rfl) rfl rfl rfl ?_
                  have h105 := El_cal_Span_1 h58
                  refine V_y (Y_fieldAddr Try.underlying29 rfl Try.sizeOf3 (by decide) rfl) rfl rfl rfl ?_
                  refine V_y (Y_load (El.int h105) Try.isAgg3 rfl) rfl rfl rfl ?_
                  refine V_y (Y_max2 rfl rfl) rfl rfl rfl ?_
                  refine V_y (Y_fieldAddrC (off2 := 1) Try.underlying29 rfl Try.sizeOf3 (by decide) rfl rfl) rfl rfl rfl ?_
                  refine V_storeC (Dw := Dw) (off := 1) (ds := [.int .i64 s35.1.from_, .int .i64 (if s35.1.to_ < x43.to_ then x43.to_ else s35.1.to_)]) hH (i := 0) rfl Try.sizeOf3 rfl (Nat.le_of_ble_eq_true rfl) (by simp [Value.cells, Value.oneCell']) rfl hB hA rfl rfl ?_
                  intro w106 hH107 ht108
                  replace h5 := Vb.tr (Dw := Dw) h5 ht108
                  replace h58 := El.tr (Dw := Dw) h58 ht108
                  replace h105 := El.tr (Dw := Dw) h105 ht108
                  replace hK := Tr.trans (Dw := Dw) hK ht108
                  replace hr51 := Tr.trans (Dw := Dw) hr51 ht108
                  replace hr67 := Tr.trans (Dw := Dw) hr67 ht108
                  replace hr75 := Tr.trans (Dw := Dw) hr75 ht108
                  replace hr83 := Tr.trans (Dw := Dw) hr83 ht108
                  replace hr98 := Tr.trans (Dw := Dw) hr98 ht108
                  replace hB := Nat.le_trans hB ht108.ex.size
                  replace hA := ht108.new
                  replace hH : Hp B A41 w106 (obC b7 [.int .i64 s35.1.from_, .int .i64 (if s35.1.to_ < x43.to_ then x43.to_ else s35.1.to_)] 29 :: yield_Y s35.2 :: obO l38 (.loop { rc39 with state := .busy }) :: L42) := hH107
                  obtain rfl := Option.some.inj ho96
                  refine V_end (fun a ha109 => ?_)
                  exact ⟨(((⟨s35.1.from_, (if s35.1.to_ < x43.to_ then x43.to_ else s35.1.to_)⟩ : cal_Span), s35.2), A41), ha109.sub trivial, ⟨rfl, hH, hr98⟩⟩
                · rw [if_neg (nt hc104)] at ho96
                  refine C_seq ?_
                  refine C_seq ?_
                  refine C_region ?_
                  refine V_y (Y_load h5.2.2 Try.isAgg59 rfl) rfl rfl rfl ?_
                  refine V_y (Y_loadA (Hp.part (off := 0) (n := 2) (ds := [.int .i64 s35.1.from_, .int .i64 s35.1.to_]) hH (i := 0) rfl rfl) Try.isAgg29 Try.sizeOf29 rfl) rfl rfl rfl ?_
                  obtain ⟨x110, hx110, ho96⟩ := Option.bind_eq_some_iff.1 ho96
                  replace hH : Hp B A41 w62 (yield_Y s35.2 :: obC b7 [.int .i64 s35.1.from_, .int .i64 s35.1.to_] 29 :: obO l38 (.loop { rc39 with state := .busy }) :: L42) := Hp.front hH (i := 1) rfl
                  refine V_callV rfl rfl rfl (yield_spec w62 _ _ s35.1 _ x110.1 x110.2 hB hA hK hH hx110) ?_
                  rintro _ w111 ⟨rfl, A112, ht114, hH113⟩
                  replace h5 := Vb.tr (Dw := Dw) h5 ht114
                  replace h58 := El.tr (Dw := Dw) h58 ht114
                  replace hK := Tr.trans (Dw := Dw) hK ht114
                  replace hr51 := Tr.trans (Dw := Dw) hr51 ht114
                  replace hr67 := Tr.trans (Dw := Dw) hr67 ht114
                  replace hr75 := Tr.trans (Dw := Dw) hr75 ht114
                  replace hr83 := Tr.trans (Dw := Dw) hr83 ht114
                  replace hr98 := Tr.trans (Dw := Dw) hr98 ht114
                  replace hB := Nat.le_trans hB ht114.ex.size
                  replace hA := ht114.new
                  replace hH : Hp B A112 w111 (yield_Y x110.2 :: obC b7 [.int .i64 s35.1.from_, .int .i64 s35.1.to_] 29 :: obO l38 (.loop { rc39 with state := .busy }) :: L42) := hH113
                  refine V_y (Y_not rfl) rfl rfl rfl ?_
                  refine V_to (fun _ _ => rfl) ?_
                  refine C_cond rfl (fun hc115 => ?_) (fun hc115 => ?_)
                  · rw [if_pos hc115] at ho96
                    obtain rfl := Option.some.inj ho96
                    rw [Lp.andThen_rt] at ho81
                    obtain rfl := Option.some.inj ho81
                    rw [Lp.andThen_rt] at ho73
                    obtain rfl := Option.some.inj ho73
                    rw [Lp.andThen_rt] at ho65
                    obtain rfl := Option.some.inj ho65
                    rw [Lp.andThen_rt] at h50
                    obtain ⟨rfl, rfl⟩ := Prod.mk.inj (Option.some.inj h50)
                    refine C_ret (fun a ha116 => ?_)
                    replace hH : Hp B A112 w111 (obO l38 (.loop { rc39 with state := .busy }) :: yield_Y x110.2 :: obC b7 [.int .i64 s35.1.from_, .int .i64 s35.1.to_] 29 :: L42) := Hp.front hH (i := 2) rfl
                    replace hH : Hp B A112 w111 (yield_Y x110.2 :: obO l38 (.loop { rc39 with state := .busy }) :: obC b7 [.int .i64 s35.1.from_, .int .i64 s35.1.to_] 29 :: L42) := Hp.front hH (i := 1) rfl
                    replace hH : Hp B A112 w111 (obC b7 [.int .i64 s35.1.from_, .int .i64 s35.1.to_] 29 :: yield_Y x110.2 :: obO l38 (.loop { rc39 with state := .busy }) :: L42) := Hp.front hH (i := 2) rfl
                    exact ⟨rfl, A112, hr51, Hp.pack (F := fun (i : Unit) => [obC b7 [.int .i64 (s35.1, x110.2).1.from_, .int .i64 (s35.1, x110.2).1.to_] 29, yield_Y (s35.1, x110.2).2]) () hH⟩
                  · rw [if_neg (nt hc115)] at ho96
                    refine C_skip_to (fun _ _ => rfl) ?_
                    refine C_region ?_
                    obtain ⟨h117, _⟩ := El_cal_Span h58
                    refine V_y (Y_loadA h117 Try.isAgg29 Try.sizeOf29 rfl) rfl rfl rfl ?_
                    refine V_storeC (Dw := Dw) (off := 0) (ds := [.int .i64 x43.from_, .int .i64 x43.to_]) hH (i := 1) rfl Try.sizeOf29 rfl (Nat.le_of_ble_eq_true rfl) (by simp [Value.cells, Value.oneCell']) rfl hB hA rfl rfl ?_
                    intro w118 hH119 ht120
                    replace h58 := El.tr (Dw := Dw) h58 ht120
                    replace hK := Tr.trans (Dw := Dw) hK ht120
                    replace hr51 := Tr.trans (Dw := Dw) hr51 ht120
                    replace hr67 := Tr.trans (Dw := Dw) hr67 ht120
                    replace hr75 := Tr.trans (Dw := Dw) hr75 ht120
                    replace hr83 := Tr.trans (Dw := Dw) hr83 ht120
                    replace hr98 := Tr.trans (Dw := Dw) hr98 ht120
                    replace hB := Nat.le_trans hB ht120.ex.size
                    replace hA := ht120.new
                    replace hH : Hp B A112 w118 (yield_Y x110.2 :: obC b7 [.int .i64 x43.from_, .int .i64 x43.to_] 29 :: obO l38 (.loop { rc39 with state := .busy }) :: L42) := hH119
                    obtain rfl := Option.some.inj ho96
                    refine V_end (fun a ha121 => ?_)
                    replace hH : Hp B A112 w118 (obO l38 (.loop { rc39 with state := .busy }) :: yield_Y x110.2 :: obC b7 [.int .i64 x43.from_, .int .i64 x43.to_] 29 :: L42) := Hp.front hH (i := 2) rfl
                    replace hH : Hp B A112 w118 (yield_Y x110.2 :: obO l38 (.loop { rc39 with state := .busy }) :: obC b7 [.int .i64 x43.from_, .int .i64 x43.to_] 29 :: L42) := Hp.front hH (i := 1) rfl
                    replace hH : Hp B A112 w118 (obC b7 [.int .i64 x43.from_, .int .i64 x43.to_] 29 :: yield_Y x110.2 :: obO l38 (.loop { rc39 with state := .busy }) :: L42) := Hp.front hH (i := 2) rfl
                    exact ⟨((x43, x110.2), A112), ha121.sub trivial, ⟨rfl, hH, hr98⟩⟩
              rintro ⟨s97, A102⟩ w99 ⟨rfl, hH103, hk100⟩ a ha101
              rw [Lp.andThen_fin] at ho81
              replace hK := Tr.trans (Dw := Dw) hK hk100
              replace hr51 := Tr.trans (Dw := Dw) hr51 hk100
              replace hr67 := Tr.trans (Dw := Dw) hr67 hk100
              replace hr75 := Tr.trans (Dw := Dw) hr75 hk100
              replace hr83 := Tr.trans (Dw := Dw) hr83 hk100
              replace hB := Nat.le_trans hB hk100.ex.size
              replace hA := hk100.new
              replace hH : Hp B A102 w99 (obC b7 [.int .i64 s97.1.from_, .int .i64 s97.1.to_] 29 :: yield_Y s97.2 :: obO l38 (.loop { rc39 with state := .busy }) :: L42) := hH103
              obtain rfl := Option.some.inj ho81
              exact ⟨((s97.1, s97.2), A102), ha101.sub trivial, ⟨rfl, hH, hr83⟩⟩
          rintro ⟨s82, A87⟩ w84 ⟨rfl, hH88, hk85⟩ a ha86
          rw [Lp.andThen_fin] at ho73
          replace hK := Tr.trans (Dw := Dw) hK hk85
          replace hr51 := Tr.trans (Dw := Dw) hr51 hk85
          replace hr67 := Tr.trans (Dw := Dw) hr67 hk85
          replace hr75 := Tr.trans (Dw := Dw) hr75 hk85
          replace hB := Nat.le_trans hB hk85.ex.size
          replace hA := hk85.new
          replace hH : Hp B A87 w84 (obC b7 [.int .i64 s82.1.from_, .int .i64 s82.1.to_] 29 :: yield_Y s82.2 :: obO l38 (.loop { rc39 with state := .busy }) :: L42) := hH88
          obtain rfl := Option.some.inj ho73
          exact ⟨((s82.1, s82.2), A87), ha86.sub trivial, ⟨rfl, hH, hr75⟩⟩
        rintro ⟨s74, A79⟩ w76 ⟨rfl, hH80, hk77⟩ a ha78
        rw [Lp.andThen_fin] at ho65
        replace hK := Tr.trans (Dw := Dw) hK hk77
        replace hr51 := Tr.trans (Dw := Dw) hr51 hk77
        replace hr67 := Tr.trans (Dw := Dw) hr67 hk77
        replace hB := Nat.le_trans hB hk77.ex.size
        replace hA := hk77.new
        replace hH : Hp B A79 w76 (obC b7 [.int .i64 s74.1.from_, .int .i64 s74.1.to_] 29 :: yield_Y s74.2 :: obO l38 (.loop { rc39 with state := .busy }) :: L42) := hH80
        obtain rfl := Option.some.inj ho65
        exact ⟨((s74.1, s74.2), A79), ha78.sub trivial, ⟨rfl, hH, hr67⟩⟩
      rintro ⟨s66, A71⟩ w68 ⟨rfl, hH72, hk69⟩ a ha70
      rw [Lp.andThen_fin] at h50
      replace hK := Tr.trans (Dw := Dw) hK hk69
      replace hr51 := Tr.trans (Dw := Dw) hr51 hk69
      replace hB := Nat.le_trans hB hk69.ex.size
      replace hA := hk69.new
      replace hH : Hp B A71 w68 (obC b7 [.int .i64 s66.1.from_, .int .i64 s66.1.to_] 29 :: yield_Y s66.2 :: obO l38 (.loop { rc39 with state := .busy }) :: L42) := hH72
      obtain ⟨rfl, rfl⟩ := Prod.mk.inj (Option.some.inj h50)
      exact ⟨rfl, A71, hr51, Hp.pack (F := fun (i : Unit) => [obC b7 [.int .i64 (s66.1, s66.2).1.from_, .int .i64 (s66.1, s66.2).1.to_] 29, yield_Y (s66.1, s66.2).2]) () hH⟩
    · intro hc131 D126 w127 A128 ht129 hH130 a ha132
      exact ⟨(D126, A128), ha132.sub ⟨rfl, rfl, trivial⟩, (by rw [hc131]; simp), hH130, ht129⟩
    · intro k133 hc131 D126 w127 A128 ht129 hH130
      by_cases hc134 : k133 = 0
      · subst hc134
        rw [if_pos hc131] at hm
        obtain ⟨_, hH130⟩ := Hp.open hH130
        replace hK := Tr.trans (Dw := Dw) hK ht129
        replace hB := Nat.le_trans hB ht129.ex.size
        replace hA := ht129.new
        replace hH : Hp B A128 w127 (obC b7 [.int .i64 z33.1.1.from_, .int .i64 z33.1.1.to_] 29 :: yield_Y z33.1.2 :: obO D126 (.deferred (some [])) :: L) := hH130
        show C _ _ .ret _ _ _
        obtain rfl := Option.some.inj hm
        have h135 := Hp.obj hH (i := 2) (b := D126) rfl
        obtain ⟨hH136, ht137⟩ := Hp.put (Dw := Dw) (.deferred none) hH (i := 2) (b := D126) rfl hB hA
        replace hK := Tr.trans (Dw := Dw) hK ht137
        replace hB := Nat.le_trans hB ht137.ex.size
        replace hA := ht137.new
        replace hH : Hp B A128 (World.putObj w127 D126 (.deferred none)) (obC b7 [.int .i64 z33.1.1.from_, .int .i64 z33.1.1.to_] 29 :: yield_Y z33.1.2 :: obO D126 (.deferred none) :: L) := hH136
        replace hH : Hp B A128 (World.putObj w127 D126 (.deferred none)) (yield_Y z33.1.2 :: obC b7 [.int .i64 z33.1.1.from_, .int .i64 z33.1.1.to_] 29 :: obO D126 (.deferred none) :: L) := Hp.front hH (i := 1) rfl
        replace hH : Hp B A128 (World.putObj w127 D126 (.deferred none)) (yield_Y z33.1.2 :: obO D126 (.deferred none) :: L) := Hp.drop hH (i := 1) rfl
        replace hH : Hp B A128 (World.putObj w127 D126 (.deferred none)) (yield_Y z33.1.2 :: L) := Hp.drop hH (i := 1) rfl
        refine C_ret ?_
        try simp only [↓inBlock_ret, ↓then_ret]
        exact retM1 rfl h135 (Res.zero Try.results23) ⟨A128, rfl, hH, hK⟩
      · show C _ _ (if k133 = 0 then _ else _) _ _ _
        rw [if_neg hc134]
        refine C_exit fun a ha132 => ?_
        show Exit.inBlock _ _ _ _ _
        rw [Exit.inBlock, if_pos rfl]
        exact ⟨(D126, A128), ha132.sub ⟨rfl, rfl, trivial⟩, (by rw [hc131]; simpa using hc134), hH130, ht129⟩
  rintro ⟨D126, A128⟩ w127 ⟨hc138, hH130, ht129⟩ a ha132
  rw [if_neg hc138] at hm
  obtain ⟨_, hH130⟩ := Hp.open hH130
  replace h5 := Vb.tr (Dw := Dw) h5 ht129
  replace hK := Tr.trans (Dw := Dw) hK ht129
  replace hB := Nat.le_trans hB ht129.ex.size
  replace hA := ht129.new
  replace hH : Hp B A128 w127 (obC b7 [.int .i64 z33.1.1.from_, .int .i64 z33.1.1.to_] 29 :: yield_Y z33.1.2 :: obO D126 (.deferred (some [])) :: L) := hH130
  refine C_at (n := ⟨41, [{ target := .collected D126, args := #[] }], none⟩) (fun _ _ => rfl) ?_ ha132
  refine C_seq ?_
  refine C_region ?_
  refine V_y (Y_fieldAddrC (off2 := 0) Try.underlying29 rfl Try.sizeOf3 (by decide) rfl rfl) rfl rfl rfl ?_
  refine V_y (Y_load (Hp.cell (j := 0) hH (i := 0) rfl rfl) Try.isAgg3 rfl) rfl rfl rfl ?_
  refine V_y (Y_geq rfl rfl) rfl rfl rfl ?_
  refine V_to (fun _ _ => rfl) ?_
  obtain ⟨s140, ho139, hm⟩ := Option.bind_eq_some_iff.1 hm
  refine C_cutG (ι := (Nat → Prop)) (fun (A145 : (Nat → Prop)) => []) (fun (A145 : (Nat → Prop)) => fun w' => Hp B A145 w' (obC b7 [.int .i64 z33.1.1.from_, .int .i64 z33.1.1.to_] 29 :: yield_Y s140 :: obO D126 (.deferred (some [])) :: L) ∧ Tr Dw B A128 w127 A145 w') ?_ ?_
  · have hr141 : Tr Dw B A128 w127 A128 w127 := Tr.refl (Dw := Dw) hA
    refine C_cond rfl (fun hc147 => ?_) (fun hc147 => ?_)
    · rw [if_pos hc147] at ho139
      refine C_region ?_
      refine V_y (Y_load h5.2.2 Try.isAgg59 rfl) rfl rfl rfl ?_
      refine V_y (Y_loadA (Hp.part (off := 0) (n := 2) (ds := [.int .i64 z33.1.1.from_, .int .i64 z33.1.1.to_]) hH (i := 0) rfl rfl) Try.isAgg29 Try.sizeOf29 rfl) rfl rfl rfl ?_
      obtain ⟨x148, hx148, ho139⟩ := Option.bind_eq_some_iff.1 ho139
      replace hH : Hp B A128 w127 (yield_Y z33.1.2 :: obC b7 [.int .i64 z33.1.1.from_, .int .i64 z33.1.1.to_] 29 :: obO D126 (.deferred (some [])) :: L) := Hp.front hH (i := 1) rfl
      refine V_callV rfl rfl rfl (yield_spec w127 _ _ z33.1.1 _ x148.1 x148.2 hB hA hK hH hx148) ?_
      rintro _ w149 ⟨rfl, A150, ht152, hH151⟩
      replace h5 := Vb.tr (Dw := Dw) h5 ht152
      replace hK := Tr.trans (Dw := Dw) hK ht152
      replace hr141 := Tr.trans (Dw := Dw) hr141 ht152
      replace hB := Nat.le_trans hB ht152.ex.size
      replace hA := ht152.new
      replace hH : Hp B A150 w149 (yield_Y x148.2 :: obC b7 [.int .i64 z33.1.1.from_, .int .i64 z33.1.1.to_] 29 :: obO D126 (.deferred (some [])) :: L) := hH151
      obtain rfl := Option.some.inj ho139
      refine V_end (fun a ha153 => ?_)
      replace hH : Hp B A150 w149 (obO D126 (.deferred (some [])) :: yield_Y x148.2 :: obC b7 [.int .i64 z33.1.1.from_, .int .i64 z33.1.1.to_] 29 :: L) := Hp.front hH (i := 2) rfl
      replace hH : Hp B A150 w149 (yield_Y x148.2 :: obO D126 (.deferred (some [])) :: obC b7 [.int .i64 z33.1.1.from_, .int .i64 z33.1.1.to_] 29 :: L) := Hp.front hH (i := 1) rfl
      replace hH : Hp B A150 w149 (obC b7 [.int .i64 z33.1.1.from_, .int .i64 z33.1.1.to_] 29 :: yield_Y x148.2 :: obO D126 (.deferred (some [])) :: L) := Hp.front hH (i := 2) rfl
      exact ⟨A150, ha153.sub trivial, ⟨hH, hr141⟩⟩
    · rw [if_neg (nt hc147)] at ho139
      obtain rfl := Option.some.inj ho139
      refine C_skip (fun a ha154 => ?_)
      exact ⟨A128, ha154.sub trivial, ⟨hH, hr141⟩⟩
  rintro A145 w142 ⟨hH146, hk143⟩ a ha144
  replace hK := Tr.trans (Dw := Dw) hK hk143
  replace hB := Nat.le_trans hB hk143.ex.size
  replace hA := hk143.new
  replace hH : Hp B A145 w142 (obC b7 [.int .i64 z33.1.1.from_, .int .i64 z33.1.1.to_] 29 :: yield_Y s140 :: obO D126 (.deferred (some [])) :: L) := hH146
  obtain rfl := Option.some.inj hm
  have h156 := Hp.obj hH (i := 2) (b := D126) rfl
  obtain ⟨hH157, ht158⟩ := Hp.put (Dw := Dw) (.deferred none) hH (i := 2) (b := D126) rfl hB hA
  replace hK := Tr.trans (Dw := Dw) hK ht158
  replace hB := Nat.le_trans hB ht158.ex.size
  replace hA := ht158.new
  replace hH : Hp B A145 (World.putObj w142 D126 (.deferred none)) (obC b7 [.int .i64 z33.1.1.from_, .int .i64 z33.1.1.to_] 29 :: yield_Y s140 :: obO D126 (.deferred none) :: L) := hH157
  replace hH : Hp B A145 (World.putObj w142 D126 (.deferred none)) (yield_Y s140 :: obC b7 [.int .i64 z33.1.1.from_, .int .i64 z33.1.1.to_] 29 :: obO D126 (.deferred none) :: L) := Hp.front hH (i := 1) rfl
  replace hH : Hp B A145 (World.putObj w142 D126 (.deferred none)) (yield_Y s140 :: obO D126 (.deferred none) :: L) := Hp.drop hH (i := 1) rfl
  replace hH : Hp B A145 (World.putObj w142 D126 (.deferred none)) (yield_Y s140 :: L) := Hp.drop hH (i := 1) rfl
  try simp only [↓inBlock_ret, ↓then_ret]
  exact normM (retM1 rfl h156 (Res.zero Try.results23) ⟨A145, rfl, hH, hK⟩ a ha144)

set_option maxRecDepth 4000 in
set_option maxHeartbeats 4000000 in
theorem cal_swept_1_c (w : World) {A : Nat → Prop} (hA : ∀ b, w.heap.size ≤ b → A b) (a_ : cal_edge) (b : cal_edge) {r : Int} (hm : cal_swept_1 a_ b = some r) : Ret Try.prog 26 #[.agg #[.int .i64 a_.at_, .int .i64 a_.list_, .int .i64 a_.by_], .agg #[.int .i64 b.at_, .int .i64 b.list_, .int .i64 b.by_]] w fun v w' => v = .int .i64 r ∧ Kp Dw w w' := by
  unfold cal_swept_1 at hm
  refine enter Try.func26 rfl Try.ntmps26 rfl ?_
  have hA0 := hA
  have hB := Nat.le_refl w.heap.size
  have hK : Tr Dw w.heap.size A w A w := Tr.refl (Dw := Dw) hA
  have hH : Hp w.heap.size A w [] := Hp.nil
  refine C_seq ?_
  refine C_region ?_
  refine V_box rfl rfl ?_
  intro b1 w2 h3
  have hk5 := h3.kp (Dw := Dw)
  have h4 : El (α := cal_edge) A w2 b1 0 a_ := h3.el hA ⟨[.int .i64 a_.at_], _, rfl, rfl, ⟨[.int .i64 a_.list_], _, rfl, rfl, rfl⟩⟩
  have ht6 := Kp.tr (Dw := Dw) hk5 hA hB
  replace hH := Hp.kp (Dw := Dw) hH hk5
  replace hK := Tr.trans (Dw := Dw) hK ht6
  replace hB := Nat.le_trans hB ht6.ex.size
  replace hA := ht6.new
  refine V_box rfl rfl ?_
  intro b7 w9 h10
  have hk12 := h10.kp (Dw := Dw)
  have h11 : El (α := cal_edge) A w9 b7 0 b := h10.el hA ⟨[.int .i64 b.at_], _, rfl, rfl, ⟨[.int .i64 b.list_], _, rfl, rfl, rfl⟩⟩
  have ht13 := Kp.tr (Dw := Dw) hk12 hA hB
  replace hH := Hp.kp (Dw := Dw) hH hk12
  replace h4 := El.tr (Dw := Dw) h4 ht13
  replace hK := Tr.trans (Dw := Dw) hK ht13
  replace hB := Nat.le_trans hB ht13.ex.size
  replace hA := ht13.new
  refine V_y (Y_assign rfl) rfl rfl rfl ?_
  refine V_to (fun _ _ => rfl) ?_
  refine C_seq ?_
  refine C_region ?_
  have h14 := El_cal_edge_0 h4
  refine V_y (Y_fieldAddr Try.underlying62 rfl Try.sizeOf3 (by decide) rfl) rfl rfl rfl ?_
  refine V_y (Y_load (El.int h14) Try.isAgg3 rfl) rfl rfl rfl ?_
  have h15 := El_cal_edge_0 h11
  refine V_y (Y_fieldAddr Try.underlying62 rfl Try.sizeOf3 (by decide) rfl) rfl rfl rfl ?_
  refine V_y (Y_load (El.int h15) Try.isAgg3 rfl) rfl rfl rfl ?_
  refine V_call Try.call27 rfl rfl rfl rfl (cmp_Compare_int_c w9 a_.at_ b.at_) ?_
  rintro _ _ ⟨rfl, rfl⟩
  refine V_y (Y_assign rfl) rfl rfl rfl ?_
  refine V_to (fun _ _ => rfl) ?_
  obtain rfl := Option.some.inj hm
  refine C_ret ?_
  try simp only [↓inBlock_ret, ↓then_ret]
  exact retQ rfl (Res.one Try.results26 rfl) ⟨rfl, hK.kp⟩

def Try_sf25_ren : Go.Shelf.Ren := ⟨fun | 6 => 25 | 14 => 40 | 15 => 41 | 20 => 51 | 21 => 52 | 22 => 53 | 23 => 54 | 24 => 55 | 25 => 56 | 26 => 57 | 27 => 58 | 28 => 59 | 29 => 60 | 46 => 61 | 47 => 62 | 48 => 63 | 49 => 64 | 50 => 65 | 57 => 66 | n => n, fun | 0 => 0 | 1 => 1 | 2 => 2 | 3 => 3 | 4 => 4 | 5 => 5 | 6 => 6 | 7 => 7 | 8 => 8 | 9 => 9 | 10 => 10 | 11 => 11 | 12 => 12 | 13 => 13 | 14 => 14 | 15 => 15 | 16 => 16 | 17 => 17 | 18 => 18 | 19 => 19 | 20 => 20 | 21 => 21 | 22 => 60 | 23 => 63 | 24 => 62 | 25 => 65 | 27 => 48 | 29 => 64 | 37 => 81 | 38 => 82 | 39 => 83 | 42 => 54 | 44 => 93 | 45 => 94 | 46 => 95 | 47 => 96 | 48 => 97 | 49 => 98 | 50 => 89 | 51 => 99 | 52 => 100 | 53 => 101 | 54 => 102 | 55 => 103 | 66 => 104 | 67 => 105 | 68 => 106 | 69 => 107 | 70 => 108 | 71 => 109 | 76 => 110 | 77 => 69 | 78 => 111 | 81 => 112 | 82 => 113 | 83 => 114 | 84 => 115 | 85 => 116 | 86 => 117 | 87 => 118 | 88 => 119 | 89 => 120 | 90 => 121 | 91 => 122 | 92 => 123 | 93 => 124 | 94 => 125 | 95 => 126 | 96 => 128 | n => n, fun n => n⟩
theorem Try_sf25_lay : Go.Proofs.SlLaysF0.n6 Try.prog Try_sf25_ren := {
  mixed := by kernel_rfl,
  f6 := ⟨ "slices.SortFunc[[]porterslodge/cal.edge,porterslodge/cal.edge]", by kernel_rfl, Try.func25.trans (congrArg some (by kernel_rfl))⟩,
  f14 := ⟨ "slices.pdqsortCmpFunc[porterslodge/cal.edge]", by kernel_rfl, Try.func40.trans (congrArg some (by kernel_rfl))⟩,
  f15 := Try.func41.trans (congrArg some (by kernel_rfl)),
  f20 := ⟨ "slices.insertionSortCmpFunc[porterslodge/cal.edge]", by kernel_rfl, Try.func51.trans (congrArg some (by kernel_rfl))⟩,
  f21 := ⟨ "slices.heapSortCmpFunc[porterslodge/cal.edge]", by kernel_rfl, Try.func52.trans (congrArg some (by kernel_rfl))⟩,
  f22 := ⟨ "slices.breakPatternsCmpFunc[porterslodge/cal.edge]", by kernel_rfl, Try.func53.trans (congrArg some (by kernel_rfl))⟩,
  f23 := ⟨ "slices.choosePivotCmpFunc[porterslodge/cal.edge]", by kernel_rfl, Try.func54.trans (congrArg some (by kernel_rfl))⟩,
  f24 := ⟨ "slices.reverseRangeCmpFunc[porterslodge/cal.edge]", by kernel_rfl, Try.func55.trans (congrArg some (by kernel_rfl))⟩,
  f25 := ⟨ "slices.partialInsertionSortCmpFunc[porterslodge/cal.edge]", by kernel_rfl, Try.func56.trans (congrArg some (by kernel_rfl))⟩,
  f26 := ⟨ "slices.partitionEqualCmpFunc[porterslodge/cal.edge]", by kernel_rfl, Try.func57.trans (congrArg some (by kernel_rfl))⟩,
  f27 := ⟨ "slices.partitionCmpFunc[porterslodge/cal.edge]", by kernel_rfl, Try.func58.trans (congrArg some (by kernel_rfl))⟩,
  f28 := Try.func59.trans (congrArg some (by kernel_rfl)),
  f29 := Try.func60.trans (congrArg some (by kernel_rfl)),
  f46 := ⟨ "slices.siftDownCmpFunc[porterslodge/cal.edge]", by kernel_rfl, Try.func61.trans (congrArg some (by kernel_rfl))⟩,
  f47 := Try.func62.trans (congrArg some (by kernel_rfl)),
  f48 := Try.func63.trans (congrArg some (by kernel_rfl)),
  f49 := ⟨ "slices.medianAdjacentCmpFunc[porterslodge/cal.edge]", by kernel_rfl, Try.func64.trans (congrArg some (by kernel_rfl))⟩,
  f50 := ⟨ "slices.medianCmpFunc[porterslodge/cal.edge]", by kernel_rfl, Try.func65.trans (congrArg some (by kernel_rfl))⟩,
  f57 := ⟨ "slices.order2CmpFunc[porterslodge/cal.edge]", by kernel_rfl, Try.func66.trans (congrArg some (by kernel_rfl))⟩,
  t0 := Try.underlying0,
  a0 := Try.isAgg0,
  z0 := Try.sizeOf0,
  v0 := Try.zeroValue0,
  t3 := Try.underlying3,
  a3 := Try.isAgg3,
  z3 := Try.sizeOf3,
  v3 := Try.zeroValue3,
  t4 := Try.underlying4,
  a4 := Try.isAgg4,
  z4 := Try.sizeOf4,
  v4 := Try.zeroValue4,
  t5 := Try.underlying5,
  a5 := Try.isAgg5,
  z5 := Try.sizeOf5,
  v5 := Try.zeroValue5,
  t9 := Try.underlying9,
  a9 := Try.isAgg9,
  z9 := Try.sizeOf9,
  v9 := Try.zeroValue9,
  t22 := Try.underlying60,
  a22 := Try.isAgg60,
  z22 := Try.sizeOf60,
  v22 := Try.zeroValue60,
  t25 := Try.underlying65,
  a25 := Try.isAgg65,
  z25 := Try.sizeOf65,
  v25 := Try.zeroValue65,
  t39 := Try.underlying83,
  a39 := Try.isAgg83,
  z39 := Try.sizeOf83,
  v39 := Try.zeroValue83,
  t45 := Try.underlying94,
  a45 := Try.isAgg94,
  z45 := Try.sizeOf94,
  v45 := Try.zeroValue94,
  t46 := Try.underlying95,
  a46 := Try.isAgg95,
  z46 := Try.sizeOf95,
  v46 := Try.zeroValue95,
  t50 := Try.underlying89,
  a50 := Try.isAgg89,
  z50 := Try.sizeOf89,
  v50 := Try.zeroValue89,
  t53 := Try.underlying101,
  a53 := Try.isAgg101,
  z53 := Try.sizeOf101,
  v53 := Try.zeroValue101,
  t55 := Try.underlying103,
  a55 := Try.isAgg103,
  z55 := Try.sizeOf103,
  v55 := Try.zeroValue103,
  t66 := Try.underlying104,
  a66 := Try.isAgg104,
  z66 := Try.sizeOf104,
  v66 := Try.zeroValue104,
  t70 := Try.underlying108,
  a70 := Try.isAgg108,
  z70 := Try.sizeOf108,
  v70 := Try.zeroValue108,
  t76 := Try.underlying110,
  a76 := Try.isAgg110,
  z76 := Try.sizeOf110,
  v76 := Try.zeroValue110,
  t77 := Try.underlying69,
  a77 := Try.isAgg69,
  z77 := Try.sizeOf69,
  v77 := Try.zeroValue69 }
theorem Try_sf25 {cmp : cal_edge → cal_edge → Int} {enc : cal_edge → List Value} {l r : List cal_edge} (hrep : ∀ (A : Nat → Prop) (w : World) (cs : List Value) (x : cal_edge), GoT.rep A w cs x → cs = enc x) (hback : ∀ (A : Nat → Prop) (w : World) (x : cal_edge), GoT.rep A w (enc x) x) {g : FuncId} {cb : Array Value} {B : Nat} {A : Nat → Prop} {w : World} {L : List Ob} {i : Nat} {v : Value} (eg : ∀ (args : Array Value) (w : World), (callFunc g args).run Try.prog w = .ok (.enter g args) w) (hcl : ∀ (w1 : World), Tr True B A w A w1 → (∀ b, w1.heap.size ≤ b → A b) → ∀ (x y : cal_edge), Ret Try.prog g (#[.agg (enc x).toArray, .agg (enc y).toArray] ++ cb) w1 fun v w' => v = .int .i64 (cmp x y) ∧ Kp True w1 w') (hH : Hp B A w L) (hi : L[i]? = some (obS (α := cal_edge) 62 v l)) (hB : B ≤ w.heap.size) (hA : ∀ b, w.heap.size ≤ b → A b) (hr : sortFuncP cmp l = some r) : Ret Try.prog 25 #[v, .func (.func g) #[] cb] w fun u w' => u = .tuple #[] ∧ Hp B A w' (L.set i (obS (α := cal_edge) 62 v r)) ∧ Tr Dw B A w A w' :=
  Hp.sortFuncP (Dw := Dw) hrep hback (fun p c w => Go.Proofs.AnyF.slices_SortFunc_none Try_sf25_lay p c _ w) (fun hk hone hO blk off cap d w hc hh hb hs => Go.Proofs.AnyQ.slices_SortFunc_eq Try_sf25_lay _ Try.isAgg62 Try.sizeOf62 enc hk hone cmp hO g cb blk off cap d w eg hc hh hb hs) hcl hH hi hB hA hr

set_option maxRecDepth 4000 in
set_option maxHeartbeats 4000000 in
theorem cal_swept_c (w : World) {A : Nat → Prop} (hA : ∀ b, w.heap.size ≤ b → A b) (lists : (List (List cal_Span))) (v_lists : Value) (h_lists : Sl A w v_lists lists) (wanted : (List Int) → Option Bool) (wanted_f : FuncId) (wanted_a wanted_c : Array Value) (wanted_call : ∀ (args : Array Value) (w : World), (callFunc wanted_f args).run Try.prog w = .ok (.enter wanted_f args) w) (wanted_spec : ∀ (w1 : World) (A1 : Nat → Prop), Tr Dw w.heap.size A w A1 w1 → (∀ b, w1.heap.size ≤ b → A1 b) → ∀ (A2 : Nat → Prop) (y0 : (List Int)) (v1 : Value) (h2 : Sl A2 w1 v1 y0) (r : Bool), wanted y0 = some r → Ret Try.prog wanted_f (wanted_a ++ #[v1] ++ wanted_c) w1 fun v w' => v = .bool r ∧ Kp Dw w1 w') {r : (List cal_Span)} (hm : cal_swept lists wanted = some r) : Ret Try.prog 13 #[v_lists, .func (.func wanted_f) wanted_a wanted_c] w fun v w' => ∃ s0, v = s0 ∧ Ownd 29 w w' s0 r ∧ Kp Dw w w' := by
  unfold cal_swept at hm
  refine enter Try.func13 rfl Try.ntmps13 rfl ?_
  have hA0 := hA
  have hB := Nat.le_refl w.heap.size
  have hK : Tr Dw w.heap.size A w A w := Tr.refl (Dw := Dw) hA
  have hH : Hp w.heap.size A w [] := Hp.nil
  refine C_seq ?_
  refine C_region ?_
  refine V_y (Y_assign rfl) rfl rfl rfl ?_
  refine V_to (fun _ _ => rfl) ?_
  refine C_seq ?_
  refine C_region ?_
  refine V_y (Y_assign rfl) rfl rfl rfl ?_
  refine V_to (fun _ _ => rfl) ?_
  refine C_seq ?_
  refine C_seq ?_
  refine C_region ?_
  refine V_y (Y_move rfl) rfl rfl rfl ?_
  refine V_y (Y_lenSl h_lists rfl Try.underlying47 rfl) rfl rfl rfl ?_
  refine V_y (Y_move rfl) rfl rfl rfl ?_
  refine V_to (fun _ _ => rfl) ?_
  replace hH : Hp w.heap.size A w (obS (α := cal_edge) 62 (.slice none 0 0) ([] : (List cal_edge)) :: []) := Hp.addNil (α := cal_edge) (e := 62) hH
  have hn27 := Sl.le h_lists
  obtain ⟨o3, ho3, hm⟩ := Option.bind_eq_some_iff.1 hm
  refine C_cutG (ι := ((List cal_edge) × Value × (Nat → Prop))) (fun ⟨s4, v10, A12⟩ => [(0, v_lists), (1, .func (.func wanted_f) wanted_a wanted_c), (5, v10)]) (fun ⟨s4, v10, A12⟩ => fun w' => o3 = .fin s4 ∧ Hp w.heap.size A12 w' (obS (α := cal_edge) 62 v10 s4 :: []) ∧ Tr Dw w.heap.size A w A12 w') ?_ ?_
  · refine C_block ?_
    refine C_range ho3 (fun k6 s14 a w' => ∃ i : (Value × (Nat → Prop)), Has ⟨130, [], none⟩ a ([(0, v_lists), (1, .func (.func wanted_f) wanted_a wanted_c), (5, i.1), (16, v_lists), (17, .int .i64 (lists.length : Int)), (18, .int .i64 (k6 : Int))]) ∧ Hp w.heap.size i.2 w' (obS (α := cal_edge) 62 i.1 s14 :: []) ∧ Tr Dw w.heap.size A w i.2 w') (fun a ha => ⟨(.slice none 0 0, A), ha.sub ⟨rfl, rfl, rfl, rfl, rfl, rfl, trivial⟩, ⟨hH, Tr.refl (Dw := Dw) hA⟩⟩) ?_
    rintro K k6 s14 a w15 ⟨⟨v16, A18⟩, ha106, hH19, hr5⟩ hle23 K26 h25
    refine C_of ?_ ha106
    replace h_lists := Sl.tr (Dw := Dw) h_lists hr5
    replace hK := Tr.trans (Dw := Dw) hK hr5
    replace hB := Nat.le_trans hB hr5.ex.size
    replace hA := hr5.new
    replace hH : Hp w.heap.size A18 w15 (obS (α := cal_edge) 62 v16 s14 :: []) := hH19
    refine C_seq (C_region (V_y (Y_lss rfl rfl) rfl rfl rfl (V_to (fun _ _ => rfl) ?_)))
    refine C_seq ?_
    refine C_cond rfl (fun hc28 => ?_) (fun hc28 => ?_)
    · have hlt24 := lt_of_dec hc28
      obtain ⟨x20, h21, h22⟩ := K26 hlt24
      refine C_skip_to (fun _ _ => rfl) ?_
      refine C_seq ?_
      obtain ⟨s30, ho29, h21⟩ := Option.bind_eq_some_iff.1 h21
      refine C_cutG (ι := (Value × (Nat → Prop))) (fun ⟨v32, A37⟩ => [(0, v_lists), (1, .func (.func wanted_f) wanted_a wanted_c), (5, v32), (16, v_lists), (17, .int .i64 (lists.length : Int)), (18, .int .i64 (k6 : Int))]) (fun ⟨v32, A37⟩ => fun w' => Hp w.heap.size A37 w' (obS (α := cal_edge) 62 v32 s30 :: []) ∧ Tr Dw w.heap.size A18 w15 A37 w') ?_ ?_
      · have hr31 : Tr Dw w.heap.size A18 w15 A18 w15 := Tr.refl (Dw := Dw) hA
        refine C_block ?_
        refine C_seq ?_
        refine C_region ?_
        refine V_y (Y_move rfl) rfl rfl rfl ?_
        obtain ⟨x39, hx39, ho29⟩ := Option.bind_eq_some_iff.1 ho29
        refine V_indexAddr h_lists hx39 Try.underlying47 Try.sizeOf23 rfl rfl rfl ?_
        intro b40 o41 h42
        obtain ⟨v43, h44, h45⟩ := El.list h42
        refine V_y (Y_load h44 Try.isAgg23 rfl) rfl rfl rfl ?_
        refine V_y (Y_assign rfl) rfl rfl rfl ?_
        refine V_y (Y_assign rfl) rfl rfl rfl ?_
        refine V_to (fun _ _ => rfl) ?_
        refine C_seq ?_
        refine C_region ?_
        refine V_y (Y_move rfl) rfl rfl rfl ?_
        refine V_y (Y_lenSl h45 rfl Try.underlying23 rfl) rfl rfl rfl ?_
        refine V_y (Y_move rfl) rfl rfl rfl ?_
        refine V_to (fun _ _ => rfl) ?_
        have hn70 := Sl.le h45
        obtain ⟨o46, ho46, ho29⟩ := Option.bind_eq_some_iff.1 ho29
        refine C_cutG (ι := ((List cal_edge) × Value × (Nat → Prop))) (fun ⟨s47, v53, A55⟩ => [(0, v_lists), (1, .func (.func wanted_f) wanted_a wanted_c), (5, v53), (16, v_lists), (17, .int .i64 (lists.length : Int)), (18, .int .i64 (k6 : Int))]) (fun ⟨s47, v53, A55⟩ => fun w' => o46 = .fin s47 ∧ Hp w.heap.size A55 w' (obS (α := cal_edge) 62 v53 s47 :: []) ∧ Tr Dw w.heap.size A18 w15 A55 w') ?_ ?_
        · refine C_block ?_
          refine C_range ho46 (fun k49 s57 a w' => ∃ i : (Value × (Nat → Prop)), Has ⟨130, [], none⟩ a ([(0, v_lists), (1, .func (.func wanted_f) wanted_a wanted_c), (5, i.1), (6, .int .i64 (k6 : Int)), (16, v_lists), (17, .int .i64 (lists.length : Int)), (18, .int .i64 (k6 : Int)), (23, v43), (24, .int .i64 (x39.length : Int)), (25, .int .i64 (k49 : Int))]) ∧ Hp w.heap.size i.2 w' (obS (α := cal_edge) 62 i.1 s57 :: []) ∧ Tr Dw w.heap.size A18 w15 i.2 w') (fun a ha => ⟨(v16, A18), ha.sub ⟨rfl, rfl, rfl, rfl, rfl, rfl, rfl, rfl, rfl, rfl, trivial⟩, ⟨hH, Tr.refl (Dw := Dw) hA⟩⟩) ?_
          rintro K k49 s57 a w58 ⟨⟨v59, A61⟩, ha102, hH62, hr48⟩ hle66 K69 h68
          refine C_of ?_ ha102
          replace h_lists := Sl.tr (Dw := Dw) h_lists hr48
          replace h45 := Sl.tr (Dw := Dw) h45 hr48
          replace hK := Tr.trans (Dw := Dw) hK hr48
          replace hr5 := Tr.trans (Dw := Dw) hr5 hr48
          replace hr31 := Tr.trans (Dw := Dw) hr31 hr48
          replace hB := Nat.le_trans hB hr48.ex.size
          replace hA := hr48.new
          replace hH : Hp w.heap.size A61 w58 (obS (α := cal_edge) 62 v59 s57 :: []) := hH62
          refine C_seq (C_region (V_y (Y_lss rfl rfl) rfl rfl rfl (V_to (fun _ _ => rfl) ?_)))
          refine C_seq ?_
          refine C_cond rfl (fun hc71 => ?_) (fun hc71 => ?_)
          · have hlt67 := lt_of_dec hc71
            obtain ⟨x63, h64, h65⟩ := K69 hlt67
            refine C_skip_to (fun _ _ => rfl) ?_
            refine C_seq ?_
            refine C_block ?_
            refine C_seq ?_
            refine C_region ?_
            obtain ⟨x72, hx72, h64⟩ := Option.bind_eq_some_iff.1 h64
            refine V_indexAddr h45 hx72 Try.underlying23 Try.sizeOf29 rfl rfl rfl ?_
            intro b73 o74 h75
            obtain ⟨h76, _⟩ := El_cal_Span h75
            refine V_y (Y_loadA h76 Try.isAgg29 Try.sizeOf29 rfl) rfl rfl rfl ?_
            refine V_alloc Try.zeroValue29 rfl ?_
            intro b77 w78 h79
            refine V_storeNew h79 Try.sizeOf29 rfl rfl rfl rfl (by exact (List.forall_mem_cons.2 ⟨rfl, (List.forall_mem_cons.2 ⟨rfl, (fun _ h => nomatch h)⟩)⟩)) ?_
            intro w80 h81
            have hk83 := h81.kp (Dw := Dw)
            have h82 : El (α := cal_Span) A61 w80 b77 0 x72 := h81.el hA ⟨[.int .i64 x72.from_], _, rfl, rfl, rfl⟩
            have ht84 := Kp.tr (Dw := Dw) hk83 hA hB
            replace hH := Hp.kp (Dw := Dw) hH hk83
            replace h_lists := Sl.tr (Dw := Dw) h_lists ht84
            replace h45 := Sl.tr (Dw := Dw) h45 ht84
            replace h75 := El.tr (Dw := Dw) h75 ht84
            replace hK := Tr.trans (Dw := Dw) hK ht84
            replace hr5 := Tr.trans (Dw := Dw) hr5 ht84
            replace hr31 := Tr.trans (Dw := Dw) hr31 ht84
            replace hr48 := Tr.trans (Dw := Dw) hr48 ht84
            replace hB := Nat.le_trans hB ht84.ex.size
            replace hA := ht84.new
            refine V_to (fun _ _ => rfl) ?_
            refine C_region ?_
            refine V_y (Y_move rfl) rfl rfl rfl ?_
            have h85 := El_cal_Span_0 h82
            refine V_y (Y_fieldAddr Try.underlying29 rfl Try.sizeOf3 (by decide) rfl) rfl rfl rfl ?_
            refine V_y (Y_load (El.int h85) Try.isAgg3 rfl) rfl rfl rfl ?_
            refine V_y (Y_move rfl) rfl rfl rfl ?_
            refine V_y (Y_build Try.underlying62 Try.zeroValue62 (Try_places62 _ Try.underlying62) rfl (by with_unfolding_all rfl)) rfl rfl rfl ?_
            have h86 := El_cal_Span_1 h82
            refine V_y (Y_fieldAddr Try.underlying29 rfl Try.sizeOf3 (by decide) rfl) rfl rfl rfl ?_
            refine V_y (Y_load (El.int h86) Try.isAgg3 rfl) rfl rfl rfl ?_
            refine V_y (Y_move rfl) rfl rfl rfl ?_
            refine V_y (Y_build Try.underlying62 Try.zeroValue62 (Try_places62 _ Try.underlying62) rfl (by with_unfolding_all rfl)) rfl rfl rfl ?_
            refine V_buildSlice (Dw := Dw) (cells := #[.int .i64 x72.from_, .int .i64 (k6 : Int), .int .i64 1, .int .i64 x72.to_, .int .i64 (k6 : Int), .int .i64 (-1)]) (l := ([(⟨x72.from_, (k6 : Int), 1⟩ : cal_edge), (⟨x72.to_, (k6 : Int), (-1)⟩ : cal_edge)] : List cal_edge)) (len := 2) Try.underlying60 Try.sizeOf62 Try.zeroValue62 rfl (by generalize ((k6 : Int) : Int) = z91; generalize ((-1) : Int) = z92; kernel_rfl) (show (2 * 3 : Nat) ≠ 0 by decide) (show (2 * 3 : Nat) ≤ 2 ^ 24 by decide) hA ⟨[.int .i64 x72.from_, .int .i64 (k6 : Int), .int .i64 1], _, rfl, ⟨[.int .i64 x72.from_], _, rfl, rfl, ⟨[.int .i64 (k6 : Int)], _, rfl, rfl, rfl⟩⟩, ⟨[.int .i64 x72.to_, .int .i64 (k6 : Int), .int .i64 (-1)], _, rfl, ⟨[.int .i64 x72.to_], _, rfl, rfl, ⟨[.int .i64 (k6 : Int)], _, rfl, rfl, rfl⟩⟩, rfl⟩⟩ rfl rfl ?_
            intro v87 w88 hk90 h89
            have ht93 := Kp.tr (Dw := Dw) hk90 hA hB
            replace hH := Hp.kp (Dw := Dw) hH hk90
            replace h_lists := Sl.tr (Dw := Dw) h_lists ht93
            replace h45 := Sl.tr (Dw := Dw) h45 ht93
            replace h82 := El.tr (Dw := Dw) h82 ht93
            replace h85 := El.tr (Dw := Dw) h85 ht93
            replace h86 := El.tr (Dw := Dw) h86 ht93
            replace hK := Tr.trans (Dw := Dw) hK ht93
            replace hr5 := Tr.trans (Dw := Dw) hr5 ht93
            replace hr31 := Tr.trans (Dw := Dw) hr31 ht93
            replace hr48 := Tr.trans (Dw := Dw) hr48 ht93
            replace hB := Nat.le_trans hB ht93.ex.size
            replace hA := ht93.new
            obtain ⟨x94, hx94, h64⟩ := Option.bind_eq_some_iff.1 h64
            refine V_appendH (Dw := Dw) (e := 62) (v := v59) (l := s57) (ti := Try.t62) (bytes := 24) (lim := 5864062014805) hH (i := 0) rfl h89 hx94 Try.underlying60 Try_info62 rfl rfl rfl rfl (by decide) (by decide) (by decide) hB hA rfl rfl rfl ?_
            intro v95 w96 A97 hH98 ht99
            replace h_lists := Sl.tr (Dw := Dw) h_lists ht99
            replace h45 := Sl.tr (Dw := Dw) h45 ht99
            replace h82 := El.tr (Dw := Dw) h82 ht99
            replace h85 := El.tr (Dw := Dw) h85 ht99
            replace h86 := El.tr (Dw := Dw) h86 ht99
            replace h89 := Sl.tr (Dw := Dw) h89 ht99
            replace hK := Tr.trans (Dw := Dw) hK ht99
            replace hr5 := Tr.trans (Dw := Dw) hr5 ht99
            replace hr31 := Tr.trans (Dw := Dw) hr31 ht99
            replace hr48 := Tr.trans (Dw := Dw) hr48 ht99
            replace hB := Nat.le_trans hB ht99.ex.size
            replace hA := ht99.new
            replace hH : Hp w.heap.size A97 w96 (obS (α := cal_edge) 62 v95 x94 :: []) := hH98
            refine V_y (Y_assign rfl) rfl rfl rfl ?_
            refine V_to (fun _ _ => rfl) ?_
            refine C_region ?_
            refine V_y (Y_addI rfl rfl) rfl rfl rfl ?_
            refine V_y (Y_move rfl) rfl rfl rfl ?_
            obtain rfl := Option.some.inj h64
            refine V_end (fun a ha100 => ?_)
            exact ⟨x94, hlt67, h65, ⟨(v95, A97), ha100.sub ⟨rfl, rfl, rfl, rfl, rfl, rfl, rfl, rfl, rfl, (congrArg (fun z => some (Value.int .i64 z)) (w64_succ hlt67 hn70)), trivial⟩, ⟨hH, hr48⟩⟩⟩
          · refine C_exit (fun a ha101 => ?_)
            exact ⟨(s57, v59, A61), ha101.sub ⟨rfl, rfl, rfl, rfl, rfl, rfl, trivial⟩, ⟨(h68 (eq_of_dec hle66 hc71)).symm, hH, hr48⟩⟩
        rintro ⟨s47, v53, A55⟩ w50 ⟨rfl, hH56, hk51⟩ a ha52
        rw [Lp.andThen_fin] at ho29
        replace h_lists := Sl.tr (Dw := Dw) h_lists hk51
        replace hK := Tr.trans (Dw := Dw) hK hk51
        replace hr5 := Tr.trans (Dw := Dw) hr5 hk51
        replace hr31 := Tr.trans (Dw := Dw) hr31 hk51
        replace hB := Nat.le_trans hB hk51.ex.size
        replace hA := hk51.new
        replace hH : Hp w.heap.size A55 w50 (obS (α := cal_edge) 62 v53 s47 :: []) := hH56
        obtain rfl := Option.some.inj ho29
        exact ⟨(v53, A55), ha52.sub ⟨rfl, rfl, rfl, rfl, rfl, rfl, trivial⟩, ⟨hH, hr31⟩⟩
      rintro ⟨v32, A37⟩ w34 ⟨hH38, hk35⟩ a ha36
      replace h_lists := Sl.tr (Dw := Dw) h_lists hk35
      replace hK := Tr.trans (Dw := Dw) hK hk35
      replace hr5 := Tr.trans (Dw := Dw) hr5 hk35
      replace hB := Nat.le_trans hB hk35.ex.size
      replace hA := hk35.new
      replace hH : Hp w.heap.size A37 w34 (obS (α := cal_edge) 62 v32 s30 :: []) := hH38
      refine C_at (n := ⟨130, [], none⟩) (fun _ _ => rfl) ?_ ha36
      refine C_region ?_
      refine V_y (Y_addI rfl rfl) rfl rfl rfl ?_
      refine V_y (Y_move rfl) rfl rfl rfl ?_
      obtain rfl := Option.some.inj h21
      refine V_end (fun a ha104 => ?_)
      exact ⟨s30, hlt24, h22, ⟨(v32, A37), ha104.sub ⟨rfl, rfl, rfl, rfl, rfl, (congrArg (fun z => some (Value.int .i64 z)) (w64_succ hlt24 hn27)), trivial⟩, ⟨hH, hr5⟩⟩⟩
    · refine C_exit (fun a ha105 => ?_)
      exact ⟨(s14, v16, A18), ha105.sub ⟨rfl, rfl, rfl, trivial⟩, ⟨(h25 (eq_of_dec hle23 hc28)).symm, hH, hr5⟩⟩
  rintro ⟨s4, v10, A12⟩ w7 ⟨rfl, hH13, hk8⟩ a ha9
  rw [Lp.andThen_fin] at hm
  replace h_lists := Sl.tr (Dw := Dw) h_lists hk8
  replace hK := Tr.trans (Dw := Dw) hK hk8
  replace hB := Nat.le_trans hB hk8.ex.size
  replace hA := hk8.new
  replace hH : Hp w.heap.size A12 w7 (obS (α := cal_edge) 62 v10 s4 :: []) := hH13
  refine C_at (n := ⟨130, [], none⟩) (fun _ _ => rfl) ?_ ha9
  refine C_seq ?_
  refine C_region ?_
  refine V_y (Y_move rfl) rfl rfl rfl ?_
  obtain ⟨x107, hx107, hm⟩ := Option.bind_eq_some_iff.1 hm
  refine V_call Try.call25 rfl rfl rfl rfl (Try_sf25 (Dw := Dw) (enc := fun x => [.int .i64 x.at_, .int .i64 x.list_, .int .i64 x.by_]) (fun _ _ _ _ h => by obtain ⟨rfl, _⟩ := Rep_cal_edge h; rfl) (fun _ _ x => ⟨[.int .i64 x.at_], _, rfl, rfl, ⟨[.int .i64 x.list_], _, rfl, rfl, rfl⟩⟩) Try.call26 (fun w1 ht1 hA1 x y => (cal_swept_1_c (Dw := True) w1 hA1 x y (r := (cal_swept_1 x y).getD 0) rfl).mono fun _ _ h => ⟨h.1, h.2⟩) hH (i := 0) rfl hB hA hx107) ?_
  rintro _ w108 ⟨rfl, hH109, ht110⟩
  replace h_lists := Sl.tr (Dw := Dw) h_lists ht110
  replace hK := Tr.trans (Dw := Dw) hK ht110
  replace hB := Nat.le_trans hB ht110.ex.size
  replace hA := ht110.new
  replace hH : Hp w.heap.size A12 w108 (obS (α := cal_edge) 62 v10 x107 :: []) := hH109
  refine V_to (fun _ _ => rfl) ?_
  refine C_seq ?_
  refine C_region ?_
  refine V_y (Y_move rfl) rfl rfl rfl ?_
  refine V_y (Y_lenSl h_lists rfl Try.underlying47 rfl) rfl rfl rfl ?_
  obtain ⟨x111, hx111, hm⟩ := Option.bind_eq_some_iff.1 hm
  refine V_makeH (Dw := Dw) (e := 3) (ti := Try.t3) hH hx111 (fun _ _ => rfl) Try.underlying48 Try_info3 rfl rfl rfl (by decide) (by decide) hB hA rfl rfl rfl ?_
  intro v112 w113 A114 hH115 ht116
  replace h_lists := Sl.tr (Dw := Dw) h_lists ht116
  replace hK := Tr.trans (Dw := Dw) hK ht116
  replace hB := Nat.le_trans hB ht116.ex.size
  replace hA := ht116.new
  replace hH : Hp w.heap.size A114 w113 (obS (α := Int) 3 v112 x111 :: obS (α := cal_edge) 62 v10 x107 :: []) := hH115
  refine V_y (Y_assign rfl) rfl rfl rfl ?_
  refine V_to (fun _ _ => rfl) ?_
  refine C_seq ?_
  refine C_region ?_
  refine V_y (Y_assign rfl) rfl rfl rfl ?_
  refine V_to (fun _ _ => rfl) ?_
  refine C_seq ?_
  refine C_seq ?_
  refine C_region ?_
  refine V_y (Y_assign rfl) rfl rfl rfl ?_
  refine V_to (fun _ _ => rfl) ?_
  replace hH : Hp w.heap.size A114 w113 (obS (α := cal_Span) 29 (.slice none 0 0) ([] : (List cal_Span)) :: obS (α := Int) 3 v112 x111 :: obS (α := cal_edge) 62 v10 x107 :: []) := Hp.addNil (α := cal_Span) (e := 29) hH
  obtain ⟨o117, ho117, hm⟩ := Option.bind_eq_some_iff.1 hm
  refine C_cutG (ι := (((List Int) × (List cal_Span) × Int) × Value × Value × (Nat → Prop))) (fun ⟨s118, v124, v126, A128⟩ => [(11, v126)]) (fun ⟨s118, v124, v126, A128⟩ => fun w' => o117 = .fin s118 ∧ Hp w.heap.size A128 w' (obS (α := cal_Span) 29 v126 s118.2.1 :: obS (α := Int) 3 v124 s118.1 :: obS (α := cal_edge) 62 v10 x107 :: []) ∧ Tr Dw w.heap.size A114 w113 A128 w') ?_ ?_
  · refine C_block ?_
    refine C_while ho117 (fun s130 a w' => ∃ i : (Value × Value × (Nat → Prop)), Has ⟨130, [], none⟩ a ([(1, .func (.func wanted_f) wanted_a wanted_c), (5, v10), (10, i.1), (11, i.2.1), (12, .int .i64 s130.2.2)]) ∧ Hp w.heap.size i.2.2 w' (obS (α := cal_Span) 29 i.2.1 s130.2.1 :: obS (α := Int) 3 i.1 s130.1 :: obS (α := cal_edge) 62 v10 x107 :: []) ∧ Tr Dw w.heap.size A114 w113 i.2.2 w') (fun a ha => ⟨(v112, .slice none 0 0, A114), ha.sub ⟨rfl, rfl, rfl, rfl, rfl, trivial⟩, ⟨hH, Tr.refl (Dw := Dw) hA⟩⟩) ?_
    rintro K s130 a w131 ⟨⟨v132, v134, A136⟩, ha311, hH137, hr119⟩ K144
    refine C_of ?_ ha311
    replace hK := Tr.trans (Dw := Dw) hK hr119
    replace hB := Nat.le_trans hB hr119.ex.size
    replace hA := hr119.new
    replace hH : Hp w.heap.size A136 w131 (obS (α := cal_Span) 29 v134 s130.2.1 :: obS (α := Int) 3 v132 s130.1 :: obS (α := cal_edge) 62 v10 x107 :: []) := hH137
    obtain ⟨x138, h139, h140⟩ := K144
    refine C_seq ?_
    refine C_seq ?_
    refine C_region ?_
    refine V_y (Y_move rfl) rfl rfl rfl ?_
    refine V_y (Y_move rfl) rfl rfl rfl ?_
    refine V_y (Y_lenSl (Hp.any (α := cal_edge) (e := 62) (v := v10) (l := x107) hH (i := 2) rfl) rfl Try.underlying60 rfl) rfl rfl rfl ?_
    refine V_y (Y_lss rfl rfl) rfl rfl rfl ?_
    refine V_to (fun _ _ => rfl) ?_
    refine C_cond rfl (fun hc145 => ?_) (fun hc145 => ?_)
    · rw [if_pos hc145] at h139
      refine C_skip_to (fun _ _ => rfl) ?_
      obtain ⟨s147, ho146, h139⟩ := Option.bind_eq_some_iff.1 h139
      refine C_cutG (ι := (Value × Value × (Nat → Prop))) (fun ⟨v149, v151, A156⟩ => [(1, .func (.func wanted_f) wanted_a wanted_c), (5, v10), (10, v149), (11, v151), (12, .int .i64 s147.2.2)]) (fun ⟨v149, v151, A156⟩ => fun w' => Hp w.heap.size A156 w' (obS (α := cal_Span) 29 v151 s147.2.1 :: obS (α := Int) 3 v149 s147.1 :: obS (α := cal_edge) 62 v10 x107 :: []) ∧ Tr Dw w.heap.size A136 w131 A156 w') ?_ ?_
      · have hr148 : Tr Dw w.heap.size A136 w131 A136 w131 := Tr.refl (Dw := Dw) hA
        refine C_block ?_
        refine C_seq ?_
        refine C_region ?_
        refine V_y (Y_move rfl) rfl rfl rfl ?_
        refine V_y (Y_move rfl) rfl rfl rfl ?_
        obtain ⟨x158, hx158, ho146⟩ := Option.bind_eq_some_iff.1 ho146
        refine V_indexAddrH (α := cal_edge) (e := 62) (v := v10) (l := x107) hH (i := 2) rfl hx158 Try.underlying60 Try.sizeOf62 rfl rfl rfl ?_
        intro b159 o160 h161 hl162
        have h163 := El_cal_edge_0 h161
        refine V_y (Y_fieldAddr Try.underlying62 rfl Try.sizeOf3 (by decide) rfl) rfl rfl rfl ?_
        refine V_y (Y_load (El.int h163) Try.isAgg3 rfl) rfl rfl rfl ?_
        refine V_y (Y_assign rfl) rfl rfl rfl ?_
        refine V_to (fun _ _ => rfl) ?_
        refine C_seq ?_
        obtain ⟨o164, ho164, ho146⟩ := Option.bind_eq_some_iff.1 ho146
        refine C_cutG (ι := (((List Int) × Int) × Value × (Nat → Prop))) (fun ⟨s165, v171, A173⟩ => [(1, .func (.func wanted_f) wanted_a wanted_c), (5, v10), (10, v171), (11, v134), (12, .int .i64 s165.2), (13, .int .i64 x158.at_)]) (fun ⟨s165, v171, A173⟩ => fun w' => o164 = .fin s165 ∧ Hp w.heap.size A173 w' (obS (α := cal_Span) 29 v134 s130.2.1 :: obS (α := Int) 3 v171 s165.1 :: obS (α := cal_edge) 62 v10 x107 :: []) ∧ Tr Dw w.heap.size A136 w131 A173 w') ?_ ?_
        · refine C_block ?_
          refine C_while ho164 (fun s175 a w' => ∃ i : (Value × (Nat → Prop)), Has ⟨130, [], none⟩ a ([(1, .func (.func wanted_f) wanted_a wanted_c), (5, v10), (10, i.1), (11, v134), (12, .int .i64 s175.2), (13, .int .i64 x158.at_)]) ∧ Hp w.heap.size i.2 w' (obS (α := cal_Span) 29 v134 s130.2.1 :: obS (α := Int) 3 i.1 s175.1 :: obS (α := cal_edge) 62 v10 x107 :: []) ∧ Tr Dw w.heap.size A136 w131 i.2 w') (fun a ha => ⟨(v132, A136), ha.sub ⟨rfl, rfl, rfl, rfl, rfl, rfl, trivial⟩, ⟨hH, Tr.refl (Dw := Dw) hA⟩⟩) ?_
          rintro K s175 a w176 ⟨⟨v177, A179⟩, ha226, hH180, hr166⟩ K187
          refine C_of ?_ ha226
          replace hK := Tr.trans (Dw := Dw) hK hr166
          replace hr119 := Tr.trans (Dw := Dw) hr119 hr166
          replace hr148 := Tr.trans (Dw := Dw) hr148 hr166
          replace hB := Nat.le_trans hB hr166.ex.size
          replace hA := hr166.new
          replace hH : Hp w.heap.size A179 w176 (obS (α := cal_Span) 29 v134 s130.2.1 :: obS (α := Int) 3 v177 s175.1 :: obS (α := cal_edge) 62 v10 x107 :: []) := hH180
          obtain ⟨x181, h182, h183⟩ := K187
          refine C_seq ?_
          refine C_seq ?_
          refine C_region ?_
          refine V_y (Y_move rfl) rfl rfl rfl ?_
          refine V_y (Y_move rfl) rfl rfl rfl ?_
          refine V_y (Y_lenSl (Hp.any (α := cal_edge) (e := 62) (v := v10) (l := x107) hH (i := 2) rfl) rfl Try.underlying60 rfl) rfl rfl rfl ?_
          refine V_y (Y_lss rfl rfl) rfl rfl rfl ?_
          refine V_y (Y_move rfl) rfl rfl rfl ?_
          obtain ⟨s189, hs189, h182⟩ := Option.bind_eq_some_iff.1 h182
          refine V_cut 8 (fun _ : Unit => [(1, .func (.func wanted_f) wanted_a wanted_c), (5, v10), (10, v177), (11, v134), (12, .int .i64 s175.2), (13, .int .i64 x158.at_), (68, .bool s189)]) (fun _ w' => w176 = w') ?_ ?_
          · simp only [List.take, List.drop]
            rcases Bool.eq_false_or_eq_true (decide (s175.2 < (x107.length : Int))) with hc188 | hc188
            · rw [if_pos hc188] at hs189
              refine V_ge rfl rfl rfl hc188 ?_
              refine V_y (Y_move rfl) rfl rfl rfl ?_
              refine V_ge rfl rfl rfl hc188 ?_
              refine V_y (Y_move rfl) rfl rfl rfl ?_
              refine V_ge rfl rfl rfl hc188 ?_
              obtain ⟨x190, hx190, hs189⟩ := Option.bind_eq_some_iff.1 hs189
              refine V_indexAddrH (α := cal_edge) (e := 62) (v := v10) (l := x107) hH (i := 2) rfl hx190 Try.underlying60 Try.sizeOf62 rfl rfl rfl ?_
              intro b191 o192 h193 hl194
              refine V_ge rfl rfl rfl hc188 ?_
              have h195 := El_cal_edge_0 h193
              refine V_y (Y_fieldAddr Try.underlying62 rfl Try.sizeOf3 (by decide) rfl) rfl rfl rfl ?_
              refine V_ge rfl rfl rfl hc188 ?_
              refine V_y (Y_load (El.int h195) Try.isAgg3 rfl) rfl rfl rfl ?_
              refine V_ge rfl rfl rfl hc188 ?_
              refine V_y (Y_move rfl) rfl rfl rfl ?_
              refine V_ge rfl rfl rfl hc188 ?_
              refine V_y (Y_eql rfl rfl) rfl rfl rfl ?_
              refine V_y (Y_pick_te rfl hc188 rfl) rfl rfl rfl ?_
              obtain rfl := Option.some.inj hs189
              exact V_end fun a ha => ⟨(), ha.sub ⟨rfl, rfl, rfl, rfl, rfl, rfl, rfl, trivial⟩, rfl⟩
            · rw [if_neg (nt hc188)] at hs189
              refine V_gn rfl rfl rfl hc188 rfl rfl rfl ?_
              refine V_gn rfl rfl rfl hc188 rfl rfl rfl ?_
              refine V_gn rfl rfl rfl hc188 rfl rfl rfl ?_
              refine V_gn rfl rfl rfl hc188 rfl rfl rfl ?_
              refine V_gn rfl rfl rfl hc188 rfl rfl rfl ?_
              refine V_gn rfl rfl rfl hc188 rfl rfl rfl ?_
              refine V_gn rfl rfl rfl hc188 rfl rfl rfl ?_
              refine V_y (Y_pick_fe rfl hc188 rfl) rfl rfl rfl ?_
              obtain rfl := Option.some.inj hs189
              exact V_end fun a ha => ⟨(), ha.sub ⟨rfl, rfl, rfl, rfl, rfl, rfl, rfl, trivial⟩, rfl⟩
          simp only [List.take, List.drop]
          rintro _ _ rfl
          refine V_to (fun _ _ => rfl) ?_
          refine C_cond rfl (fun hc196 => ?_) (fun hc196 => ?_)
          · rw [if_pos hc196] at h182
            refine C_skip_to (fun _ _ => rfl) ?_
            refine C_block ?_
            refine C_seq ?_
            refine C_region_qt (Dw := Dw) 15 Try_mixed (by kernel_rfl) ?_
            simp only [List.take, List.drop]
            refine VQ_y (fun w' hw' => Y_move rfl) rfl rfl rfl ?_
            refine VQ_y (fun w' hw' => Y_move rfl) rfl rfl rfl ?_
            refine VQ_y (fun w' hw' => Y_move rfl) rfl rfl rfl ?_
            obtain ⟨x197, hx197, h182⟩ := Option.bind_eq_some_iff.1 h182
            refine VQ_indexAddrH (α := cal_edge) (e := 62) (v := v10) (l := x107) hH (i := 2) rfl hx197 Try.underlying60 Try.sizeOf62 rfl rfl rfl ?_
            intro b198 o199 h200 hl201
            have h202 := El_cal_edge_1 h200
            refine VQ_y (fun w' hw' => Y_fieldAddr Try.underlying62 rfl Try.sizeOf3 (by decide) rfl) rfl rfl rfl ?_
            refine VQ_y (fun w' hw' => Y_load (El.int (El.kp (Dw := Dw) h202 hw')) Try.isAgg3 rfl) rfl rfl rfl ?_
            obtain ⟨x203, hx203, h182⟩ := Option.bind_eq_some_iff.1 h182
            refine VQ_indexAddrH (α := Int) (e := 3) (v := v177) (l := s175.1) hH (i := 1) rfl hx203 Try.underlying48 Try.sizeOf3 rfl rfl rfl ?_
            intro b204 o205 h206 hl207
            refine VQ_y (fun w' hw' => Y_load (El.int (El.kp (Dw := Dw) h206 hw')) Try.isAgg3 rfl) rfl rfl rfl ?_
            refine VQ_y (fun w' hw' => Y_move rfl) rfl rfl rfl ?_
            refine VQ_y (fun w' hw' => Y_move rfl) rfl rfl rfl ?_
            refine VQ_indexAddrH (α := cal_edge) (e := 62) (v := v10) (l := x107) hH (i := 2) rfl hx197 Try.underlying60 Try.sizeOf62 rfl rfl rfl ?_
            intro b208 o209 h210 hl211
            have h212 := El_cal_edge_2 h210
            refine VQ_y (fun w' hw' => Y_fieldAddr Try.underlying62 rfl Try.sizeOf3 (by decide) rfl) rfl rfl rfl ?_
            refine VQ_y (fun w' hw' => Y_load (El.int (El.kp (Dw := Dw) h212 hw')) Try.isAgg3 rfl) rfl rfl rfl ?_
            refine VQ_y (fun w' hw' => Y_addI rfl rfl) rfl rfl rfl ?_
            refine VQ_indexAddrH (α := Int) (e := 3) (v := v177) (l := s175.1) hH (i := 1) rfl hx203 Try.underlying48 Try.sizeOf3 rfl rfl rfl ?_
            intro b213 o214 h215 hl216
            refine VQ_tail (fun w217 hk218 => ?_)
            try simp only [List.take, List.drop]
            have ht219 := Kp.tr (Dw := Dw) hk218 hA hB
            replace hH := Hp.kp (Dw := Dw) hH hk218
            replace h200 := El.kp (Dw := Dw) h200 hk218
            replace h202 := El.kp (Dw := Dw) h202 hk218
            replace h206 := El.kp (Dw := Dw) h206 hk218
            replace h210 := El.kp (Dw := Dw) h210 hk218
            replace h212 := El.kp (Dw := Dw) h212 hk218
            replace h215 := El.kp (Dw := Dw) h215 hk218
            replace hK := Tr.trans (Dw := Dw) hK ht219
            replace hr119 := Tr.trans (Dw := Dw) hr119 ht219
            replace hr148 := Tr.trans (Dw := Dw) hr148 ht219
            replace hr166 := Tr.trans (Dw := Dw) hr166 ht219
            replace hB := Nat.le_trans hB ht219.ex.size
            replace hA := ht219.new
            obtain ⟨x220, hx220, h182⟩ := Option.bind_eq_some_iff.1 h182
            refine V_storeH (Dw := Dw) (α := Int) (e := 3) (v := v177) (l := s175.1) hH (i := 1) rfl hl216 hx220 rfl Try.sizeOf3 rfl hB hA rfl rfl ?_
            intro w221 hH222 ht223
            replace hK := Tr.trans (Dw := Dw) hK ht223
            replace hr119 := Tr.trans (Dw := Dw) hr119 ht223
            replace hr148 := Tr.trans (Dw := Dw) hr148 ht223
            replace hr166 := Tr.trans (Dw := Dw) hr166 ht223
            replace hB := Nat.le_trans hB ht223.ex.size
            replace hA := ht223.new
            replace hH : Hp w.heap.size A179 w221 (obS (α := cal_Span) 29 v134 s130.2.1 :: obS (α := Int) 3 v177 x220 :: obS (α := cal_edge) 62 v10 x107 :: []) := hH222
            refine V_to (fun _ _ => rfl) ?_
            refine C_region ?_
            refine V_y (Y_move rfl) rfl rfl rfl ?_
            refine V_y (Y_addI rfl rfl) rfl rfl rfl ?_
            refine V_y (Y_assign rfl) rfl rfl rfl ?_
            obtain rfl := Option.some.inj h182
            refine V_end (fun a ha224 => ?_)
            exact ⟨(x220, w64 (s175.2 + 1)), h183, ⟨(v177, A179), ha224.sub ⟨rfl, rfl, rfl, rfl, rfl, rfl, trivial⟩, ⟨hH, hr166⟩⟩⟩
          · rw [if_neg (nt hc196)] at h182
            obtain rfl := Option.some.inj h182
            refine C_exit (fun a ha225 => ?_)
            exact ⟨((s175.1, s175.2), v177, A179), ha225.sub ⟨rfl, rfl, rfl, rfl, rfl, rfl, trivial⟩, ⟨h183.symm, hH, hr166⟩⟩
        rintro ⟨s165, v171, A173⟩ w168 ⟨rfl, hH174, hk169⟩ a ha170
        rw [Lp.andThen_fin] at ho146
        replace hK := Tr.trans (Dw := Dw) hK hk169
        replace hr119 := Tr.trans (Dw := Dw) hr119 hk169
        replace hr148 := Tr.trans (Dw := Dw) hr148 hk169
        replace hB := Nat.le_trans hB hk169.ex.size
        replace hA := hk169.new
        replace hH : Hp w.heap.size A173 w168 (obS (α := cal_Span) 29 v134 s130.2.1 :: obS (α := Int) 3 v171 s165.1 :: obS (α := cal_edge) 62 v10 x107 :: []) := hH174
        refine C_at (n := ⟨130, [], none⟩) (fun _ _ => rfl) ?_ ha170
        refine C_seq ?_
        refine C_seq ?_
        obtain ⟨s228, ho227, ho146⟩ := Option.bind_eq_some_iff.1 ho146
        refine C_cutG (ι := (Nat → Prop)) (fun (A233 : (Nat → Prop)) => [(1, .func (.func wanted_f) wanted_a wanted_c), (5, v10), (10, v171), (11, v134), (12, .int .i64 s165.2), (13, .int .i64 x158.at_), (95, .bool s228)]) (fun (A233 : (Nat → Prop)) => fun w' => Hp w.heap.size A233 w' (obS (α := cal_Span) 29 v134 s130.2.1 :: obS (α := Int) 3 v171 s165.1 :: obS (α := cal_edge) 62 v10 x107 :: []) ∧ Tr Dw w.heap.size A173 w168 A233 w') ?_ ?_
        · have hr229 : Tr Dw w.heap.size A173 w168 A173 w168 := Tr.refl (Dw := Dw) hA
          refine C_region ?_
          refine V_y (Y_move rfl) rfl rfl rfl ?_
          refine V_y (Y_move rfl) rfl rfl rfl ?_
          refine V_y (Y_lenSl (Hp.any (α := cal_edge) (e := 62) (v := v10) (l := x107) hH (i := 2) rfl) rfl Try.underlying60 rfl) rfl rfl rfl ?_
          refine V_y (Y_eql rfl rfl) rfl rfl rfl ?_
          refine V_y (Y_move rfl) rfl rfl rfl ?_
          rcases Bool.eq_false_or_eq_true (s165.2 == (x107.length : Int)) with hc235 | hc235
          · rw [if_pos hc235] at ho227
            refine V_gn rfl rfl rfl hc235 rfl rfl rfl ?_
            refine V_gn rfl rfl rfl hc235 rfl rfl rfl ?_
            refine V_gn rfl rfl rfl hc235 rfl rfl rfl ?_
            refine V_gn rfl rfl rfl hc235 rfl rfl rfl ?_
            refine V_y (Y_pick_te rfl hc235 rfl) rfl rfl rfl ?_
            obtain rfl := Option.some.inj ho227
            refine V_end (fun a ha236 => ?_)
            exact ⟨A173, ha236.sub ⟨rfl, rfl, rfl, rfl, rfl, rfl, rfl, trivial⟩, ⟨hH, hr229⟩⟩
          · rw [if_neg (nt hc235)] at ho227
            refine V_ge rfl rfl rfl hc235 ?_
            refine V_y (Y_move rfl) rfl rfl rfl ?_
            refine V_ge rfl rfl rfl hc235 ?_
            refine V_y (Y_move rfl) rfl rfl rfl ?_
            refine V_ge rfl rfl rfl hc235 ?_
            obtain ⟨x237, hx237, ho227⟩ := Option.bind_eq_some_iff.1 ho227
            refine V_call wanted_call rfl rfl rfl rfl (wanted_spec w168 _ hK hA (fun _ => True) s165.1 v171 (Hp.any (α := Int) (e := 3) (v := v171) (l := s165.1) hH (i := 1) rfl) _ hx237) ?_
            rintro _ w238 ⟨rfl, hk239⟩
            have ht240 := Kp.tr (Dw := Dw) hk239 hA hB
            replace hH := Hp.kp (Dw := Dw) hH hk239
            replace hK := Tr.trans (Dw := Dw) hK ht240
            replace hr119 := Tr.trans (Dw := Dw) hr119 ht240
            replace hr148 := Tr.trans (Dw := Dw) hr148 ht240
            replace hr229 := Tr.trans (Dw := Dw) hr229 ht240
            replace hB := Nat.le_trans hB ht240.ex.size
            replace hA := ht240.new
            refine V_ge rfl rfl rfl hc235 ?_
            refine V_y (Y_not rfl) rfl rfl rfl ?_
            refine V_y (Y_pick_fe rfl hc235 rfl) rfl rfl rfl ?_
            obtain rfl := Option.some.inj ho227
            refine V_end (fun a ha241 => ?_)
            exact ⟨A173, ha241.sub ⟨rfl, rfl, rfl, rfl, rfl, rfl, rfl, trivial⟩, ⟨hH, hr229⟩⟩
        rintro A233 w230 ⟨hH234, hk231⟩ a ha232
        replace hK := Tr.trans (Dw := Dw) hK hk231
        replace hr119 := Tr.trans (Dw := Dw) hr119 hk231
        replace hr148 := Tr.trans (Dw := Dw) hr148 hk231
        replace hB := Nat.le_trans hB hk231.ex.size
        replace hA := hk231.new
        replace hH : Hp w.heap.size A233 w230 (obS (α := cal_Span) 29 v134 s130.2.1 :: obS (α := Int) 3 v171 s165.1 :: obS (α := cal_edge) 62 v10 x107 :: []) := hH234
        refine C_at (n := ⟨130, [], none⟩) (fun _ _ => rfl) ?_ ha232
        refine C_cond rfl (fun hc242 => ?_) (fun hc242 => ?_)
        · rw [if_pos hc242] at ho146
          obtain rfl := Option.some.inj ho146
          refine C_exit (fun a ha243 => ?_)
          exact ⟨(v171, v134, A233), ha243.sub ⟨rfl, rfl, rfl, rfl, rfl, trivial⟩, ⟨hH, hr148⟩⟩
        · rw [if_neg (nt hc242)] at ho146
          refine C_skip_to (fun _ _ => rfl) ?_
          refine C_seq ?_
          refine C_region ?_
          refine V_y (Y_move rfl) rfl rfl rfl ?_
          refine V_y (Y_move rfl) rfl rfl rfl ?_
          refine V_y (Y_move rfl) rfl rfl rfl ?_
          obtain ⟨x244, hx244, ho146⟩ := Option.bind_eq_some_iff.1 ho146
          refine V_indexAddrH (α := cal_edge) (e := 62) (v := v10) (l := x107) hH (i := 2) rfl hx244 Try.underlying60 Try.sizeOf62 rfl rfl rfl ?_
          intro b245 o246 h247 hl248
          have h249 := El_cal_edge_0 h247
          refine V_y (Y_fieldAddr Try.underlying62 rfl Try.sizeOf3 (by decide) rfl) rfl rfl rfl ?_
          refine V_y (Y_load (El.int h249) Try.isAgg3 rfl) rfl rfl rfl ?_
          refine V_y (Y_build Try.underlying29 Try.zeroValue29 (Try_places29 _ Try.underlying29) rfl (by with_unfolding_all rfl)) rfl rfl rfl ?_
          refine V_alloc Try.zeroValue29 rfl ?_
          intro b250 w251 h252
          refine V_storeNew h252 Try.sizeOf29 rfl rfl rfl rfl (by exact (List.forall_mem_cons.2 ⟨rfl, (List.forall_mem_cons.2 ⟨rfl, (fun _ h => nomatch h)⟩)⟩)) ?_
          intro w253 h254
          have hk256 := h254.kp (Dw := Dw)
          have h255 : El (α := cal_Span) A233 w253 b250 0 (⟨x158.at_, x244.at_⟩ : cal_Span) := h254.el hA ⟨[.int .i64 x158.at_], _, rfl, rfl, rfl⟩
          have ht257 := Kp.tr (Dw := Dw) hk256 hA hB
          replace hH := Hp.kp (Dw := Dw) hH hk256
          replace h247 := El.kp (Dw := Dw) h247 hk256
          replace h249 := El.kp (Dw := Dw) h249 hk256
          replace hK := Tr.trans (Dw := Dw) hK ht257
          replace hr119 := Tr.trans (Dw := Dw) hr119 ht257
          replace hr148 := Tr.trans (Dw := Dw) hr148 ht257
          replace hB := Nat.le_trans hB ht257.ex.size
          replace hA := ht257.new
          refine V_to (fun _ _ => rfl) ?_
          refine C_seq ?_
          refine C_region ?_
          refine V_y (Y_move rfl) rfl rfl rfl ?_
          refine V_y (Y_lenSl (Hp.any (α := cal_Span) (e := 29) (v := v134) (l := s130.2.1) hH (i := 0) rfl) rfl Try.underlying23 rfl) rfl rfl rfl ?_
          refine V_y (Y_assign rfl) rfl rfl rfl ?_
          refine V_to (fun _ _ => rfl) ?_
          refine C_seq ?_
          refine C_region_q (Dw := Dw) Try_mixed (by kernel_rfl) ?_
          refine VQ_y (fun w' hw' => Y_move rfl) rfl rfl rfl ?_
          refine VQ_y (fun w' hw' => Y_gtr rfl rfl) rfl rfl rfl ?_
          refine VQ_y (fun w' hw' => Y_move rfl) rfl rfl rfl ?_
          obtain ⟨s259, hs259, ho146⟩ := Option.bind_eq_some_iff.1 ho146
          refine VQ_cut 10 (fun _ : Unit => [(1, .func (.func wanted_f) wanted_a wanted_c), (5, v10), (10, v171), (11, v134), (12, .int .i64 s165.2), (14, .pointer (some ⟨b250, 0, none⟩)), (15, .int .i64 (s130.2.1.length : Int)), (117, .bool s259)]) (fun _ => True) ?_ ?_
          · simp only [List.take, List.drop]
            rcases Bool.eq_false_or_eq_true (decide ((0 : Int) < (s130.2.1.length : Int))) with hc258 | hc258
            · rw [if_pos hc258] at hs259
              refine VQ_ge rfl rfl rfl hc258 ?_
              refine VQ_y (fun w' hw' => Y_move rfl) rfl rfl rfl ?_
              refine VQ_ge rfl rfl rfl hc258 ?_
              refine VQ_y (fun w' hw' => Y_move rfl) rfl rfl rfl ?_
              refine VQ_ge rfl rfl rfl hc258 ?_
              refine VQ_y (fun w' hw' => Y_subI rfl rfl) rfl rfl rfl ?_
              refine VQ_ge rfl rfl rfl hc258 ?_
              obtain ⟨x260, hx260, hs259⟩ := Option.bind_eq_some_iff.1 hs259
              refine VQ_indexAddrH (α := cal_Span) (e := 29) (v := v134) (l := s130.2.1) hH (i := 0) rfl hx260 Try.underlying23 Try.sizeOf29 rfl rfl rfl ?_
              intro b261 o262 h263 hl264
              refine VQ_ge rfl rfl rfl hc258 ?_
              have h265 := El_cal_Span_1 h263
              refine VQ_y (fun w' hw' => Y_fieldAddr Try.underlying29 rfl Try.sizeOf3 (by decide) rfl) rfl rfl rfl ?_
              refine VQ_ge rfl rfl rfl hc258 ?_
              refine VQ_y (fun w' hw' => Y_load (El.int (El.kp (Dw := Dw) h265 hw')) Try.isAgg3 rfl) rfl rfl rfl ?_
              refine VQ_ge rfl rfl rfl hc258 ?_
              have h266 := El_cal_Span_0 h255
              refine VQ_y (fun w' hw' => Y_fieldAddr Try.underlying29 rfl Try.sizeOf3 (by decide) rfl) rfl rfl rfl ?_
              refine VQ_ge rfl rfl rfl hc258 ?_
              refine VQ_y (fun w' hw' => Y_load (El.int (El.kp (Dw := Dw) h266 hw')) Try.isAgg3 rfl) rfl rfl rfl ?_
              refine VQ_ge rfl rfl rfl hc258 ?_
              refine VQ_y (fun w' hw' => Y_eql rfl rfl) rfl rfl rfl ?_
              refine VQ_y (fun _ _ => Y_pick_te rfl hc258 rfl) rfl rfl rfl ?_
              obtain rfl := Option.some.inj hs259
              exact VQ_end fun a ha => ⟨(), ha.sub ⟨rfl, rfl, rfl, rfl, rfl, rfl, rfl, rfl, trivial⟩, trivial⟩
            · rw [if_neg (nt hc258)] at hs259
              refine VQ_gn rfl rfl rfl hc258 rfl rfl rfl ?_
              refine VQ_gn rfl rfl rfl hc258 rfl rfl rfl ?_
              refine VQ_gn rfl rfl rfl hc258 rfl rfl rfl ?_
              refine VQ_gn rfl rfl rfl hc258 rfl rfl rfl ?_
              refine VQ_gn rfl rfl rfl hc258 rfl rfl rfl ?_
              refine VQ_gn rfl rfl rfl hc258 rfl rfl rfl ?_
              refine VQ_gn rfl rfl rfl hc258 rfl rfl rfl ?_
              refine VQ_gn rfl rfl rfl hc258 rfl rfl rfl ?_
              refine VQ_gn rfl rfl rfl hc258 rfl rfl rfl ?_
              refine VQ_y (fun _ _ => Y_pick_fe rfl hc258 rfl) rfl rfl rfl ?_
              obtain rfl := Option.some.inj hs259
              exact VQ_end fun a ha => ⟨(), ha.sub ⟨rfl, rfl, rfl, rfl, rfl, rfl, rfl, rfl, trivial⟩, trivial⟩
          simp only [List.take, List.drop]
          rintro _ _
          refine VQ_to (fun _ _ => rfl) (fun w267 hk268 => ?_)
          have ht269 := Kp.tr (Dw := Dw) hk268 hA hB
          replace hH := Hp.kp (Dw := Dw) hH hk268
          replace h255 := El.tr (Dw := Dw) h255 ht269
          replace hK := Tr.trans (Dw := Dw) hK ht269
          replace hr119 := Tr.trans (Dw := Dw) hr119 ht269
          replace hr148 := Tr.trans (Dw := Dw) hr148 ht269
          replace hB := Nat.le_trans hB ht269.ex.size
          replace hA := ht269.new
          obtain ⟨s271, ho270, ho146⟩ := Option.bind_eq_some_iff.1 ho146
          refine C_cutG (ι := (Value × (Nat → Prop))) (fun ⟨v273, A278⟩ => [(1, .func (.func wanted_f) wanted_a wanted_c), (5, v10), (10, v171), (11, v273), (12, .int .i64 s165.2)]) (fun ⟨v273, A278⟩ => fun w' => Hp w.heap.size A278 w' (obS (α := cal_Span) 29 v273 s271 :: obS (α := Int) 3 v171 s165.1 :: obS (α := cal_edge) 62 v10 x107 :: []) ∧ Tr Dw w.heap.size A233 w267 A278 w') ?_ ?_
          · have hr272 : Tr Dw w.heap.size A233 w267 A233 w267 := Tr.refl (Dw := Dw) hA
            refine C_cond rfl (fun hc280 => ?_) (fun hc280 => ?_)
            · rw [if_pos hc280] at ho270
              refine C_region ?_
              refine V_y (Y_move rfl) rfl rfl rfl ?_
              refine V_y (Y_move rfl) rfl rfl rfl ?_
              refine V_y (Y_subI rfl rfl) rfl rfl rfl ?_
              have h281 := El_cal_Span_1 h255
              refine V_y (Y_fieldAddr Try.underlying29 rfl Try.sizeOf3 (by decide) rfl) rfl rfl rfl ?_
              refine V_y (Y_load (El.int h281) Try.isAgg3 rfl) rfl rfl rfl ?_
              obtain ⟨x282, hx282, ho270⟩ := Option.bind_eq_some_iff.1 ho270
              refine V_indexAddrH (α := cal_Span) (e := 29) (v := v134) (l := s130.2.1) hH (i := 0) rfl hx282 Try.underlying23 Try.sizeOf29 rfl rfl rfl ?_
              intro b283 o284 h285 hl286
              have h287 := El_cal_Span_1 h285
              refine V_y (Y_fieldAddr Try.underlying29 rfl Try.sizeOf3 (by decide) rfl) rfl rfl rfl ?_
              obtain ⟨x288, hx288, ho270⟩ := Option.bind_eq_some_iff.1 ho270
              refine V_storeFH (Dw := Dw) (α := cal_Span) (e := 29) (v := v134) (l := s130.2.1) (foff := 1) hH (i := 0) rfl hl286 hx282 hx288 (fun _ h => by obtain ⟨_, _, rfl, rfl, rfl⟩ := h; exact ⟨[_], _, rfl, rfl, rfl⟩) Try.sizeOf3 rfl (by simp [Value.cells, Value.oneCell']) (by decide) hB hA (congrArg (fun z => some (Value.pointer (some ⟨_, z, none⟩))) (by simp [Nat.add_assoc])) rfl ?_
              intro w289 hH290 ht291
              replace h255 := El.tr (Dw := Dw) h255 ht291
              replace h281 := El.tr (Dw := Dw) h281 ht291
              replace hK := Tr.trans (Dw := Dw) hK ht291
              replace hr119 := Tr.trans (Dw := Dw) hr119 ht291
              replace hr148 := Tr.trans (Dw := Dw) hr148 ht291
              replace hr272 := Tr.trans (Dw := Dw) hr272 ht291
              replace hB := Nat.le_trans hB ht291.ex.size
              replace hA := ht291.new
              replace hH : Hp w.heap.size A233 w289 (obS (α := cal_Span) 29 v134 x288 :: obS (α := Int) 3 v171 s165.1 :: obS (α := cal_edge) 62 v10 x107 :: []) := hH290
              obtain rfl := Option.some.inj ho270
              refine V_end (fun a ha292 => ?_)
              exact ⟨(v134, A233), ha292.sub ⟨rfl, rfl, rfl, rfl, rfl, trivial⟩, ⟨hH, hr272⟩⟩
            · rw [if_neg (nt hc280)] at ho270
              refine C_region ?_
              refine V_y (Y_move rfl) rfl rfl rfl ?_
              obtain ⟨h293, _⟩ := El_cal_Span h255
              refine V_y (Y_loadA h293 Try.isAgg29 Try.sizeOf29 rfl) rfl rfl rfl ?_
              refine V_buildSlice (Dw := Dw) (cells := #[.int .i64 ((⟨x158.at_, x244.at_⟩ : cal_Span).from_), .int .i64 ((⟨x158.at_, x244.at_⟩ : cal_Span).to_)]) (l := ([(⟨x158.at_, x244.at_⟩ : cal_Span)] : List cal_Span)) (len := 1) Try.underlying23 Try.sizeOf29 Try.zeroValue29 rfl (by generalize ((⟨x158.at_, x244.at_⟩ : cal_Span).from_ : Int) = z298; generalize ((⟨x158.at_, x244.at_⟩ : cal_Span).to_ : Int) = z299; kernel_rfl) (show (1 * 2 : Nat) ≠ 0 by decide) (show (1 * 2 : Nat) ≤ 2 ^ 24 by decide) hA ⟨[.int .i64 ((⟨x158.at_, x244.at_⟩ : cal_Span).from_), .int .i64 ((⟨x158.at_, x244.at_⟩ : cal_Span).to_)], _, rfl, ⟨[.int .i64 ((⟨x158.at_, x244.at_⟩ : cal_Span).from_)], _, rfl, rfl, rfl⟩, rfl⟩ rfl rfl ?_
              intro v294 w295 hk297 h296
              have ht300 := Kp.tr (Dw := Dw) hk297 hA hB
              replace hH := Hp.kp (Dw := Dw) hH hk297
              replace h255 := El.tr (Dw := Dw) h255 ht300
              replace hK := Tr.trans (Dw := Dw) hK ht300
              replace hr119 := Tr.trans (Dw := Dw) hr119 ht300
              replace hr148 := Tr.trans (Dw := Dw) hr148 ht300
              replace hr272 := Tr.trans (Dw := Dw) hr272 ht300
              replace hB := Nat.le_trans hB ht300.ex.size
              replace hA := ht300.new
              obtain ⟨x301, hx301, ho270⟩ := Option.bind_eq_some_iff.1 ho270
              refine V_appendH (Dw := Dw) (e := 29) (v := v134) (l := s130.2.1) (ti := Try.t29) (bytes := 16) (lim := 8796093022208) hH (i := 0) rfl h296 hx301 Try.underlying23 Try_info29 rfl rfl rfl rfl (by decide) (by decide) (by decide) hB hA rfl rfl rfl ?_
              intro v302 w303 A304 hH305 ht306
              replace h255 := El.tr (Dw := Dw) h255 ht306
              replace h296 := Sl.tr (Dw := Dw) h296 ht306
              replace hK := Tr.trans (Dw := Dw) hK ht306
              replace hr119 := Tr.trans (Dw := Dw) hr119 ht306
              replace hr148 := Tr.trans (Dw := Dw) hr148 ht306
              replace hr272 := Tr.trans (Dw := Dw) hr272 ht306
              replace hB := Nat.le_trans hB ht306.ex.size
              replace hA := ht306.new
              replace hH : Hp w.heap.size A304 w303 (obS (α := cal_Span) 29 v302 x301 :: obS (α := Int) 3 v171 s165.1 :: obS (α := cal_edge) 62 v10 x107 :: []) := hH305
              refine V_y (Y_assign rfl) rfl rfl rfl ?_
              obtain rfl := Option.some.inj ho270
              refine V_end (fun a ha307 => ?_)
              exact ⟨(v302, A304), ha307.sub ⟨rfl, rfl, rfl, rfl, rfl, trivial⟩, ⟨hH, hr272⟩⟩
          rintro ⟨v273, A278⟩ w275 ⟨hH279, hk276⟩ a ha277
          replace hK := Tr.trans (Dw := Dw) hK hk276
          replace hr119 := Tr.trans (Dw := Dw) hr119 hk276
          replace hr148 := Tr.trans (Dw := Dw) hr148 hk276
          replace hB := Nat.le_trans hB hk276.ex.size
          replace hA := hk276.new
          replace hH : Hp w.heap.size A278 w275 (obS (α := cal_Span) 29 v273 s271 :: obS (α := Int) 3 v171 s165.1 :: obS (α := cal_edge) 62 v10 x107 :: []) := hH279
          obtain rfl := Option.some.inj ho146
          exact ⟨(v171, v273, A278), ha277.sub ⟨rfl, rfl, rfl, rfl, rfl, trivial⟩, ⟨hH, hr148⟩⟩
      rintro ⟨v149, v151, A156⟩ w153 ⟨hH157, hk154⟩ a ha155
      replace hK := Tr.trans (Dw := Dw) hK hk154
      replace hr119 := Tr.trans (Dw := Dw) hr119 hk154
      replace hB := Nat.le_trans hB hk154.ex.size
      replace hA := hk154.new
      replace hH : Hp w.heap.size A156 w153 (obS (α := cal_Span) 29 v151 s147.2.1 :: obS (α := Int) 3 v149 s147.1 :: obS (α := cal_edge) 62 v10 x107 :: []) := hH157
      obtain rfl := Option.some.inj h139
      exact ⟨(s147.1, s147.2.1, s147.2.2), h140, ⟨(v149, v151, A156), ha155.sub ⟨rfl, rfl, rfl, rfl, rfl, trivial⟩, ⟨hH, hr119⟩⟩⟩
    · rw [if_neg (nt hc145)] at h139
      obtain rfl := Option.some.inj h139
      refine C_exit (fun a ha310 => ?_)
      exact ⟨((s130.1, s130.2.1, s130.2.2), v132, v134, A136), ha310.sub ⟨rfl, trivial⟩, ⟨h140.symm, hH, hr119⟩⟩
  rintro ⟨s118, v124, v126, A128⟩ w121 ⟨rfl, hH129, hk122⟩ a ha123
  rw [Lp.andThen_fin] at hm
  replace hK := Tr.trans (Dw := Dw) hK hk122
  replace hB := Nat.le_trans hB hk122.ex.size
  replace hA := hk122.new
  replace hH : Hp w.heap.size A128 w121 (obS (α := cal_Span) 29 v126 s118.2.1 :: obS (α := Int) 3 v124 s118.1 :: obS (α := cal_edge) 62 v10 x107 :: []) := hH129
  refine C_at (n := ⟨130, [], none⟩) (fun _ _ => rfl) ?_ ha123
  refine C_seq ?_
  refine C_region ?_
  refine V_y (Y_move rfl) rfl rfl rfl ?_
  refine V_y (Y_assign rfl) rfl rfl rfl ?_
  refine V_to (fun _ _ => rfl) ?_
  obtain rfl := Option.some.inj hm
  refine C_ret ?_
  try simp only [↓inBlock_ret, ↓then_ret]
  exact retQ rfl (Res.one Try.results13 rfl) ⟨v126, rfl, (Hp.ownd hH (i := 0) rfl), hK.kp⟩

set_option maxRecDepth 4000 in
set_option maxHeartbeats 4000000 in
theorem cal_Common_1_c (w : World) {A : Nat → Prop} (hA : ∀ b, w.heap.size ≤ b → A b) (counts : (List Int)) (v_counts : Value) (h_counts : Sl A w v_counts counts) (p1 : Int) (b_p1 : Nat) (h_p1 : El A w b_p1 0 p1) {r : Bool} (hm : cal_Common_1 counts p1 = some r) : Ret Try.prog 14 #[v_counts, .pointer (some ⟨b_p1, 0, none⟩)] w fun v w' => v = .bool r ∧ Kp Dw w w' := by
  unfold cal_Common_1 at hm
  refine enter Try.func14 rfl Try.ntmps14 rfl ?_
  have hA0 := hA
  have hB := Nat.le_refl w.heap.size
  have hK : Tr Dw w.heap.size A w A w := Tr.refl (Dw := Dw) hA
  have hH : Hp w.heap.size A w [] := Hp.nil
  refine C_seq ?_
  refine C_region ?_
  refine V_y (Y_assign rfl) rfl rfl rfl ?_
  refine V_to (fun _ _ => rfl) ?_
  refine C_seq ?_
  refine C_region_q (Dw := Dw) Try_mixed (by kernel_rfl) ?_
  refine VQ_y (fun w' hw' => Y_move rfl) rfl rfl rfl ?_
  obtain ⟨x3, hx3, hm⟩ := Option.bind_eq_some_iff.1 hm
  refine VQ_indexAddr h_counts hx3 Try.underlying48 Try.sizeOf3 rfl rfl rfl ?_
  intro b4 o5 h6
  refine VQ_y (fun w' hw' => Y_load (El.int (El.kp (Dw := Dw) h6 hw')) Try.isAgg3 rfl) rfl rfl rfl ?_
  refine VQ_y (fun w' hw' => Y_load (El.int (El.kp (Dw := Dw) h_p1 hw')) Try.isAgg3 rfl) rfl rfl rfl ?_
  refine VQ_y (fun w' hw' => Y_geq rfl rfl) rfl rfl rfl ?_
  refine VQ_y (fun w' hw' => Y_assign rfl) rfl rfl rfl ?_
  refine VQ_to (fun _ _ => rfl) (fun w7 hk8 => ?_)
  have ht9 := Kp.tr (Dw := Dw) hk8 hA hB
  replace hH := Hp.kp (Dw := Dw) hH hk8
  replace hK := Tr.trans (Dw := Dw) hK ht9
  replace hB := Nat.le_trans hB ht9.ex.size
  replace hA := ht9.new
  obtain rfl := Option.some.inj hm
  refine C_ret ?_
  try simp only [↓inBlock_ret, ↓then_ret]
  exact retQ rfl (Res.one Try.results14 rfl) ⟨rfl, hK.kp⟩

set_option maxRecDepth 4000 in
set_option maxHeartbeats 4000000 in
theorem cal_limited_c (w : World) {A : Nat → Prop} (l : (List cal_Span)) (v_l : Value) (h_l : Sl A w v_l l) : Ret Try.prog 12 #[v_l] w fun v w' => ∃ s0, v = .tuple #[s0, .int .i64 (cal_limited l).2] ∧ Sl A w' s0 (cal_limited l).1 ∧ w = w' := by
  generalize hm : cal_limited l = r
  unfold cal_limited at hm
  refine enter Try.func12 rfl Try.ntmps12 rfl ?_
  refine C_seq ?_
  refine C_region ?_
  refine V_y (Y_assign rfl) rfl rfl rfl ?_
  refine V_y (Y_assign rfl) rfl rfl rfl ?_
  refine V_to (fun _ _ => rfl) ?_
  refine C_seq ?_
  refine C_seq ?_
  refine C_region ?_
  refine V_y (Y_move rfl) rfl rfl rfl ?_
  refine V_y (Y_lenSl h_l rfl Try.underlying23 rfl) rfl rfl rfl ?_
  refine V_y (Y_gtr rfl rfl) rfl rfl rfl ?_
  refine V_to (fun _ _ => rfl) ?_
  refine C_cond rfl (fun hc3 => ?_) (fun hc3 => ?_)
  · rw [if_pos hc3] at hm
    refine C_seq ?_
    refine C_region ?_
    refine V_y (Y_assign rfl) rfl rfl rfl ?_
    refine V_y (Y_assign rfl) rfl rfl rfl ?_
    refine V_to (fun _ _ => rfl) ?_
    obtain rfl := hm
    refine C_ret ?_
    try simp only [↓inBlock_ret, ↓then_ret]
    exact retQ rfl (Res.two Try.results12 rfl rfl) ⟨.slice none 0 0, rfl, Sl.nil, rfl⟩
  · rw [if_neg (nt hc3)] at hm
    refine C_skip_to (fun _ _ => rfl) ?_
    refine C_seq ?_
    refine C_region ?_
    refine V_y (Y_move rfl) rfl rfl rfl ?_
    refine V_y (Y_assign rfl) rfl rfl rfl ?_
    refine V_y (Y_assign rfl) rfl rfl rfl ?_
    refine V_to (fun _ _ => rfl) ?_
    obtain rfl := hm
    refine C_ret ?_
    try simp only [↓inBlock_ret, ↓then_ret]
    exact retQ rfl (Res.two Try.results12 rfl rfl) ⟨v_l, rfl, h_l, rfl⟩

end Go.Proofs.Ytoflhekllembeaa.W
