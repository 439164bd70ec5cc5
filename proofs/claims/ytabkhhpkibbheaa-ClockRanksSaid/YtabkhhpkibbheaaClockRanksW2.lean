import Derived.Test.YtabkhhpkibbheaaClockRanksW1
namespace Go.Proofs.Ytabkhhpkibbheaa.W
open Go Go.RowKit Go.Pu Go.Gw Go.Proofs Go.Proofs.Ytabkhhpkibbheaa.M
set_option linter.unusedVariables false
set_option linter.unusedSimpArgs false
variable {Dw : Prop}
set_option maxRecDepth 4000 in
set_option maxHeartbeats 4000000 in
theorem cal_Calendar_open_1_c (w : World) {A : Nat → Prop} {B : Nat} (hB : B ≤ w.heap.size) (hA : ∀ b, w.heap.size ≤ b → A b) {yield_S : Type} (yield : cal_Span → yield_S → Option (Bool × yield_S)) (yield_Y : yield_S → Ob) (yield_v : Value) (yield_one : yield_v.cells.toList = [yield_v]) (yield_s : yield_S) (yield_spec : ∀ (w2 : World) (A2 : Nat → Prop) (L2 : List Ob) (x : cal_Span) (z : yield_S) (b : Bool) (z2 : yield_S), B ≤ w2.heap.size → (∀ b, w2.heap.size ≤ b → A2 b) → Tr Dw B A w A2 w2 → Hp B A2 w2 (yield_Y z :: L2) → yield x z = some (b, z2) → CallV Try.prog yield_v [.agg #[.int .i64 x.from_, .int .i64 x.to_]] w2 fun v w3 => v = .bool b ∧ ∃ A3, Tr Dw B A2 w2 A3 w3 ∧ Hp B A3 w3 (yield_Y z2 :: L2)) (p1 : cal_Calendar) (b_p1 : Nat) (h_p1 : El A w b_p1 0 p1) (p2 : Int) (b_p2 : Nat) (h_p2 : El A w b_p2 0 p2) (p3 : Int) (b_p3 : Nat) (h_p3 : El A w b_p3 0 p3) {L : List Ob} (hH : Hp B A w (yield_Y yield_s :: L)) {r : yield_S} (hm : cal_Calendar_open_1 yield yield_s p1 p2 p3 = some r) : Ret Try.prog 68 #[yield_v, .pointer (some ⟨b_p1, 0, none⟩), .pointer (some ⟨b_p2, 0, none⟩), .pointer (some ⟨b_p3, 0, none⟩)] w fun v w' => ∃ A1 : Nat → Prop, v = .tuple #[] ∧ Hp B A1 w' (yield_Y r :: L) ∧ Tr Dw B A w A1 w' := by
 unfold cal_Calendar_open_1 at hm
 refine enterM Try.func68 rfl Try.ntmps68 rfl ?_
 have hK : Tr Dw B A w A w := Tr.refl (Dw := Dw) hA
 refine C_seq ?_
 refine C_region ?_
 refine V_box rfl rfl ?_
 intro b1 w2 h3
 have hk4 := h3.kp (Dw := Dw)
 have h5 : Vb A w2 b1 yield_v := h3.vb hA yield_one
 have ht6 := Kp.tr (Dw := Dw) hk4 hA hB
 replace hH := Hp.kp (Dw := Dw) hH hk4
 replace h_p1 := El.tr (Dw := Dw) h_p1 ht6
 replace h_p2 := El.tr (Dw := Dw) h_p2 ht6
 replace h_p3 := El.tr (Dw := Dw) h_p3 ht6
 replace hK := Tr.trans (Dw := Dw) hK ht6
 replace hB := Nat.le_trans hB ht6.ex.size
 replace hA := ht6.new
 refine V_to (fun _ _ => rfl) ?_
 refine C_seq ?_
 refine C_region ?_
 refine V_y (Y_build Try.underlying88 Try.zeroValue88 (Try_places88 _ Try.underlying88) rfl (by with_unfolding_all rfl)) rfl rfl rfl ?_
 refine V_allocH (Dw := Dw) (B := B) hH Try.zeroValue88 hB hA rfl ?_
 intro b7 w9 A10 hH11 ht12
 replace h_p1 := El.tr (Dw := Dw) h_p1 ht12
 replace h_p2 := El.tr (Dw := Dw) h_p2 ht12
 replace h_p3 := El.tr (Dw := Dw) h_p3 ht12
 replace h5 := Vb.tr (Dw := Dw) h5 ht12
 replace hK := Tr.trans (Dw := Dw) hK ht12
 replace hB := Nat.le_trans hB ht12.ex.size
 replace hA := ht12.new
 replace hH : Hp B A10 w9 (obC b7 [.int .i64 0, .int .i64 0] 88 :: yield_Y yield_s :: L) := hH11
 refine V_storeC (Dw := Dw) (off := 0) (ds := [.int .i64 (-1), .int .i64 (-1)]) hH (i := 0) rfl Try.sizeOf88 rfl (Nat.le_of_ble_eq_true rfl) (by simp [Value.cells, Value.oneCell']) rfl hB hA rfl rfl ?_
 intro w13 hH14 ht15
 replace h_p1 := El.tr (Dw := Dw) h_p1 ht15
 replace h_p2 := El.tr (Dw := Dw) h_p2 ht15
 replace h_p3 := El.tr (Dw := Dw) h_p3 ht15
 replace h5 := Vb.tr (Dw := Dw) h5 ht15
 replace hK := Tr.trans (Dw := Dw) hK ht15
 replace hB := Nat.le_trans hB ht15.ex.size
 replace hA := ht15.new
 replace hH : Hp B A10 w13 (obC b7 [.int .i64 (-1), .int .i64 (-1)] 88 :: yield_Y yield_s :: L) := hH14
 refine V_to (fun _ _ => rfl) ?_
 refine C_seq ?_
 refine C_seq ?_
 refine C_region ?_
 obtain ⟨v16, v18, v20, h22, h17, h19, h21⟩ := El_cal_Calendar h_p1
 refine V_y (Y_loadA h22 Try.isAgg58 Try.sizeOf58 rfl) rfl rfl rfl ?_
 refine V_y (Y_load (El.int h_p2) Try.isAgg3 rfl) rfl rfl rfl ?_
 refine V_y (Y_load (El.int h_p3) Try.isAgg3 rfl) rfl rfl rfl ?_
 obtain ⟨x23, hx23, hm⟩ := Option.bind_eq_some_iff.1 hm
 refine V_call Try.call69 rfl rfl rfl rfl (cal_Calendar_shifts_c (Dw := Dw) w13 hA p1 v16 h17 v18 h19 v20 h21 p2 p3 hx23) ?_
 rintro _ w30 ⟨b24, b26, b28, rfl, h25, h27, h29, hk31⟩
 have ht32 := Kp.tr (Dw := Dw) hk31 hA hB
 replace hH := Hp.kp (Dw := Dw) hH hk31
 replace h5 := Vb.tr (Dw := Dw) h5 ht32
 replace hK := Tr.trans (Dw := Dw) hK ht32
 replace hB := Nat.le_trans hB ht32.ex.size
 replace hA := ht32.new
 refine V_to (fun _ _ => rfl) ?_
 have hH37 : Hp B A10 w30 ((fun (s34 : (cal_Span × yield_S)) => obE (fun (i : Unit) => [obC b7 [.int .i64 s34.1.from_, .int .i64 s34.1.to_] 88, yield_Y s34.2])) ((⟨(-1), (-1)⟩ : cal_Span), yield_s) :: L) := Hp.pack (F := fun (i : Unit) => [obC b7 [.int .i64 ((⟨(-1), (-1)⟩ : cal_Span), yield_s).1.from_, .int .i64 ((⟨(-1), (-1)⟩ : cal_Span), yield_s).1.to_] 88, yield_Y ((⟨(-1), (-1)⟩ : cal_Span), yield_s).2]) () hH
 obtain ⟨z33, hz33, hm⟩ := Option.bind_eq_some_iff.1 hm
 refine C_cutN (ι := Nat × (Nat → Prop)) (fun i => ⟨41, [{ target := .collected i.1, args := #[] }], none⟩) (fun i => [(4, .pointer (some ⟨b1, 0, none⟩)), (5, .pointer (some ⟨b7, 0, none⟩))]) (fun i w' => z33.2 ≠ some 0 ∧ Hp B i.2 w' ((fun (s34 : (cal_Span × yield_S)) => obE (fun (i : Unit) => [obC b7 [.int .i64 s34.1.from_, .int .i64 s34.1.to_] 88, yield_Y s34.2])) z33.1 :: obO i.1 (.deferred (some [])) :: L) ∧ Tr Dw B A10 w30 i.2 w') ?_ ?_
 ·refine C_block ?_
  refine C_rangeFunc (Dw := Dw) (B := B) (A := A10) (L := L) (X := cal_Span) (fun (x43 : cal_Span) => [.agg #[.int .i64 x43.from_, .int .i64 x43.to_]]) (fun (s34 : (cal_Span × yield_S)) => obE (fun (i : Unit) => [obC b7 [.int .i64 s34.1.from_, .int .i64 s34.1.to_] 88, yield_Y s34.2])) (fun (x43 : cal_Span) (s35 : (cal_Span × yield_S)) => Option.bind (α := Lp _ _) (Option.bind (α := Lp _ _) (Option.bind (α := Lp _ _) (if (decide (s35.1.from_ < 0)) = true then some (.fin (x43, s35.2)) else Option.bind (α := Lp _ _) (if (decide (x43.from_ ≤ s35.1.to_)) = true then some (.fin ((⟨s35.1.from_, (if s35.1.to_ < x43.to_ then x43.to_ else s35.1.to_)⟩ : cal_Span), s35.2)) else Option.bind (yield s35.1 s35.2) fun x110 => if (!x110.1) = true then some (.rt ((s35.1, x110.2), some 0)) else some (.fin (x43, x110.2))) fun o96 => o96.andThen (fun y => some (.rt y)) fun s97 => some (.fin (s97.1, s97.2))) fun o81 => o81.andThen (fun y => some (.rt y)) fun s82 => some (.fin (s82.1, s82.2))) fun o73 => o73.andThen (fun y => some (.rt y)) fun s74 => some (.fin (s74.1, s74.2))) fun o65 => o65.andThen (fun y => some y) fun s66 => some ((s66.1, s66.2), none)) (fun k => if k = 0 then .ret else .exit 0) (s0 := ((⟨(-1), (-1)⟩ : cal_Span), yield_s)) (zf := z33) rfl rfl rfl (by decide) (fun _ => rfl) hB hA hH37 80 _ rfl Try.call80 ?_ ?_ ?_ ?_
  ·intro Ys yv w1 A1 L1 h1 h2 h3 h4 h0 h5
   exact (cal_Calendar_shifts_1_c (Dw := Dw) w1 h1 h2 (yieldB (fun (x43 : cal_Span) (s35 : (cal_Span × yield_S)) => Option.bind (α := Lp _ _) (Option.bind (α := Lp _ _) (Option.bind (α := Lp _ _) (if (decide (s35.1.from_ < 0)) = true then some (.fin (x43, s35.2)) else Option.bind (α := Lp _ _) (if (decide (x43.from_ ≤ s35.1.to_)) = true then some (.fin ((⟨s35.1.from_, (if s35.1.to_ < x43.to_ then x43.to_ else s35.1.to_)⟩ : cal_Span), s35.2)) else Option.bind (yield s35.1 s35.2) fun x110 => if (!x110.1) = true then some (.rt ((s35.1, x110.2), some 0)) else some (.fin (x43, x110.2))) fun o96 => o96.andThen (fun y => some (.rt y)) fun s97 => some (.fin (s97.1, s97.2))) fun o81 => o81.andThen (fun y => some (.rt y)) fun s82 => some (.fin (s82.1, s82.2))) fun o73 => o73.andThen (fun y => some (.rt y)) fun s74 => some (.fin (s74.1, s74.2))) fun o65 => o65.andThen (fun y => some y) fun s66 => some ((s66.1, s66.2), none))) Ys yv h0 (((⟨(-1), (-1)⟩ : cal_Span), yield_s), none) h5 x23.1 b24 (El.tr (Dw := Dw) h25 h3) x23.2.1 b26 (El.tr (Dw := Dw) h27 h3) x23.2.2 b28 (El.tr (Dw := Dw) h29 h3) h4 hz33).mono fun _ _ ⟨A3, _, hh, tt⟩ => ⟨A3, tt, hh⟩
  ·intro l38 rc39 w40 A41 L42 x43 s35 s36 j44 hst45 hB46 hA47 ht48 hH49 h50
   obtain ⟨_, hH49⟩ := Hp.open hH49
   replace h5 := Vb.tr (Dw := Dw) h5 ht48
   replace hK := Tr.trans (Dw := Dw) hK ht48
   replace hB := Nat.le_trans hB ht48.ex.size
   replace hA := ht48.new
   replace hH : Hp B A41 w40 (obC b7 [.int .i64 s35.1.from_, .int .i64 s35.1.to_] 88 :: yield_Y s35.2 :: obO l38 (.loop rc39) :: L42) := hH49
   have hr51 : Tr Dw B A41 w40 A41 w40 := Tr.refl (Dw := Dw) hA
   show C _ _ _ _ _ _
   refine C_region ?_
   refine V_alloc Try.zeroValue88 rfl ?_
   intro b53 w54 h55
   refine V_storeNew h55 Try.sizeOf88 rfl rfl rfl rfl (by exact (List.forall_mem_cons.2 ⟨rfl, (List.forall_mem_cons.2 ⟨rfl, (fun _ h => nomatch h)⟩)⟩)) ?_
   intro w56 h57
   have hk59 := h57.kp (Dw := Dw)
   have h58 : El (α := cal_Span) A41 w56 b53 0 x43 := h57.el hA ⟨[.int .i64 x43.from_], _, rfl, rfl, rfl⟩
   have ht60 := Kp.tr (Dw := Dw) hk59 hA hB
   replace hH := Hp.kp (Dw := Dw) hH hk59
   replace h5 := Vb.tr (Dw := Dw) h5 ht60
   replace hK := Tr.trans (Dw := Dw) hK ht60
   replace hr51 := Tr.trans (Dw := Dw) hr51 ht60
   replace hB := Nat.le_trans hB ht60.ex.size
   replace hA := ht60.new
   refine V_end (fun a ha61 => ?_)
   refine begin_at (Dw := Dw) hH (i := 2) rfl hst45 hB hA (fun w62 hH63 ht64 => ?_) ha61
   replace h5 := Vb.tr (Dw := Dw) h5 ht64
   replace h58 := El.tr (Dw := Dw) h58 ht64
   replace hK := Tr.trans (Dw := Dw) hK ht64
   replace hr51 := Tr.trans (Dw := Dw) hr51 ht64
   replace hB := Nat.le_trans hB ht64.ex.size
   replace hA := ht64.new
   replace hH : Hp B A41 w62 (obC b7 [.int .i64 s35.1.from_, .int .i64 s35.1.to_] 88 :: yield_Y s35.2 :: obO l38 (.loop { rc39 with state := .busy }) :: L42) := hH63
   obtain ⟨o65, ho65, h50⟩ := Option.bind_eq_some_iff.1 h50
   refine C_cutG (ι := ((cal_Span × yield_S) × (Nat → Prop))) (fun ⟨s66, A71⟩ => []) (fun ⟨s66, A71⟩ => fun w' => o65 = .fin s66 ∧ Hp B A71 w' (obC b7 [.int .i64 s66.1.from_, .int .i64 s66.1.to_] 88 :: yield_Y s66.2 :: obO l38 (.loop { rc39 with state := .busy }) :: L42) ∧ Tr Dw B A41 w62 A71 w') ?_ ?_
   ·have hr67 : Tr Dw B A41 w62 A41 w62 := Tr.refl (Dw := Dw) hA
    refine C_block ?_
    obtain ⟨o73, ho73, ho65⟩ := Option.bind_eq_some_iff.1 ho65
    refine C_cutG (ι := ((cal_Span × yield_S) × (Nat → Prop))) (fun ⟨s74, A79⟩ => []) (fun ⟨s74, A79⟩ => fun w' => o73 = .fin s74 ∧ Hp B A79 w' (obC b7 [.int .i64 s74.1.from_, .int .i64 s74.1.to_] 88 :: yield_Y s74.2 :: obO l38 (.loop { rc39 with state := .busy }) :: L42) ∧ Tr Dw B A41 w62 A79 w') ?_ ?_
    ·have hr75 : Tr Dw B A41 w62 A41 w62 := Tr.refl (Dw := Dw) hA
     refine C_block ?_
     refine C_seq ?_
     refine C_region ?_
     refine V_y (Y_fieldAddrC (off2 := 0) Try.underlying88 rfl Try.sizeOf3 (by decide) rfl rfl) rfl rfl rfl ?_
     refine V_y (Y_load (Hp.cell (j := 0) hH (i := 0) rfl rfl) Try.isAgg3 rfl) rfl rfl rfl ?_
     refine V_y (Y_lss rfl rfl) rfl rfl rfl ?_
     refine V_y (Y_assign rfl) rfl rfl rfl ?_
     refine V_to (fun _ _ => rfl) ?_
     obtain ⟨o81, ho81, ho73⟩ := Option.bind_eq_some_iff.1 ho73
     refine C_cutG (ι := ((cal_Span × yield_S) × (Nat → Prop))) (fun ⟨s82, A87⟩ => []) (fun ⟨s82, A87⟩ => fun w' => o81 = .fin s82 ∧ Hp B A87 w' (obC b7 [.int .i64 s82.1.from_, .int .i64 s82.1.to_] 88 :: yield_Y s82.2 :: obO l38 (.loop { rc39 with state := .busy }) :: L42) ∧ Tr Dw B A41 w62 A87 w') ?_ ?_
     ·have hr83 : Tr Dw B A41 w62 A41 w62 := Tr.refl (Dw := Dw) hA
      refine C_cond rfl (fun hc89 => ?_) (fun hc89 => ?_)
      ·rw [if_pos hc89] at ho81
       refine C_region ?_
       obtain ⟨h90, _⟩ := El_cal_Span h58
       refine V_y (Y_loadA h90 Try.isAgg88 Try.sizeOf88 rfl) rfl rfl rfl ?_
       refine V_storeC (Dw := Dw) (off := 0) (ds := [.int .i64 x43.from_, .int .i64 x43.to_]) hH (i := 0) rfl Try.sizeOf88 rfl (Nat.le_of_ble_eq_true rfl) (by simp [Value.cells, Value.oneCell']) rfl hB hA rfl rfl ?_
       intro w91 hH92 ht93
       replace h5 := Vb.tr (Dw := Dw) h5 ht93
       replace hr83 := Tr.trans (Dw := Dw) hr83 ht93
       replace hH : Hp B A41 w91 (obC b7 [.int .i64 x43.from_, .int .i64 x43.to_] 88 :: yield_Y s35.2 :: obO l38 (.loop { rc39 with state := .busy }) :: L42) := hH92
       obtain rfl := Option.some.inj ho81
       refine V_end (fun a ha94 => ?_)
       exact ⟨((x43, s35.2), A41), ha94.sub trivial, ⟨rfl, hH, hr83⟩⟩
      ·rw [if_neg (nt hc89)] at ho81
       refine C_seq ?_
       refine C_region ?_
       have h95 := El_cal_Span_0 h58
       refine V_y (Y_fieldAddr Try.underlying88 rfl Try.sizeOf3 (by decide) rfl) rfl rfl rfl ?_
       refine V_y (Y_load (El.int h95) Try.isAgg3 rfl) rfl rfl rfl ?_
       refine V_y (Y_fieldAddrC (off2 := 1) Try.underlying88 rfl Try.sizeOf3 (by decide) rfl rfl) rfl rfl rfl ?_
       refine V_y (Y_load (Hp.cell (j := 1) hH (i := 0) rfl rfl) Try.isAgg3 rfl) rfl rfl rfl ?_
       refine V_y (Y_leq rfl rfl) rfl rfl rfl ?_
       refine V_y (Y_assign rfl) rfl rfl rfl ?_
       refine V_to (fun _ _ => rfl) ?_
       obtain ⟨o96, ho96, ho81⟩ := Option.bind_eq_some_iff.1 ho81
       refine C_cutG (ι := ((cal_Span × yield_S) × (Nat → Prop))) (fun ⟨s97, A102⟩ => []) (fun ⟨s97, A102⟩ => fun w' => o96 = .fin s97 ∧ Hp B A102 w' (obC b7 [.int .i64 s97.1.from_, .int .i64 s97.1.to_] 88 :: yield_Y s97.2 :: obO l38 (.loop { rc39 with state := .busy }) :: L42) ∧ Tr Dw B A41 w62 A102 w') ?_ ?_
       ·have hr98 : Tr Dw B A41 w62 A41 w62 := Tr.refl (Dw := Dw) hA
        refine C_cond rfl (fun hc104 => ?_) (fun hc104 => ?_)
        ·rw [if_pos hc104] at ho96
         refine C_region ?_
         refine V_y (Y_fieldAddrC (off2 := 1) Try.underlying88 rfl Try.sizeOf3 (by decide) rfl rfl) rfl rfl rfl ?_
         refine V_y (Y_load (Hp.cell (j := 1) hH (i := 0) rfl rfl) Try.isAgg3 rfl) rfl rfl rfl ?_
         have h105 := El_cal_Span_1 h58
         refine V_y (Y_fieldAddr Try.underlying88 rfl Try.sizeOf3 (by decide) rfl) rfl rfl rfl ?_
         refine V_y (Y_load (El.int h105) Try.isAgg3 rfl) rfl rfl rfl ?_
         refine V_y (Y_max2 rfl rfl) rfl rfl rfl ?_
         refine V_y (Y_fieldAddrC (off2 := 1) Try.underlying88 rfl Try.sizeOf3 (by decide) rfl rfl) rfl rfl rfl ?_
         refine V_storeC (Dw := Dw) (off := 1) (ds := [.int .i64 s35.1.from_, .int .i64 (if s35.1.to_ < x43.to_ then x43.to_ else s35.1.to_)]) hH (i := 0) rfl Try.sizeOf3 rfl (Nat.le_of_ble_eq_true rfl) (by simp [Value.cells, Value.oneCell']) rfl hB hA rfl rfl ?_
         intro w106 hH107 ht108
         replace h5 := Vb.tr (Dw := Dw) h5 ht108
         replace hr98 := Tr.trans (Dw := Dw) hr98 ht108
         replace hH : Hp B A41 w106 (obC b7 [.int .i64 s35.1.from_, .int .i64 (if s35.1.to_ < x43.to_ then x43.to_ else s35.1.to_)] 88 :: yield_Y s35.2 :: obO l38 (.loop { rc39 with state := .busy }) :: L42) := hH107
         obtain rfl := Option.some.inj ho96
         refine V_end (fun a ha109 => ?_)
         exact ⟨(((⟨s35.1.from_, (if s35.1.to_ < x43.to_ then x43.to_ else s35.1.to_)⟩ : cal_Span), s35.2), A41), ha109.sub trivial, ⟨rfl, hH, hr98⟩⟩
        ·rw [if_neg (nt hc104)] at ho96
         refine C_seq ?_
         refine C_seq ?_
         refine C_region ?_
         refine V_y (Y_load h5.2.2 Try.isAgg109 rfl) rfl rfl rfl ?_
         refine V_y (Y_loadA (Hp.part (off := 0) (n := 2) (ds := [.int .i64 s35.1.from_, .int .i64 s35.1.to_]) hH (i := 0) rfl rfl) Try.isAgg88 Try.sizeOf88 rfl) rfl rfl rfl ?_
         obtain ⟨x110, hx110, ho96⟩ := Option.bind_eq_some_iff.1 ho96
         replace hH : Hp B A41 w62 (yield_Y s35.2 :: obC b7 [.int .i64 s35.1.from_, .int .i64 s35.1.to_] 88 :: obO l38 (.loop { rc39 with state := .busy }) :: L42) := Hp.front hH (i := 1) rfl
         refine V_callV rfl rfl rfl (yield_spec w62 _ _ s35.1 _ x110.1 x110.2 hB hA hK hH hx110) ?_
         rintro _ w111 ⟨rfl, A112, ht114, hH113⟩
         replace h5 := Vb.tr (Dw := Dw) h5 ht114
         replace h58 := El.tr (Dw := Dw) h58 ht114
         replace hr51 := Tr.trans (Dw := Dw) hr51 ht114
         replace hr98 := Tr.trans (Dw := Dw) hr98 ht114
         replace hB := Nat.le_trans hB ht114.ex.size
         replace hA := ht114.new
         replace hH : Hp B A112 w111 (yield_Y x110.2 :: obC b7 [.int .i64 s35.1.from_, .int .i64 s35.1.to_] 88 :: obO l38 (.loop { rc39 with state := .busy }) :: L42) := hH113
         refine V_y (Y_not rfl) rfl rfl rfl ?_
         refine V_to (fun _ _ => rfl) ?_
         refine C_cond rfl (fun hc115 => ?_) (fun hc115 => ?_)
         ·rw [if_pos hc115] at ho96
          obtain rfl := Option.some.inj ho96
          rw [Lp.andThen_rt] at ho81
          obtain rfl := Option.some.inj ho81
          rw [Lp.andThen_rt] at ho73
          obtain rfl := Option.some.inj ho73
          rw [Lp.andThen_rt] at ho65
          obtain rfl := Option.some.inj ho65
          rw [Lp.andThen_rt] at h50
          obtain ⟨rfl, rfl⟩ := Prod.mk.inj (Option.some.inj h50)
          refine C_ret (fun a ha116 => ?_)
          replace hH : Hp B A112 w111 (obO l38 (.loop { rc39 with state := .busy }) :: yield_Y x110.2 :: obC b7 [.int .i64 s35.1.from_, .int .i64 s35.1.to_] 88 :: L42) := Hp.front hH (i := 2) rfl
          replace hH : Hp B A112 w111 (yield_Y x110.2 :: obO l38 (.loop { rc39 with state := .busy }) :: obC b7 [.int .i64 s35.1.from_, .int .i64 s35.1.to_] 88 :: L42) := Hp.front hH (i := 1) rfl
          replace hH : Hp B A112 w111 (obC b7 [.int .i64 s35.1.from_, .int .i64 s35.1.to_] 88 :: yield_Y x110.2 :: obO l38 (.loop { rc39 with state := .busy }) :: L42) := Hp.front hH (i := 2) rfl
          exact ⟨rfl, A112, hr51, Hp.pack (F := fun (i : Unit) => [obC b7 [.int .i64 (s35.1, x110.2).1.from_, .int .i64 (s35.1, x110.2).1.to_] 88, yield_Y (s35.1, x110.2).2]) () hH⟩
         ·rw [if_neg (nt hc115)] at ho96
          refine C_skip_to (fun _ _ => rfl) ?_
          refine C_region ?_
          obtain ⟨h117, _⟩ := El_cal_Span h58
          refine V_y (Y_loadA h117 Try.isAgg88 Try.sizeOf88 rfl) rfl rfl rfl ?_
          refine V_storeC (Dw := Dw) (off := 0) (ds := [.int .i64 x43.from_, .int .i64 x43.to_]) hH (i := 1) rfl Try.sizeOf88 rfl (Nat.le_of_ble_eq_true rfl) (by simp [Value.cells, Value.oneCell']) rfl hB hA rfl rfl ?_
          intro w118 hH119 ht120
          replace hr98 := Tr.trans (Dw := Dw) hr98 ht120
          replace hH : Hp B A112 w118 (yield_Y x110.2 :: obC b7 [.int .i64 x43.from_, .int .i64 x43.to_] 88 :: obO l38 (.loop { rc39 with state := .busy }) :: L42) := hH119
          obtain rfl := Option.some.inj ho96
          refine V_end (fun a ha121 => ?_)
          replace hH : Hp B A112 w118 (obO l38 (.loop { rc39 with state := .busy }) :: yield_Y x110.2 :: obC b7 [.int .i64 x43.from_, .int .i64 x43.to_] 88 :: L42) := Hp.front hH (i := 2) rfl
          replace hH : Hp B A112 w118 (yield_Y x110.2 :: obO l38 (.loop { rc39 with state := .busy }) :: obC b7 [.int .i64 x43.from_, .int .i64 x43.to_] 88 :: L42) := Hp.front hH (i := 1) rfl
          replace hH : Hp B A112 w118 (obC b7 [.int .i64 x43.from_, .int .i64 x43.to_] 88 :: yield_Y x110.2 :: obO l38 (.loop { rc39 with state := .busy }) :: L42) := Hp.front hH (i := 2) rfl
          exact ⟨((x43, x110.2), A112), ha121.sub trivial, ⟨rfl, hH, hr98⟩⟩
       rintro ⟨s97, A102⟩ w99 ⟨rfl, hH103, hk100⟩ a ha101
       rw [Lp.andThen_fin] at ho81
       replace hr83 := Tr.trans (Dw := Dw) hr83 hk100
       replace hA := hk100.new
       replace hH : Hp B A102 w99 (obC b7 [.int .i64 s97.1.from_, .int .i64 s97.1.to_] 88 :: yield_Y s97.2 :: obO l38 (.loop { rc39 with state := .busy }) :: L42) := hH103
       obtain rfl := Option.some.inj ho81
       exact ⟨((s97.1, s97.2), A102), ha101.sub trivial, ⟨rfl, hH, hr83⟩⟩
     rintro ⟨s82, A87⟩ w84 ⟨rfl, hH88, hk85⟩ a ha86
     rw [Lp.andThen_fin] at ho73
     replace hr75 := Tr.trans (Dw := Dw) hr75 hk85
     replace hA := hk85.new
     replace hH : Hp B A87 w84 (obC b7 [.int .i64 s82.1.from_, .int .i64 s82.1.to_] 88 :: yield_Y s82.2 :: obO l38 (.loop { rc39 with state := .busy }) :: L42) := hH88
     obtain rfl := Option.some.inj ho73
     exact ⟨((s82.1, s82.2), A87), ha86.sub trivial, ⟨rfl, hH, hr75⟩⟩
    rintro ⟨s74, A79⟩ w76 ⟨rfl, hH80, hk77⟩ a ha78
    rw [Lp.andThen_fin] at ho65
    replace hr67 := Tr.trans (Dw := Dw) hr67 hk77
    replace hA := hk77.new
    replace hH : Hp B A79 w76 (obC b7 [.int .i64 s74.1.from_, .int .i64 s74.1.to_] 88 :: yield_Y s74.2 :: obO l38 (.loop { rc39 with state := .busy }) :: L42) := hH80
    obtain rfl := Option.some.inj ho65
    exact ⟨((s74.1, s74.2), A79), ha78.sub trivial, ⟨rfl, hH, hr67⟩⟩
   rintro ⟨s66, A71⟩ w68 ⟨rfl, hH72, hk69⟩ a ha70
   rw [Lp.andThen_fin] at h50
   replace hr51 := Tr.trans (Dw := Dw) hr51 hk69
   replace hA := hk69.new
   replace hH : Hp B A71 w68 (obC b7 [.int .i64 s66.1.from_, .int .i64 s66.1.to_] 88 :: yield_Y s66.2 :: obO l38 (.loop { rc39 with state := .busy }) :: L42) := hH72
   obtain ⟨rfl, rfl⟩ := Prod.mk.inj (Option.some.inj h50)
   exact ⟨rfl, A71, hr51, Hp.pack (F := fun (i : Unit) => [obC b7 [.int .i64 (s66.1, s66.2).1.from_, .int .i64 (s66.1, s66.2).1.to_] 88, yield_Y (s66.1, s66.2).2]) () hH⟩
  ·intro hc131 D126 w127 A128 ht129 hH130 a ha132
   exact ⟨(D126, A128), ha132.sub ⟨rfl, rfl, trivial⟩, (by rw [hc131]; simp), hH130, ht129⟩
  ·intro k133 hc131 D126 w127 A128 ht129 hH130
   by_cases hc134 : k133 = 0
   ·subst hc134
    rw [if_pos hc131] at hm
    obtain ⟨_, hH130⟩ := Hp.open hH130
    replace hK := Tr.trans (Dw := Dw) hK ht129
    replace hB := Nat.le_trans hB ht129.ex.size
    replace hA := ht129.new
    replace hH : Hp B A128 w127 (obC b7 [.int .i64 z33.1.1.from_, .int .i64 z33.1.1.to_] 88 :: yield_Y z33.1.2 :: obO D126 (.deferred (some [])) :: L) := hH130
    show C _ _ .ret _ _ _
    obtain rfl := Option.some.inj hm
    have h135 := Hp.obj hH (i := 2) (b := D126) rfl
    obtain ⟨hH136, ht137⟩ := Hp.put (Dw := Dw) (.deferred none) hH (i := 2) (b := D126) rfl hB hA
    replace hK := Tr.trans (Dw := Dw) hK ht137
    replace hH : Hp B A128 (World.putObj w127 D126 (.deferred none)) (obC b7 [.int .i64 z33.1.1.from_, .int .i64 z33.1.1.to_] 88 :: yield_Y z33.1.2 :: obO D126 (.deferred none) :: L) := hH136
    replace hH : Hp B A128 (World.putObj w127 D126 (.deferred none)) (yield_Y z33.1.2 :: obC b7 [.int .i64 z33.1.1.from_, .int .i64 z33.1.1.to_] 88 :: obO D126 (.deferred none) :: L) := Hp.front hH (i := 1) rfl
    replace hH : Hp B A128 (World.putObj w127 D126 (.deferred none)) (yield_Y z33.1.2 :: obO D126 (.deferred none) :: L) := Hp.drop hH (i := 1) rfl
    replace hH : Hp B A128 (World.putObj w127 D126 (.deferred none)) (yield_Y z33.1.2 :: L) := Hp.drop hH (i := 1) rfl
    refine C_ret ?_
    try simp only [↓inBlock_ret, ↓then_ret]
    exact retM1 rfl h135 (Res.zero Try.results68) ⟨A128, rfl, hH, hK⟩
   ·show C _ _ (if k133 = 0 then _ else _) _ _ _
    rw [if_neg hc134]
    refine C_exit fun a ha132 => ?_
    show Exit.inBlock _ _ _ _ _
    rw [Exit.inBlock, if_pos rfl]
    exact ⟨(D126, A128), ha132.sub ⟨rfl, rfl, trivial⟩, (by rw [hc131]; simpa using hc134), hH130, ht129⟩
 rintro ⟨D126, A128⟩ w127 ⟨hc138, hH130, ht129⟩ a ha132
 rw [if_neg hc138] at hm
 obtain ⟨_, hH130⟩ := Hp.open hH130
 replace h5 := Vb.tr (Dw := Dw) h5 ht129
 replace hK := Tr.trans (Dw := Dw) hK ht129
 replace hB := Nat.le_trans hB ht129.ex.size
 replace hA := ht129.new
 replace hH : Hp B A128 w127 (obC b7 [.int .i64 z33.1.1.from_, .int .i64 z33.1.1.to_] 88 :: yield_Y z33.1.2 :: obO D126 (.deferred (some [])) :: L) := hH130
 refine C_at (n := ⟨41, [{ target := .collected D126, args := #[] }], none⟩) (fun _ _ => rfl) ?_ ha132
 refine C_seq ?_
 refine C_region ?_
 refine V_y (Y_fieldAddrC (off2 := 0) Try.underlying88 rfl Try.sizeOf3 (by decide) rfl rfl) rfl rfl rfl ?_
 refine V_y (Y_load (Hp.cell (j := 0) hH (i := 0) rfl rfl) Try.isAgg3 rfl) rfl rfl rfl ?_
 refine V_y (Y_geq rfl rfl) rfl rfl rfl ?_
 refine V_to (fun _ _ => rfl) ?_
 obtain ⟨s140, ho139, hm⟩ := Option.bind_eq_some_iff.1 hm
 refine C_cutG (ι := (Nat → Prop)) (fun (A145 : (Nat → Prop)) => []) (fun (A145 : (Nat → Prop)) => fun w' => Hp B A145 w' (obC b7 [.int .i64 z33.1.1.from_, .int .i64 z33.1.1.to_] 88 :: yield_Y s140 :: obO D126 (.deferred (some [])) :: L) ∧ Tr Dw B A128 w127 A145 w') ?_ ?_
 ·have hr141 : Tr Dw B A128 w127 A128 w127 := Tr.refl (Dw := Dw) hA
  refine C_cond rfl (fun hc147 => ?_) (fun hc147 => ?_)
  ·rw [if_pos hc147] at ho139
   refine C_region ?_
   refine V_y (Y_load h5.2.2 Try.isAgg109 rfl) rfl rfl rfl ?_
   refine V_y (Y_loadA (Hp.part (off := 0) (n := 2) (ds := [.int .i64 z33.1.1.from_, .int .i64 z33.1.1.to_]) hH (i := 0) rfl rfl) Try.isAgg88 Try.sizeOf88 rfl) rfl rfl rfl ?_
   obtain ⟨x148, hx148, ho139⟩ := Option.bind_eq_some_iff.1 ho139
   replace hH : Hp B A128 w127 (yield_Y z33.1.2 :: obC b7 [.int .i64 z33.1.1.from_, .int .i64 z33.1.1.to_] 88 :: obO D126 (.deferred (some [])) :: L) := Hp.front hH (i := 1) rfl
   refine V_callV rfl rfl rfl (yield_spec w127 _ _ z33.1.1 _ x148.1 x148.2 hB hA hK hH hx148) ?_
   rintro _ w149 ⟨rfl, A150, ht152, hH151⟩
   replace h5 := Vb.tr (Dw := Dw) h5 ht152
   replace hr141 := Tr.trans (Dw := Dw) hr141 ht152
   replace hH : Hp B A150 w149 (yield_Y x148.2 :: obC b7 [.int .i64 z33.1.1.from_, .int .i64 z33.1.1.to_] 88 :: obO D126 (.deferred (some [])) :: L) := hH151
   obtain rfl := Option.some.inj ho139
   refine V_end (fun a ha153 => ?_)
   replace hH : Hp B A150 w149 (obO D126 (.deferred (some [])) :: yield_Y x148.2 :: obC b7 [.int .i64 z33.1.1.from_, .int .i64 z33.1.1.to_] 88 :: L) := Hp.front hH (i := 2) rfl
   replace hH : Hp B A150 w149 (yield_Y x148.2 :: obO D126 (.deferred (some [])) :: obC b7 [.int .i64 z33.1.1.from_, .int .i64 z33.1.1.to_] 88 :: L) := Hp.front hH (i := 1) rfl
   replace hH : Hp B A150 w149 (obC b7 [.int .i64 z33.1.1.from_, .int .i64 z33.1.1.to_] 88 :: yield_Y x148.2 :: obO D126 (.deferred (some [])) :: L) := Hp.front hH (i := 2) rfl
   exact ⟨A150, ha153.sub trivial, ⟨hH, hr141⟩⟩
  ·rw [if_neg (nt hc147)] at ho139
   obtain rfl := Option.some.inj ho139
   refine C_skip (fun a ha154 => ?_)
   exact ⟨A128, ha154.sub trivial, ⟨hH, hr141⟩⟩
 rintro A145 w142 ⟨hH146, hk143⟩ a ha144
 replace hK := Tr.trans (Dw := Dw) hK hk143
 replace hB := Nat.le_trans hB hk143.ex.size
 replace hA := hk143.new
 replace hH : Hp B A145 w142 (obC b7 [.int .i64 z33.1.1.from_, .int .i64 z33.1.1.to_] 88 :: yield_Y s140 :: obO D126 (.deferred (some [])) :: L) := hH146
 obtain rfl := Option.some.inj hm
 have h156 := Hp.obj hH (i := 2) (b := D126) rfl
 obtain ⟨hH157, ht158⟩ := Hp.put (Dw := Dw) (.deferred none) hH (i := 2) (b := D126) rfl hB hA
 replace hK := Tr.trans (Dw := Dw) hK ht158
 replace hH : Hp B A145 (World.putObj w142 D126 (.deferred none)) (obC b7 [.int .i64 z33.1.1.from_, .int .i64 z33.1.1.to_] 88 :: yield_Y s140 :: obO D126 (.deferred none) :: L) := hH157
 replace hH : Hp B A145 (World.putObj w142 D126 (.deferred none)) (yield_Y s140 :: obC b7 [.int .i64 z33.1.1.from_, .int .i64 z33.1.1.to_] 88 :: obO D126 (.deferred none) :: L) := Hp.front hH (i := 1) rfl
 replace hH : Hp B A145 (World.putObj w142 D126 (.deferred none)) (yield_Y s140 :: obO D126 (.deferred none) :: L) := Hp.drop hH (i := 1) rfl
 replace hH : Hp B A145 (World.putObj w142 D126 (.deferred none)) (yield_Y s140 :: L) := Hp.drop hH (i := 1) rfl
 try simp only [↓inBlock_ret, ↓then_ret]
 exact normM (retM1 rfl h156 (Res.zero Try.results68) ⟨A145, rfl, hH, hK⟩ a ha144)
set_option maxRecDepth 4000 in
set_option maxHeartbeats 4000000 in
theorem cal_Worked_c (w : World) {A : Nat → Prop} (hA : ∀ b, w.heap.size ≤ b → A b) (c : cal_Calendar) (v_c0 : Value) (h_c0 : Sl A w v_c0 c.zone.changes) (v_c1 : Value) (h_c1 : Sl A w v_c1 c.week) (v_c2 : Value) (h_c2 : Sl A w v_c2 c.specials) (from_ : Int) (to_ : Int) {r : (Int × Int)} (hm : cal_Worked c from_ to_ = some r) : Ret Try.prog 34 #[.agg #[.int .i64 c.zone.offset, v_c0, v_c1, v_c2], .int .i64 from_, .int .i64 to_] w fun v w' => v = .tuple #[.int .i64 r.1, .int .i64 r.2] ∧ Kp Dw w w' := by
 unfold cal_Worked at hm
 refine enterM Try.func34 rfl Try.ntmps34 rfl ?_
 have hA0 := hA
 have hB := Nat.le_refl w.heap.size
 have hK : Tr Dw w.heap.size A w A w := Tr.refl (Dw := Dw) hA
 have hH : Hp w.heap.size A w [] := Hp.nil
 refine C_seq ?_
 refine C_region ?_
 refine V_box rfl rfl ?_
 intro b7 w9 h10
 have hk12 := h10.kp (Dw := Dw)
 have h11 : El (α := cal_Calendar) A w9 b7 0 c := h10.el hA ⟨[.int .i64 c.zone.offset, v_c0], _, rfl, ⟨[.int .i64 c.zone.offset], _, rfl, rfl, ⟨_, rfl, h_c0⟩⟩, ⟨[v_c1], _, rfl, ⟨_, rfl, h_c1⟩, ⟨_, rfl, h_c2⟩⟩⟩
 have ht13 := Kp.tr (Dw := Dw) hk12 hA hB
 replace hH := Hp.kp (Dw := Dw) hH hk12
 replace hK := Tr.trans (Dw := Dw) hK ht13
 replace hB := Nat.le_trans hB ht13.ex.size
 replace hA := ht13.new
 refine V_y (Y_assign rfl) rfl rfl rfl ?_
 refine V_y (Y_assign rfl) rfl rfl rfl ?_
 refine V_to (fun _ _ => rfl) ?_
 refine C_seq ?_
 refine C_seq ?_
 refine C_region ?_
 obtain ⟨v14, v16, v18, h20, h15, h17, h19⟩ := El_cal_Calendar h11
 refine V_y (Y_loadA h20 Try.isAgg58 Try.sizeOf58 rfl) rfl rfl rfl ?_
 obtain ⟨x21, hx21, hm⟩ := Option.bind_eq_some_iff.1 hm
 refine V_call Try.call29 rfl rfl rfl rfl (cal_CheckCalendar_c (Dw := Dw) w9 hA c v14 h15 v16 h17 v18 h19 hx21) ?_
 rintro _ w22 ⟨rfl, hk23⟩
 have ht24 := Kp.tr (Dw := Dw) hk23 hA hB
 replace hH := Hp.kp (Dw := Dw) hH hk23
 replace h11 := El.tr (Dw := Dw) h11 ht24
 replace hK := Tr.trans (Dw := Dw) hK ht24
 replace hB := Nat.le_trans hB ht24.ex.size
 replace hA := ht24.new
 refine V_y (Y_move rfl) rfl rfl rfl ?_
 refine V_y (Y_move rfl) rfl rfl rfl ?_
 refine V_call Try.call50 rfl rfl rfl rfl (cal_stretch_c w22 from_ to_) ?_
 rintro _ _ ⟨rfl, rfl⟩
 refine V_buildSlice (Dw := Dw) (cells := #[.int .i64 x21, .int .i64 (cal_stretch from_ to_)]) (l := ([x21, (cal_stretch from_ to_)] : List Int)) (len := 2) Try.underlying50 Try.sizeOf24 Try.zeroValue24 rfl (by generalize ((cal_stretch from_ to_) : Int) = z29; kernel_rfl) (show (2 * 1 : Nat) ≠ 0 by decide) (show (2 * 1 : Nat) ≤ 2 ^ 24 by decide) hA ⟨[.int .i64 x21], _, rfl, rfl, ⟨[.int .i64 (cal_stretch from_ to_)], _, rfl, rfl, rfl⟩⟩ rfl rfl ?_
 intro v25 w26 hk28 h27
 have ht30 := Kp.tr (Dw := Dw) hk28 hA hB
 replace hH := Hp.kp (Dw := Dw) hH hk28
 replace h11 := El.tr (Dw := Dw) h11 ht30
 replace hK := Tr.trans (Dw := Dw) hK ht30
 replace hB := Nat.le_trans hB ht30.ex.size
 replace hA := ht30.new
 obtain ⟨x31, hx31, hm⟩ := Option.bind_eq_some_iff.1 hm
 refine V_call Try.call9 rfl rfl rfl rfl (cmp_Or_api_Errno_c w26 ([x21, (cal_stretch from_ to_)] : List Int) v25 h27 hx31) ?_
 rintro _ _ ⟨rfl, rfl⟩
 refine V_y (Y_assign rfl) rfl rfl rfl ?_
 refine V_to (fun _ _ => rfl) ?_
 refine C_seq ?_
 refine C_region ?_
 refine V_y (Y_move rfl) rfl rfl rfl ?_
 refine V_y (Y_neq rfl rfl) rfl rfl rfl ?_
 refine V_to (fun _ _ => rfl) ?_
 refine C_cond rfl (fun hc32 => ?_) (fun hc32 => ?_)
 ·rw [if_pos hc32] at hm
  refine C_seq ?_
  refine C_region ?_
  refine V_y (Y_move rfl) rfl rfl rfl ?_
  refine V_y (Y_assign rfl) rfl rfl rfl ?_
  refine V_y (Y_assign rfl) rfl rfl rfl ?_
  refine V_to (fun _ _ => rfl) ?_
  obtain rfl := Option.some.inj hm
  refine C_ret ?_
  try simp only [↓inBlock_ret, ↓then_ret]
  exact retM rfl (Res.two Try.results34 rfl rfl) ⟨rfl, hK.kp⟩
 ·rw [if_neg (nt hc32)] at hm
  refine C_skip_to (fun _ _ => rfl) ?_
  refine C_seq ?_
  refine C_region ?_
  refine V_allocH (Dw := Dw) (B := w.heap.size) hH Try.zeroValue3 hB hA rfl ?_
  intro b33 w34 A35 hH36 ht37
  replace h11 := El.tr (Dw := Dw) h11 ht37
  replace hK := Tr.trans (Dw := Dw) hK ht37
  replace hB := Nat.le_trans hB ht37.ex.size
  replace hA := ht37.new
  replace hH : Hp w.heap.size A35 w34 (obC b33 [.int .i64 0] 3 :: []) := hH36
  refine V_storeC (Dw := Dw) (off := 0) (ds := [.int .i64 0]) hH (i := 0) rfl Try.sizeOf3 rfl (Nat.le_of_ble_eq_true rfl) (by simp [Value.cells, Value.oneCell']) rfl hB hA rfl rfl ?_
  intro w38 hH39 ht40
  replace h11 := El.tr (Dw := Dw) h11 ht40
  replace hK := Tr.trans (Dw := Dw) hK ht40
  replace hB := Nat.le_trans hB ht40.ex.size
  replace hA := ht40.new
  replace hH : Hp w.heap.size A35 w38 (obC b33 [.int .i64 0] 3 :: []) := hH39
  refine V_to (fun _ _ => rfl) ?_
  refine C_seq ?_
  refine C_seq ?_
  refine C_region ?_
  obtain ⟨v41, v43, v45, h47, h42, h44, h46⟩ := El_cal_Calendar h11
  refine V_y (Y_loadA h47 Try.isAgg58 Try.sizeOf58 rfl) rfl rfl rfl ?_
  refine V_y (Y_move rfl) rfl rfl rfl ?_
  refine V_y (Y_move rfl) rfl rfl rfl ?_
  obtain ⟨x48, hx48, hm⟩ := Option.bind_eq_some_iff.1 hm
  refine V_call Try.call51 rfl rfl rfl rfl (cal_Calendar_open_c (Dw := Dw) w38 hA c v41 h42 v43 h44 v45 h46 from_ to_ hx48) ?_
  rintro _ w55 ⟨b49, b51, b53, rfl, h50, h52, h54, hk56⟩
  have ht57 := Kp.tr (Dw := Dw) hk56 hA hB
  replace hH := Hp.kp (Dw := Dw) hH hk56
  replace hK := Tr.trans (Dw := Dw) hK ht57
  replace hB := Nat.le_trans hB ht57.ex.size
  replace hA := ht57.new
  refine V_to (fun _ _ => rfl) ?_
  have hH62 : Hp w.heap.size A35 w55 ((fun (s59 : Int) => obE (fun (i : Unit) => [obC b33 [.int .i64 s59] 3])) 0 :: []) := Hp.pack (F := fun (i : Unit) => [obC b33 [.int .i64 0] 3]) () hH
  obtain ⟨z58, hz58, hm⟩ := Option.bind_eq_some_iff.1 hm
  refine C_cutN (ι := Nat × (Nat → Prop)) (fun i => ⟨34, [{ target := .collected i.1, args := #[] }], none⟩) (fun i => [(9, .pointer (some ⟨b33, 0, none⟩))]) (fun i w' => Hp w.heap.size i.2 w' ((fun (s59 : Int) => obE (fun (i : Unit) => [obC b33 [.int .i64 s59] 3])) z58.1 :: obO i.1 (.deferred (some [])) :: []) ∧ Tr Dw w.heap.size A35 w55 i.2 w') ?_ ?_
  ·refine C_block ?_
   refine C_rangeFunc (Dw := Dw) (B := w.heap.size) (A := A35) (L := []) (X := cal_Span) (fun (x68 : cal_Span) => [.agg #[.int .i64 x68.from_, .int .i64 x68.to_]]) (fun (s59 : Int) => obE (fun (i : Unit) => [obC b33 [.int .i64 s59] 3])) (fun (x68 : cal_Span) (s60 : Int) => some (w64 (s60 + (w64 (x68.to_ - x68.from_))), none)) (fun _ => .exit 0) (s0 := 0) (zf := z58) rfl rfl rfl (by decide) (fun _ => rfl) hB hA hH62 68 _ rfl Try.call68 ?_ ?_ ?_ ?_
   ·intro Ys yv w1 A1 L1 h1 h2 h3 h4 h0 h5
    exact (cal_Calendar_open_1_c (Dw := Dw) w1 h1 h2 (yieldB (fun (x68 : cal_Span) (s60 : Int) => some (w64 (s60 + (w64 (x68.to_ - x68.from_))), none))) Ys yv h0 (0, none) h5 x48.1 b49 (El.tr (Dw := Dw) h50 h3) x48.2.1 b51 (El.tr (Dw := Dw) h52 h3) x48.2.2 b53 (El.tr (Dw := Dw) h54 h3) h4 hz58).mono fun _ _ ⟨A3, _, hh, tt⟩ => ⟨A3, tt, hh⟩
   ·intro l63 rc64 w65 A66 L67 x68 s60 s61 j69 hst70 hB71 hA72 ht73 hH74 h75
    obtain ⟨_, hH74⟩ := Hp.open hH74
    replace hB := Nat.le_trans hB ht73.ex.size
    replace hA := ht73.new
    replace hH : Hp w.heap.size A66 w65 (obC b33 [.int .i64 s60] 3 :: obO l63 (.loop rc64) :: L67) := hH74
    have hr76 : Tr Dw w.heap.size A66 w65 A66 w65 := Tr.refl (Dw := Dw) hA
    show C _ _ _ _ _ _
    refine C_region ?_
    refine V_alloc Try.zeroValue88 rfl ?_
    intro b78 w79 h80
    refine V_storeNew h80 Try.sizeOf88 rfl rfl rfl rfl (by exact (List.forall_mem_cons.2 ⟨rfl, (List.forall_mem_cons.2 ⟨rfl, (fun _ h => nomatch h)⟩)⟩)) ?_
    intro w81 h82
    have hk84 := h82.kp (Dw := Dw)
    have h83 : El (α := cal_Span) A66 w81 b78 0 x68 := h82.el hA ⟨[.int .i64 x68.from_], _, rfl, rfl, rfl⟩
    have ht85 := Kp.tr (Dw := Dw) hk84 hA hB
    replace hH := Hp.kp (Dw := Dw) hH hk84
    replace hr76 := Tr.trans (Dw := Dw) hr76 ht85
    replace hB := Nat.le_trans hB ht85.ex.size
    replace hA := ht85.new
    refine V_end (fun a ha86 => ?_)
    refine begin_at (Dw := Dw) hH (i := 1) rfl hst70 hB hA (fun w87 hH88 ht89 => ?_) ha86
    replace h83 := El.tr (Dw := Dw) h83 ht89
    replace hr76 := Tr.trans (Dw := Dw) hr76 ht89
    replace hB := Nat.le_trans hB ht89.ex.size
    replace hA := ht89.new
    replace hH : Hp w.heap.size A66 w87 (obC b33 [.int .i64 s60] 3 :: obO l63 (.loop { rc64 with state := .busy }) :: L67) := hH88
    refine C_block ?_
    refine C_region ?_
    refine V_y (Y_load (Hp.cell (j := 0) hH (i := 0) rfl rfl) Try.isAgg3 rfl) rfl rfl rfl ?_
    have h90 := El_cal_Span_1 h83
    refine V_y (Y_fieldAddr Try.underlying88 rfl Try.sizeOf3 (by decide) rfl) rfl rfl rfl ?_
    refine V_y (Y_load (El.int h90) Try.isAgg3 rfl) rfl rfl rfl ?_
    have h91 := El_cal_Span_0 h83
    refine V_y (Y_fieldAddr Try.underlying88 rfl Try.sizeOf3 (by decide) rfl) rfl rfl rfl ?_
    refine V_y (Y_load (El.int h91) Try.isAgg3 rfl) rfl rfl rfl ?_
    refine V_y (Y_subI rfl rfl) rfl rfl rfl ?_
    refine V_y (Y_addI rfl rfl) rfl rfl rfl ?_
    refine V_storeC (Dw := Dw) (off := 0) (ds := [.int .i64 (w64 (s60 + (w64 (x68.to_ - x68.from_))))]) hH (i := 0) rfl Try.sizeOf3 rfl (Nat.le_of_ble_eq_true rfl) (by simp [Value.cells, Value.oneCell']) rfl hB hA rfl rfl ?_
    intro w92 hH93 ht94
    replace hr76 := Tr.trans (Dw := Dw) hr76 ht94
    replace hH : Hp w.heap.size A66 w92 (obC b33 [.int .i64 (w64 (s60 + (w64 (x68.to_ - x68.from_))))] 3 :: obO l63 (.loop { rc64 with state := .busy }) :: L67) := hH93
    obtain ⟨rfl, rfl⟩ := Prod.mk.inj (Option.some.inj h75)
    refine V_end (fun a ha95 => ?_)
    exact ⟨rfl, A66, hr76, Hp.pack (F := fun (i : Unit) => [obC b33 [.int .i64 (w64 (s60 + (w64 (x68.to_ - x68.from_))))] 3]) () hH⟩
   ·intro hc101 D96 w97 A98 ht99 hH100 a ha102
    exact ⟨(D96, A98), ha102.sub ⟨rfl, trivial⟩, hH100, ht99⟩
   ·intro k103 hc101 D96 w97 A98 ht99 hH100
    refine C_exit fun a ha102 => ?_
    show Exit.inBlock _ _ _ _ _
    rw [Exit.inBlock, if_pos rfl]
    exact ⟨(D96, A98), ha102.sub ⟨rfl, trivial⟩, hH100, ht99⟩
  rintro ⟨D96, A98⟩ w97 ⟨hH100, ht99⟩ a ha102
  obtain ⟨_, hH100⟩ := Hp.open hH100
  replace hK := Tr.trans (Dw := Dw) hK ht99
  replace hB := Nat.le_trans hB ht99.ex.size
  replace hA := ht99.new
  replace hH : Hp w.heap.size A98 w97 (obC b33 [.int .i64 z58.1] 3 :: obO D96 (.deferred (some [])) :: []) := hH100
  refine C_at (n := ⟨34, [{ target := .collected D96, args := #[] }], none⟩) (fun _ _ => rfl) ?_ ha102
  refine C_seq ?_
  refine C_region ?_
  refine V_y (Y_load (Hp.cell (j := 0) hH (i := 0) rfl rfl) Try.isAgg3 rfl) rfl rfl rfl ?_
  refine V_y (Y_assign rfl) rfl rfl rfl ?_
  refine V_y (Y_assign rfl) rfl rfl rfl ?_
  refine V_to (fun _ _ => rfl) ?_
  obtain rfl := Option.some.inj hm
  have h106 := Hp.obj hH (i := 1) (b := D96) rfl
  obtain ⟨hH107, ht108⟩ := Hp.put (Dw := Dw) (.deferred none) hH (i := 1) (b := D96) rfl hB hA
  replace hK := Tr.trans (Dw := Dw) hK ht108
  replace hH : Hp w.heap.size A98 (World.putObj w97 D96 (.deferred none)) (obC b33 [.int .i64 z58.1] 3 :: obO D96 (.deferred none) :: []) := hH107
  refine C_ret ?_
  try simp only [↓inBlock_ret, ↓then_ret]
  exact retM1 rfl h106 (Res.two Try.results34 rfl rfl) ⟨rfl, hK.kp⟩
set_option maxRecDepth 4000 in
set_option maxHeartbeats 4000000 in
theorem cal_moment_c (w : World) (m : Int) : Ret Try.prog 66 #[.int .i64 m] w fun v w' => v = .int .i64 (cal_moment m) ∧ w = w' := by
 generalize hm : cal_moment m = r
 unfold cal_moment at hm
 refine enter Try.func66 rfl Try.ntmps66 rfl ?_
 refine C_seq ?_
 refine C_region ?_
 refine V_y (Y_assign rfl) rfl rfl rfl ?_
 refine V_to (fun _ _ => rfl) ?_
 refine C_seq ?_
 refine C_seq ?_
 refine C_region ?_
 refine V_y (Y_move rfl) rfl rfl rfl ?_
 refine V_call Try.call47 rfl rfl rfl rfl (cal_within_c w m 0 3000000) ?_
 rintro _ _ ⟨rfl, rfl⟩
 refine V_y (Y_not rfl) rfl rfl rfl ?_
 refine V_to (fun _ _ => rfl) ?_
 refine C_cond rfl (fun hc1 => ?_) (fun hc1 => ?_)
 ·rw [if_pos hc1] at hm
  refine C_seq ?_
  refine C_region ?_
  refine V_y (Y_assign rfl) rfl rfl rfl ?_
  refine V_to (fun _ _ => rfl) ?_
  obtain rfl := hm
  refine C_ret ?_
  try simp only [↓inBlock_ret, ↓then_ret]
  exact retQ rfl (Res.one Try.results66 rfl) ⟨rfl, rfl⟩
 ·rw [if_neg (nt hc1)] at hm
  refine C_skip_to (fun _ _ => rfl) ?_
  refine C_seq ?_
  refine C_region ?_
  refine V_y (Y_assign rfl) rfl rfl rfl ?_
  refine V_to (fun _ _ => rfl) ?_
  obtain rfl := hm
  refine C_ret ?_
  try simp only [↓inBlock_ret, ↓then_ret]
  exact retQ rfl (Res.one Try.results66 rfl) ⟨rfl, rfl⟩
set_option maxRecDepth 4000 in
set_option maxHeartbeats 4000000 in
theorem cal_workOf_c (w : World) (work : Int) : Ret Try.prog 67 #[.int .i64 work] w fun v w' => v = .int .i64 (cal_workOf work) ∧ w = w' := by
 generalize hm : cal_workOf work = r
 unfold cal_workOf at hm
 refine enter Try.func67 rfl Try.ntmps67 rfl ?_
 refine C_seq ?_
 refine C_region ?_
 refine V_y (Y_assign rfl) rfl rfl rfl ?_
 refine V_to (fun _ _ => rfl) ?_
 refine C_seq ?_
 refine C_seq ?_
 refine C_region ?_
 refine V_y (Y_move rfl) rfl rfl rfl ?_
 refine V_call Try.call47 rfl rfl rfl rfl (cal_within_c w work 0 3000001) ?_
 rintro _ _ ⟨rfl, rfl⟩
 refine V_y (Y_not rfl) rfl rfl rfl ?_
 refine V_to (fun _ _ => rfl) ?_
 refine C_cond rfl (fun hc1 => ?_) (fun hc1 => ?_)
 ·rw [if_pos hc1] at hm
  refine C_seq ?_
  refine C_region ?_
  refine V_y (Y_assign rfl) rfl rfl rfl ?_
  refine V_to (fun _ _ => rfl) ?_
  obtain rfl := hm
  refine C_ret ?_
  try simp only [↓inBlock_ret, ↓then_ret]
  exact retQ rfl (Res.one Try.results67 rfl) ⟨rfl, rfl⟩
 ·rw [if_neg (nt hc1)] at hm
  refine C_skip_to (fun _ _ => rfl) ?_
  refine C_seq ?_
  refine C_region ?_
  refine V_y (Y_assign rfl) rfl rfl rfl ?_
  refine V_to (fun _ _ => rfl) ?_
  obtain rfl := hm
  refine C_ret ?_
  try simp only [↓inBlock_ret, ↓then_ret]
  exact retQ rfl (Res.one Try.results67 rfl) ⟨rfl, rfl⟩
set_option maxRecDepth 4000 in
set_option maxHeartbeats 4000000 in
theorem cal_Add_c (w : World) {A : Nat → Prop} (hA : ∀ b, w.heap.size ≤ b → A b) (c : cal_Calendar) (v_c0 : Value) (h_c0 : Sl A w v_c0 c.zone.changes) (v_c1 : Value) (h_c1 : Sl A w v_c1 c.week) (v_c2 : Value) (h_c2 : Sl A w v_c2 c.specials) (from_ : Int) (work : Int) {r : (Int × Int)} (hm : cal_Add c from_ work = some r) : Ret Try.prog 49 #[.agg #[.int .i64 c.zone.offset, v_c0, v_c1, v_c2], .int .i64 from_, .int .i64 work] w fun v w' => v = .tuple #[.int .i64 r.1, .int .i64 r.2] ∧ Kp Dw w w' := by
 unfold cal_Add at hm
 refine enterM Try.func49 rfl Try.ntmps49 rfl ?_
 have hA0 := hA
 have hB := Nat.le_refl w.heap.size
 have hK : Tr Dw w.heap.size A w A w := Tr.refl (Dw := Dw) hA
 have hH : Hp w.heap.size A w [] := Hp.nil
 refine C_seq ?_
 refine C_region ?_
 refine V_box rfl rfl ?_
 intro b7 w9 h10
 have hk12 := h10.kp (Dw := Dw)
 have h11 : El (α := cal_Calendar) A w9 b7 0 c := h10.el hA ⟨[.int .i64 c.zone.offset, v_c0], _, rfl, ⟨[.int .i64 c.zone.offset], _, rfl, rfl, ⟨_, rfl, h_c0⟩⟩, ⟨[v_c1], _, rfl, ⟨_, rfl, h_c1⟩, ⟨_, rfl, h_c2⟩⟩⟩
 have ht13 := Kp.tr (Dw := Dw) hk12 hA hB
 replace hH := Hp.kp (Dw := Dw) hH hk12
 replace hK := Tr.trans (Dw := Dw) hK ht13
 replace hB := Nat.le_trans hB ht13.ex.size
 replace hA := ht13.new
 refine V_boxH (Dw := Dw) (B := w.heap.size) hH rfl hB hA rfl ?_
 intro b14 w15 A16 hH17 ht18
 replace h11 := El.tr (Dw := Dw) h11 ht18
 replace hK := Tr.trans (Dw := Dw) hK ht18
 replace hB := Nat.le_trans hB ht18.ex.size
 replace hA := ht18.new
 replace hH : Hp w.heap.size A16 w15 (obC b14 [.int .i64 work] 3 :: []) := hH17
 refine V_allocH (Dw := Dw) (B := w.heap.size) hH Try.zeroValue3 hB hA rfl ?_
 intro b19 w20 A21 hH22 ht23
 replace h11 := El.tr (Dw := Dw) h11 ht23
 replace hK := Tr.trans (Dw := Dw) hK ht23
 replace hB := Nat.le_trans hB ht23.ex.size
 replace hA := ht23.new
 replace hH : Hp w.heap.size A21 w20 (obC b19 [.int .i64 0] 3 :: obC b14 [.int .i64 work] 3 :: []) := hH22
 refine V_allocH (Dw := Dw) (B := w.heap.size) hH Try.zeroValue24 hB hA rfl ?_
 intro b24 w25 A26 hH27 ht28
 replace h11 := El.tr (Dw := Dw) h11 ht28
 replace hK := Tr.trans (Dw := Dw) hK ht28
 replace hB := Nat.le_trans hB ht28.ex.size
 replace hA := ht28.new
 replace hH : Hp w.heap.size A26 w25 (obC b24 [.int .i64 0] 24 :: obC b19 [.int .i64 0] 3 :: obC b14 [.int .i64 work] 3 :: []) := hH27
 refine V_to (fun _ _ => rfl) ?_
 refine C_seq ?_
 refine C_seq ?_
 refine C_region_qt (Dw := Dw) 6 Try_mixed (by kernel_rfl) ?_
 simp only [List.take, List.drop]
 obtain ⟨v29, v31, v33, h35, h30, h32, h34⟩ := El_cal_Calendar h11
 refine VQ_y (fun w' hw' => Y_loadA (At.kp (Dw := Dw) h35 hw' h11.2.1) Try.isAgg58 Try.sizeOf58 rfl) rfl rfl rfl ?_
 obtain ⟨x36, hx36, hm⟩ := Option.bind_eq_some_iff.1 hm
 refine VQ_call (.int .i64 x36) Try.call29 rfl rfl rfl rfl (fun w' hw' => (cal_CheckCalendar_c (Dw := Dw) w' (fun b hb => hA b (Nat.le_trans hw'.size hb)) c v29 (Sl.kp (Dw := Dw) h30 hw') v31 (Sl.kp (Dw := Dw) h32 hw') v33 (Sl.kp (Dw := Dw) h34 hw') hx36).mono (fun _ _ h => ⟨h.1, Kp.trans (Dw := Dw) hw' h.2⟩)) ?_
 refine VQ_y (fun w' hw' => Y_move rfl) rfl rfl rfl ?_
 refine VQ_call (.int .i64 (cal_moment from_)) Try.call66 rfl rfl rfl rfl (fun w' hw' => (cal_moment_c w' from_).mono (fun _ _ h => ⟨h.1, h.2 ▸ hw'⟩)) ?_
 refine VQ_y (fun w' hw' => Y_load ((World.cell?_of_block (hw'.block _ (World.block_lt_of_cell? _ _ (Hp.cell (j := 0) hH (i := 2) rfl rfl)))).trans (Hp.cell (j := 0) hH (i := 2) rfl rfl)) Try.isAgg3 rfl) rfl rfl rfl ?_
 refine VQ_call (.int .i64 (cal_workOf work)) Try.call67 rfl rfl rfl rfl (fun w' hw' => (cal_workOf_c w' work).mono (fun _ _ h => ⟨h.1, h.2 ▸ hw'⟩)) ?_
 refine VQ_tail (fun w37 hk38 => ?_)
 try simp only [List.take, List.drop]
 have ht39 := Kp.tr (Dw := Dw) hk38 hA hB
 replace hH := Hp.kp (Dw := Dw) hH hk38
 replace h11 := El.tr (Dw := Dw) h11 ht39
 replace hK := Tr.trans (Dw := Dw) hK ht39
 replace hB := Nat.le_trans hB ht39.ex.size
 replace hA := ht39.new
 refine V_buildSlice (Dw := Dw) (cells := #[.int .i64 x36, .int .i64 (cal_moment from_), .int .i64 (cal_workOf work)]) (l := ([x36, (cal_moment from_), (cal_workOf work)] : List Int)) (len := 3) Try.underlying50 Try.sizeOf24 Try.zeroValue24 rfl (by generalize ((cal_moment from_) : Int) = z44; generalize ((cal_workOf work) : Int) = z45; kernel_rfl) (show (3 * 1 : Nat) ≠ 0 by decide) (show (3 * 1 : Nat) ≤ 2 ^ 24 by decide) hA ⟨[.int .i64 x36], _, rfl, rfl, ⟨[.int .i64 (cal_moment from_)], _, rfl, rfl, ⟨[.int .i64 (cal_workOf work)], _, rfl, rfl, rfl⟩⟩⟩ rfl rfl ?_
 intro v40 w41 hk43 h42
 have ht46 := Kp.tr (Dw := Dw) hk43 hA hB
 replace hH := Hp.kp (Dw := Dw) hH hk43
 replace h11 := El.tr (Dw := Dw) h11 ht46
 replace hK := Tr.trans (Dw := Dw) hK ht46
 replace hB := Nat.le_trans hB ht46.ex.size
 replace hA := ht46.new
 obtain ⟨x47, hx47, hm⟩ := Option.bind_eq_some_iff.1 hm
 refine V_call Try.call9 rfl rfl rfl rfl (cmp_Or_api_Errno_c w41 ([x36, (cal_moment from_), (cal_workOf work)] : List Int) v40 h42 hx47) ?_
 rintro _ _ ⟨rfl, rfl⟩
 refine V_y (Y_assign rfl) rfl rfl rfl ?_
 refine V_to (fun _ _ => rfl) ?_
 refine C_seq ?_
 refine C_region ?_
 refine V_y (Y_move rfl) rfl rfl rfl ?_
 refine V_y (Y_neq rfl rfl) rfl rfl rfl ?_
 refine V_to (fun _ _ => rfl) ?_
 refine C_cond rfl (fun hc48 => ?_) (fun hc48 => ?_)
 ·rw [if_pos hc48] at hm
  refine C_seq ?_
  refine C_region ?_
  refine V_y (Y_move rfl) rfl rfl rfl ?_
  refine V_storeC (Dw := Dw) (off := 0) (ds := [.int .i64 0]) hH (i := 1) rfl Try.sizeOf3 rfl (Nat.le_of_ble_eq_true rfl) (by simp [Value.cells, Value.oneCell']) rfl hB hA rfl rfl ?_
  intro w49 hH50 ht51
  replace hK := Tr.trans (Dw := Dw) hK ht51
  replace hB := Nat.le_trans hB ht51.ex.size
  replace hA := ht51.new
  replace hH : Hp w.heap.size A26 w49 (obC b24 [.int .i64 0] 24 :: obC b19 [.int .i64 0] 3 :: obC b14 [.int .i64 work] 3 :: []) := hH50
  refine V_storeC (Dw := Dw) (off := 0) (ds := [.int .i64 x47]) hH (i := 0) rfl Try.sizeOf24 rfl (Nat.le_of_ble_eq_true rfl) (by simp [Value.cells, Value.oneCell']) rfl hB hA rfl rfl ?_
  intro w52 hH53 ht54
  replace hK := Tr.trans (Dw := Dw) hK ht54
  replace hH : Hp w.heap.size A26 w52 (obC b24 [.int .i64 x47] 24 :: obC b19 [.int .i64 0] 3 :: obC b14 [.int .i64 work] 3 :: []) := hH53
  refine V_to (fun _ _ => rfl) ?_
  obtain rfl := Option.some.inj hm
  refine C_ret ?_
  try simp only [↓inBlock_ret, ↓then_ret]
  exact retM rfl (Res.l2 Try.results49 (RL.cell rfl (loadVar_one (Hp.cell (j := 0) hH (i := 1) rfl rfl) Try.isAgg3)) (RL.cell rfl (loadVar_one (Hp.cell (j := 0) hH (i := 0) rfl rfl) Try.isAgg24))) ⟨rfl, hK.kp⟩
 ·rw [if_neg (nt hc48)] at hm
  refine C_skip_to (fun _ _ => rfl) ?_
  refine C_seq ?_
  refine C_seq ?_
  refine C_region ?_
  obtain ⟨v55, v57, v59, h61, h56, h58, h60⟩ := El_cal_Calendar h11
  refine V_y (Y_loadA h61 Try.isAgg58 Try.sizeOf58 rfl) rfl rfl rfl ?_
  refine V_y (Y_move rfl) rfl rfl rfl ?_
  obtain ⟨x62, hx62, hm⟩ := Option.bind_eq_some_iff.1 hm
  refine V_call Try.call51 rfl rfl rfl rfl (cal_Calendar_open_c (Dw := Dw) w41 hA c v55 h56 v57 h58 v59 h60 from_ 3000001 hx62) ?_
  rintro _ w69 ⟨b63, b65, b67, rfl, h64, h66, h68, hk70⟩
  have ht71 := Kp.tr (Dw := Dw) hk70 hA hB
  replace hH := Hp.kp (Dw := Dw) hH hk70
  replace hK := Tr.trans (Dw := Dw) hK ht71
  replace hB := Nat.le_trans hB ht71.ex.size
  replace hA := ht71.new
  refine V_to (fun _ _ => rfl) ?_
  have hH76 : Hp w.heap.size A26 w69 ((fun (s73 : (Int × Int × Int)) => obE (fun (i : Unit) => [obC b24 [.int .i64 s73.1] 24, obC b19 [.int .i64 s73.2.1] 3, obC b14 [.int .i64 s73.2.2] 3])) (0, 0, work) :: []) := Hp.pack (F := fun (i : Unit) => [obC b24 [.int .i64 (0, 0, work).1] 24, obC b19 [.int .i64 (0, 0, work).2.1] 3, obC b14 [.int .i64 (0, 0, work).2.2] 3]) () hH
  obtain ⟨z72, hz72, hm⟩ := Option.bind_eq_some_iff.1 hm
  refine C_cutN (ι := Nat × (Nat → Prop)) (fun i => ⟨41, [{ target := .collected i.1, args := #[] }], none⟩) (fun i => [(6, .pointer (some ⟨b19, 0, none⟩)), (7, .pointer (some ⟨b24, 0, none⟩))]) (fun i w' => z72.2 ≠ some 0 ∧ Hp w.heap.size i.2 w' ((fun (s73 : (Int × Int × Int)) => obE (fun (i : Unit) => [obC b24 [.int .i64 s73.1] 24, obC b19 [.int .i64 s73.2.1] 3, obC b14 [.int .i64 s73.2.2] 3])) z72.1 :: obO i.1 (.deferred (some [])) :: []) ∧ Tr Dw w.heap.size A26 w69 i.2 w') ?_ ?_
  ·refine C_block ?_
   refine C_rangeFunc (Dw := Dw) (B := w.heap.size) (A := A26) (L := []) (X := cal_Span) (fun (x82 : cal_Span) => [.agg #[.int .i64 x82.from_, .int .i64 x82.to_]]) (fun (s73 : (Int × Int × Int)) => obE (fun (i : Unit) => [obC b24 [.int .i64 s73.1] 24, obC b19 [.int .i64 s73.2.1] 3, obC b14 [.int .i64 s73.2.2] 3])) (fun (x82 : cal_Span) (s74 : (Int × Int × Int)) => if (decide ((w64 (x82.to_ - x82.from_)) ≤ s74.2.2)) = true then some ((s74.1, s74.2.1, w64 (s74.2.2 - (w64 (x82.to_ - x82.from_)))), none) else some ((0, w64 (x82.from_ + s74.2.2), s74.2.2), some 0)) (fun k => if k = 0 then .ret else .exit 0) (s0 := (0, 0, work)) (zf := z72) rfl rfl rfl (by decide) (fun _ => rfl) hB hA hH76 68 _ rfl Try.call68 ?_ ?_ ?_ ?_
   ·intro Ys yv w1 A1 L1 h1 h2 h3 h4 h0 h5
    exact (cal_Calendar_open_1_c (Dw := Dw) w1 h1 h2 (yieldB (fun (x82 : cal_Span) (s74 : (Int × Int × Int)) => if (decide ((w64 (x82.to_ - x82.from_)) ≤ s74.2.2)) = true then some ((s74.1, s74.2.1, w64 (s74.2.2 - (w64 (x82.to_ - x82.from_)))), none) else some ((0, w64 (x82.from_ + s74.2.2), s74.2.2), some 0))) Ys yv h0 ((0, 0, work), none) h5 x62.1 b63 (El.tr (Dw := Dw) h64 h3) x62.2.1 b65 (El.tr (Dw := Dw) h66 h3) x62.2.2 b67 (El.tr (Dw := Dw) h68 h3) h4 hz72).mono fun _ _ ⟨A3, _, hh, tt⟩ => ⟨A3, tt, hh⟩
   ·intro l77 rc78 w79 A80 L81 x82 s74 s75 j83 hst84 hB85 hA86 ht87 hH88 h89
    obtain ⟨_, hH88⟩ := Hp.open hH88
    replace hB := Nat.le_trans hB ht87.ex.size
    replace hA := ht87.new
    replace hH : Hp w.heap.size A80 w79 (obC b24 [.int .i64 s74.1] 24 :: obC b19 [.int .i64 s74.2.1] 3 :: obC b14 [.int .i64 s74.2.2] 3 :: obO l77 (.loop rc78) :: L81) := hH88
    have hr90 : Tr Dw w.heap.size A80 w79 A80 w79 := Tr.refl (Dw := Dw) hA
    show C _ _ _ _ _ _
    refine C_region ?_
    refine V_alloc Try.zeroValue88 rfl ?_
    intro b92 w93 h94
    refine V_storeNew h94 Try.sizeOf88 rfl rfl rfl rfl (by exact (List.forall_mem_cons.2 ⟨rfl, (List.forall_mem_cons.2 ⟨rfl, (fun _ h => nomatch h)⟩)⟩)) ?_
    intro w95 h96
    have hk98 := h96.kp (Dw := Dw)
    have h97 : El (α := cal_Span) A80 w95 b92 0 x82 := h96.el hA ⟨[.int .i64 x82.from_], _, rfl, rfl, rfl⟩
    have ht99 := Kp.tr (Dw := Dw) hk98 hA hB
    replace hH := Hp.kp (Dw := Dw) hH hk98
    replace hr90 := Tr.trans (Dw := Dw) hr90 ht99
    replace hB := Nat.le_trans hB ht99.ex.size
    replace hA := ht99.new
    refine V_end (fun a ha100 => ?_)
    refine begin_at (Dw := Dw) hH (i := 3) rfl hst84 hB hA (fun w101 hH102 ht103 => ?_) ha100
    replace h97 := El.tr (Dw := Dw) h97 ht103
    replace hr90 := Tr.trans (Dw := Dw) hr90 ht103
    replace hB := Nat.le_trans hB ht103.ex.size
    replace hA := ht103.new
    replace hH : Hp w.heap.size A80 w101 (obC b24 [.int .i64 s74.1] 24 :: obC b19 [.int .i64 s74.2.1] 3 :: obC b14 [.int .i64 s74.2.2] 3 :: obO l77 (.loop { rc78 with state := .busy }) :: L81) := hH102
    refine C_block ?_
    refine C_seq ?_
    refine C_region ?_
    have h104 := El_cal_Span_1 h97
    refine V_y (Y_fieldAddr Try.underlying88 rfl Try.sizeOf3 (by decide) rfl) rfl rfl rfl ?_
    refine V_y (Y_load (El.int h104) Try.isAgg3 rfl) rfl rfl rfl ?_
    have h105 := El_cal_Span_0 h97
    refine V_y (Y_fieldAddr Try.underlying88 rfl Try.sizeOf3 (by decide) rfl) rfl rfl rfl ?_
    refine V_y (Y_load (El.int h105) Try.isAgg3 rfl) rfl rfl rfl ?_
    refine V_y (Y_subI rfl rfl) rfl rfl rfl ?_
    refine V_y (Y_assign rfl) rfl rfl rfl ?_
    refine V_to (fun _ _ => rfl) ?_
    refine C_seq ?_
    refine C_region ?_
    refine V_y (Y_load (Hp.cell (j := 0) hH (i := 2) rfl rfl) Try.isAgg3 rfl) rfl rfl rfl ?_
    refine V_y (Y_move rfl) rfl rfl rfl ?_
    refine V_y (Y_geq rfl rfl) rfl rfl rfl ?_
    refine V_to (fun _ _ => rfl) ?_
    refine C_cond rfl (fun hc106 => ?_) (fun hc106 => ?_)
    ·rw [if_pos hc106] at h89
     refine C_region ?_
     refine V_y (Y_load (Hp.cell (j := 0) hH (i := 2) rfl rfl) Try.isAgg3 rfl) rfl rfl rfl ?_
     refine V_y (Y_move rfl) rfl rfl rfl ?_
     refine V_y (Y_subI rfl rfl) rfl rfl rfl ?_
     refine V_storeC (Dw := Dw) (off := 0) (ds := [.int .i64 (w64 (s74.2.2 - (w64 (x82.to_ - x82.from_))))]) hH (i := 2) rfl Try.sizeOf3 rfl (Nat.le_of_ble_eq_true rfl) (by simp [Value.cells, Value.oneCell']) rfl hB hA rfl rfl ?_
     intro w107 hH108 ht109
     replace hr90 := Tr.trans (Dw := Dw) hr90 ht109
     replace hH : Hp w.heap.size A80 w107 (obC b24 [.int .i64 s74.1] 24 :: obC b19 [.int .i64 s74.2.1] 3 :: obC b14 [.int .i64 (w64 (s74.2.2 - (w64 (x82.to_ - x82.from_))))] 3 :: obO l77 (.loop { rc78 with state := .busy }) :: L81) := hH108
     obtain ⟨rfl, rfl⟩ := Prod.mk.inj (Option.some.inj h89)
     refine V_end (fun a ha110 => ?_)
     exact ⟨rfl, A80, hr90, Hp.pack (F := fun (i : Unit) => [obC b24 [.int .i64 (s74.1, s74.2.1, w64 (s74.2.2 - (w64 (x82.to_ - x82.from_)))).1] 24, obC b19 [.int .i64 (s74.1, s74.2.1, w64 (s74.2.2 - (w64 (x82.to_ - x82.from_)))).2.1] 3, obC b14 [.int .i64 (s74.1, s74.2.1, w64 (s74.2.2 - (w64 (x82.to_ - x82.from_)))).2.2] 3]) () hH⟩
    ·rw [if_neg (nt hc106)] at h89
     refine C_seq ?_
     refine C_region ?_
     have h111 := El_cal_Span_0 h97
     refine V_y (Y_fieldAddr Try.underlying88 rfl Try.sizeOf3 (by decide) rfl) rfl rfl rfl ?_
     refine V_y (Y_load (El.int h111) Try.isAgg3 rfl) rfl rfl rfl ?_
     refine V_y (Y_load (Hp.cell (j := 0) hH (i := 2) rfl rfl) Try.isAgg3 rfl) rfl rfl rfl ?_
     refine V_y (Y_addI rfl rfl) rfl rfl rfl ?_
     refine V_storeC (Dw := Dw) (off := 0) (ds := [.int .i64 (w64 (x82.from_ + s74.2.2))]) hH (i := 1) rfl Try.sizeOf3 rfl (Nat.le_of_ble_eq_true rfl) (by simp [Value.cells, Value.oneCell']) rfl hB hA rfl rfl ?_
     intro w112 hH113 ht114
     replace hr90 := Tr.trans (Dw := Dw) hr90 ht114
     replace hB := Nat.le_trans hB ht114.ex.size
     replace hA := ht114.new
     replace hH : Hp w.heap.size A80 w112 (obC b24 [.int .i64 s74.1] 24 :: obC b19 [.int .i64 (w64 (x82.from_ + s74.2.2))] 3 :: obC b14 [.int .i64 s74.2.2] 3 :: obO l77 (.loop { rc78 with state := .busy }) :: L81) := hH113
     refine V_storeC (Dw := Dw) (off := 0) (ds := [.int .i64 0]) hH (i := 0) rfl Try.sizeOf24 rfl (Nat.le_of_ble_eq_true rfl) (by simp [Value.cells, Value.oneCell']) rfl hB hA rfl rfl ?_
     intro w115 hH116 ht117
     replace hr90 := Tr.trans (Dw := Dw) hr90 ht117
     replace hH : Hp w.heap.size A80 w115 (obC b24 [.int .i64 0] 24 :: obC b19 [.int .i64 (w64 (x82.from_ + s74.2.2))] 3 :: obC b14 [.int .i64 s74.2.2] 3 :: obO l77 (.loop { rc78 with state := .busy }) :: L81) := hH116
     refine V_to (fun _ _ => rfl) ?_
     obtain ⟨rfl, rfl⟩ := Prod.mk.inj (Option.some.inj h89)
     refine C_ret (fun a ha118 => ?_)
     exact ⟨rfl, A80, hr90, Hp.pack (F := fun (i : Unit) => [obC b24 [.int .i64 (0, w64 (x82.from_ + s74.2.2), s74.2.2).1] 24, obC b19 [.int .i64 (0, w64 (x82.from_ + s74.2.2), s74.2.2).2.1] 3, obC b14 [.int .i64 (0, w64 (x82.from_ + s74.2.2), s74.2.2).2.2] 3]) () hH⟩
   ·intro hc124 D119 w120 A121 ht122 hH123 a ha125
    exact ⟨(D119, A121), ha125.sub ⟨rfl, rfl, trivial⟩, (by rw [hc124]; simp), hH123, ht122⟩
   ·intro k126 hc124 D119 w120 A121 ht122 hH123
    by_cases hc127 : k126 = 0
    ·subst hc127
     rw [if_pos hc124] at hm
     obtain ⟨_, hH123⟩ := Hp.open hH123
     replace hK := Tr.trans (Dw := Dw) hK ht122
     replace hB := Nat.le_trans hB ht122.ex.size
     replace hA := ht122.new
     replace hH : Hp w.heap.size A121 w120 (obC b24 [.int .i64 z72.1.1] 24 :: obC b19 [.int .i64 z72.1.2.1] 3 :: obC b14 [.int .i64 z72.1.2.2] 3 :: obO D119 (.deferred (some [])) :: []) := hH123
     show C _ _ .ret _ _ _
     obtain rfl := Option.some.inj hm
     have h128 := Hp.obj hH (i := 3) (b := D119) rfl
     obtain ⟨hH129, ht130⟩ := Hp.put (Dw := Dw) (.deferred none) hH (i := 3) (b := D119) rfl hB hA
     replace hK := Tr.trans (Dw := Dw) hK ht130
     replace hH : Hp w.heap.size A121 (World.putObj w120 D119 (.deferred none)) (obC b24 [.int .i64 z72.1.1] 24 :: obC b19 [.int .i64 z72.1.2.1] 3 :: obC b14 [.int .i64 z72.1.2.2] 3 :: obO D119 (.deferred none) :: []) := hH129
     refine C_ret ?_
     try simp only [↓inBlock_ret, ↓then_ret]
     exact retM1 rfl h128 (Res.l2 Try.results49 (RL.cell rfl (loadVar_one (Hp.cell (j := 0) hH (i := 1) rfl rfl) Try.isAgg3)) (RL.cell rfl (loadVar_one (Hp.cell (j := 0) hH (i := 0) rfl rfl) Try.isAgg24))) ⟨rfl, hK.kp⟩
    ·show C _ _ (if k126 = 0 then _ else _) _ _ _
     rw [if_neg hc127]
     refine C_exit fun a ha125 => ?_
     show Exit.inBlock _ _ _ _ _
     rw [Exit.inBlock, if_pos rfl]
     exact ⟨(D119, A121), ha125.sub ⟨rfl, rfl, trivial⟩, (by rw [hc124]; simpa using hc127), hH123, ht122⟩
  rintro ⟨D119, A121⟩ w120 ⟨hc131, hH123, ht122⟩ a ha125
  rw [if_neg hc131] at hm
  obtain ⟨_, hH123⟩ := Hp.open hH123
  replace hK := Tr.trans (Dw := Dw) hK ht122
  replace hB := Nat.le_trans hB ht122.ex.size
  replace hA := ht122.new
  replace hH : Hp w.heap.size A121 w120 (obC b24 [.int .i64 z72.1.1] 24 :: obC b19 [.int .i64 z72.1.2.1] 3 :: obC b14 [.int .i64 z72.1.2.2] 3 :: obO D119 (.deferred (some [])) :: []) := hH123
  refine C_at (n := ⟨41, [{ target := .collected D119, args := #[] }], none⟩) (fun _ _ => rfl) ?_ ha125
  refine C_seq ?_
  refine C_region ?_
  refine V_storeC (Dw := Dw) (off := 0) (ds := [.int .i64 0]) hH (i := 1) rfl Try.sizeOf3 rfl (Nat.le_of_ble_eq_true rfl) (by simp [Value.cells, Value.oneCell']) rfl hB hA rfl rfl ?_
  intro w132 hH133 ht134
  replace hK := Tr.trans (Dw := Dw) hK ht134
  replace hB := Nat.le_trans hB ht134.ex.size
  replace hA := ht134.new
  replace hH : Hp w.heap.size A121 w132 (obC b24 [.int .i64 z72.1.1] 24 :: obC b19 [.int .i64 0] 3 :: obC b14 [.int .i64 z72.1.2.2] 3 :: obO D119 (.deferred (some [])) :: []) := hH133
  refine V_storeC (Dw := Dw) (off := 0) (ds := [.int .i64 7]) hH (i := 0) rfl Try.sizeOf24 rfl (Nat.le_of_ble_eq_true rfl) (by simp [Value.cells, Value.oneCell']) rfl hB hA rfl rfl ?_
  intro w135 hH136 ht137
  replace hK := Tr.trans (Dw := Dw) hK ht137
  replace hB := Nat.le_trans hB ht137.ex.size
  replace hA := ht137.new
  replace hH : Hp w.heap.size A121 w135 (obC b24 [.int .i64 7] 24 :: obC b19 [.int .i64 0] 3 :: obC b14 [.int .i64 z72.1.2.2] 3 :: obO D119 (.deferred (some [])) :: []) := hH136
  refine V_to (fun _ _ => rfl) ?_
  obtain rfl := Option.some.inj hm
  have h138 := Hp.obj hH (i := 3) (b := D119) rfl
  obtain ⟨hH139, ht140⟩ := Hp.put (Dw := Dw) (.deferred none) hH (i := 3) (b := D119) rfl hB hA
  replace hK := Tr.trans (Dw := Dw) hK ht140
  replace hH : Hp w.heap.size A121 (World.putObj w135 D119 (.deferred none)) (obC b24 [.int .i64 7] 24 :: obC b19 [.int .i64 0] 3 :: obC b14 [.int .i64 z72.1.2.2] 3 :: obO D119 (.deferred none) :: []) := hH139
  refine C_ret ?_
  try simp only [↓inBlock_ret, ↓then_ret]
  exact retM1 rfl h138 (Res.l2 Try.results49 (RL.cell rfl (loadVar_one (Hp.cell (j := 0) hH (i := 1) rfl rfl) Try.isAgg3)) (RL.cell rfl (loadVar_one (Hp.cell (j := 0) hH (i := 0) rfl rfl) Try.isAgg24))) ⟨rfl, hK.kp⟩
set_option maxRecDepth 4000 in
set_option maxHeartbeats 4000000 in
theorem level_counted_c (w : World) {A : Nat → Prop} (hA : ∀ b, w.heap.size ≤ b → A b) (c : level_Clock) (v_c : Value) (h_c : Sl A w v_c c.pieces) (cals : (List cal_Calendar)) (v_cals : Value) (h_cals : Sl A w v_cals cals) (k_ : Int) {r : (Int × Bool)} (hm : level_counted c cals k_ = some r) : Ret Try.prog 33 #[.agg #[.int .i64 c.kind, .int .i64 c.level, .int .i64 c.minutes, .int .i64 c.start, .int .i64 c.stop, .int .i64 c.end_, v_c], v_cals, .int .i64 k_] w fun v w' => v = .tuple #[.int .i64 r.1, .bool r.2] ∧ Kp Dw w w' := by
 unfold level_counted at hm
 refine enter Try.func33 rfl Try.ntmps33 rfl ?_
 have hA0 := hA
 have hB := Nat.le_refl w.heap.size
 have hK : Tr Dw w.heap.size A w A w := Tr.refl (Dw := Dw) hA
 have hH : Hp w.heap.size A w [] := Hp.nil
 refine C_seq ?_
 refine C_region ?_
 refine V_box rfl rfl ?_
 intro b5 w6 h7
 have hk9 := h7.kp (Dw := Dw)
 have h8 : El (α := level_Clock) A w6 b5 0 c := h7.el hA ⟨[.int .i64 c.kind], _, rfl, rfl, ⟨[.int .i64 c.level], _, rfl, rfl, ⟨[.int .i64 c.minutes], _, rfl, rfl, ⟨[.int .i64 c.start], _, rfl, rfl, ⟨[.int .i64 c.stop], _, rfl, rfl, ⟨[.int .i64 c.end_], _, rfl, rfl, ⟨_, rfl, h_c⟩⟩⟩⟩⟩⟩⟩
 have ht10 := Kp.tr (Dw := Dw) hk9 hA hB
 replace hH := Hp.kp (Dw := Dw) hH hk9
 replace h_cals := Sl.tr (Dw := Dw) h_cals ht10
 replace hK := Tr.trans (Dw := Dw) hK ht10
 replace hB := Nat.le_trans hB ht10.ex.size
 replace hA := ht10.new
 refine V_y (Y_assign rfl) rfl rfl rfl ?_
 refine V_y (Y_assign rfl) rfl rfl rfl ?_
 refine V_to (fun _ _ => rfl) ?_
 refine C_seq ?_
 refine C_seq ?_
 refine C_region ?_
 have h11 := El_level_Clock_6 h8
 refine V_y (Y_fieldAddr Try.underlying37 rfl Try.sizeOf35 (by decide) rfl) rfl rfl rfl ?_
 obtain ⟨v12, h13, h14⟩ := El.list h11
 refine V_y (Y_load h13 Try.isAgg35 rfl) rfl rfl rfl ?_
 refine V_y (Y_lenSl h14 rfl Try.underlying35 rfl) rfl rfl rfl ?_
 refine V_y (Y_move rfl) rfl rfl rfl ?_
 refine V_to (fun _ _ => rfl) ?_
 have hn35 := Sl.le h14
 obtain ⟨o15, ho15, hm⟩ := Option.bind_eq_some_iff.1 hm
 refine C_cutG (ι := (Int × (Nat → Prop))) (fun ⟨s16, A22⟩ => []) (fun ⟨s16, A22⟩ => fun w' => o15 = .fin s16 ∧ Hp w.heap.size A22 w' ([]) ∧ Tr Dw w.heap.size A w6 A22 w') ?_ ?_
 ·refine C_block ?_
  refine C_range ho15 (fun k18 s24 a w' => ∃ i : (Nat → Prop), Has ⟨60, [], none⟩ a ([(1, v_cals), (2, .int .i64 s24), (16, v12), (17, .int .i64 (c.pieces.length : Int)), (18, .int .i64 (k18 : Int))]) ∧ Hp w.heap.size i w' ([]) ∧ Tr Dw w.heap.size A w6 i w') (fun a ha => ⟨A, ha.sub ⟨rfl, rfl, rfl, rfl, rfl, trivial⟩, ⟨hH, Tr.refl (Dw := Dw) hA⟩⟩) ?_
  rintro K k18 s24 a w25 ⟨A26, ha96, hH27, hr17⟩ hle31 K34 h33
  refine C_of ?_ ha96
  replace h_cals := Sl.tr (Dw := Dw) h_cals hr17
  replace h14 := Sl.tr (Dw := Dw) h14 hr17
  replace hK := Tr.trans (Dw := Dw) hK hr17
  replace hB := Nat.le_trans hB hr17.ex.size
  replace hA := hr17.new
  replace hH : Hp w.heap.size A26 w25 ([]) := hH27
  refine C_seq (C_region (V_y (Y_lss rfl rfl) rfl rfl rfl (V_to (fun _ _ => rfl) ?_)))
  refine C_seq ?_
  refine C_cond rfl (fun hc36 => ?_) (fun hc36 => ?_)
  ·have hlt32 := lt_of_dec hc36
   obtain ⟨x28, h29, h30⟩ := K34 hlt32
   refine C_skip_to (fun _ _ => rfl) ?_
   refine C_seq ?_
   refine C_block ?_
   refine C_seq ?_
   refine C_region ?_
   obtain ⟨x37, hx37, h29⟩ := Option.bind_eq_some_iff.1 h29
   refine V_indexAddr h14 hx37 Try.underlying35 Try.sizeOf62 rfl rfl rfl ?_
   intro b38 o39 h40
   obtain ⟨h41, _⟩ := El_level_Piece h40
   refine V_y (Y_loadA h41 Try.isAgg62 Try.sizeOf62 rfl) rfl rfl rfl ?_
   refine V_alloc Try.zeroValue62 rfl ?_
   intro b42 w43 h44
   refine V_storeNew h44 Try.sizeOf62 rfl rfl rfl rfl (by exact (List.forall_mem_cons.2 ⟨rfl, (List.forall_mem_cons.2 ⟨rfl, (List.forall_mem_cons.2 ⟨rfl, (fun _ h => nomatch h)⟩)⟩)⟩)) ?_
   intro w45 h46
   have hk48 := h46.kp (Dw := Dw)
   have h47 : El (α := level_Piece) A26 w45 b42 0 x37 := h46.el hA ⟨[.int .i64 x37.from_], _, rfl, rfl, ⟨[.int .i64 x37.to_], _, rfl, rfl, rfl⟩⟩
   have ht49 := Kp.tr (Dw := Dw) hk48 hA hB
   replace hH := Hp.kp (Dw := Dw) hH hk48
   replace h_cals := Sl.tr (Dw := Dw) h_cals ht49
   replace hK := Tr.trans (Dw := Dw) hK ht49
   replace hr17 := Tr.trans (Dw := Dw) hr17 ht49
   replace hB := Nat.le_trans hB ht49.ex.size
   replace hA := ht49.new
   refine V_to (fun _ _ => rfl) ?_
   refine C_seq ?_
   refine C_region ?_
   have h50 := El_level_Piece_1 h47
   refine V_y (Y_fieldAddr Try.underlying62 rfl Try.sizeOf3 (by decide) rfl) rfl rfl rfl ?_
   refine V_y (Y_load (El.int h50) Try.isAgg3 rfl) rfl rfl rfl ?_
   refine V_y (Y_assign rfl) rfl rfl rfl ?_
   refine V_to (fun _ _ => rfl) ?_
   refine C_seq ?_
   refine C_seq ?_
   refine C_region ?_
   refine V_y (Y_move rfl) rfl rfl rfl ?_
   refine V_y (Y_eql rfl rfl) rfl rfl rfl ?_
   refine V_to (fun _ _ => rfl) ?_
   obtain ⟨s52, ho51, h29⟩ := Option.bind_eq_some_iff.1 h29
   refine C_cutG (ι := Unit) (fun (_ : Unit) => [(1, v_cals), (2, .int .i64 s24), (9, .pointer (some ⟨b42, 0, none⟩)), (10, .int .i64 s52), (16, v12), (17, .int .i64 (c.pieces.length : Int)), (18, .int .i64 (k18 : Int))]) (fun (_ : Unit) => fun w' => w45 = w') ?_ ?_
   ·refine C_cond rfl (fun hc57 => ?_) (fun hc57 => ?_)
    ·rw [if_pos hc57] at ho51
     refine C_region ?_
     refine V_y (Y_assign rfl) rfl rfl rfl ?_
     obtain rfl := Option.some.inj ho51
     refine V_end (fun a ha58 => ?_)
     exact ⟨(), ha58.sub ⟨rfl, rfl, rfl, rfl, rfl, rfl, rfl, trivial⟩, rfl⟩
    ·rw [if_neg (nt hc57)] at ho51
     obtain rfl := Option.some.inj ho51
     refine C_skip (fun a ha59 => ?_)
     exact ⟨(), ha59.sub ⟨rfl, rfl, rfl, rfl, rfl, rfl, rfl, trivial⟩, rfl⟩
   rintro _ _ rfl a ha56
   refine C_at (n := ⟨60, [], none⟩) (fun _ _ => rfl) ?_ ha56
   refine C_seq ?_
   refine C_region_q (Dw := Dw) Try_mixed (by kernel_rfl) ?_
   refine VQ_y (fun w' hw' => Y_move rfl) rfl rfl rfl ?_
   have h60 := El_level_Piece_2 h47
   refine VQ_y (fun w' hw' => Y_fieldAddr Try.underlying62 rfl Try.sizeOf3 (by decide) rfl) rfl rfl rfl ?_
   refine VQ_y (fun w' hw' => Y_load (El.int (El.kp (Dw := Dw) h60 hw')) Try.isAgg3 rfl) rfl rfl rfl ?_
   obtain ⟨x61, hx61, h29⟩ := Option.bind_eq_some_iff.1 h29
   refine VQ_indexAddr h_cals hx61 Try.underlying23 Try.sizeOf58 rfl rfl rfl ?_
   intro b62 o63 h64
   obtain ⟨v65, v67, v69, h71, h66, h68, h70⟩ := El_cal_Calendar h64
   refine VQ_y (fun w' hw' => Y_loadA (At.kp (Dw := Dw) h71 hw' h64.2.1) Try.isAgg58 Try.sizeOf58 rfl) rfl rfl rfl ?_
   have h72 := El_level_Piece_0 h47
   refine VQ_y (fun w' hw' => Y_fieldAddr Try.underlying62 rfl Try.sizeOf3 (by decide) rfl) rfl rfl rfl ?_
   refine VQ_y (fun w' hw' => Y_load (El.int (El.kp (Dw := Dw) h72 hw')) Try.isAgg3 rfl) rfl rfl rfl ?_
   refine VQ_y (fun w' hw' => Y_move rfl) rfl rfl rfl ?_
   obtain ⟨x73, hx73, h29⟩ := Option.bind_eq_some_iff.1 h29
   refine VQ_call (.tuple #[.int .i64 x73.1, .int .i64 x73.2]) Try.call34 rfl rfl rfl rfl (fun w' hw' => (cal_Worked_c (Dw := Dw) w' (fun b hb => hA b (Nat.le_trans hw'.size hb)) x61 v65 (Sl.kp (Dw := Dw) h66 hw') v67 (Sl.kp (Dw := Dw) h68 hw') v69 (Sl.kp (Dw := Dw) h70 hw') x37.from_ s52 hx73).mono (fun _ _ h => ⟨h.1, Kp.trans (Dw := Dw) hw' h.2⟩)) ?_
   refine VQ_y (fun w' hw' => Y_move rfl) rfl rfl rfl ?_
   refine VQ_y (fun w' hw' => Y_extract rfl rfl) rfl rfl rfl ?_
   refine VQ_y (fun w' hw' => Y_extract rfl rfl) rfl rfl rfl ?_
   refine VQ_y (fun w' hw' => Y_assign rfl) rfl rfl rfl ?_
   refine VQ_y (fun w' hw' => Y_assign rfl) rfl rfl rfl ?_
   refine VQ_to (fun _ _ => rfl) (fun w74 hk75 => ?_)
   have ht76 := Kp.tr (Dw := Dw) hk75 hA hB
   replace hH := Hp.kp (Dw := Dw) hH hk75
   replace h_cals := Sl.tr (Dw := Dw) h_cals ht76
   replace h47 := El.tr (Dw := Dw) h47 ht76
   replace hK := Tr.trans (Dw := Dw) hK ht76
   replace hr17 := Tr.trans (Dw := Dw) hr17 ht76
   replace hB := Nat.le_trans hB ht76.ex.size
   replace hA := ht76.new
   refine C_seq ?_
   refine C_seq ?_
   refine C_region ?_
   refine V_y (Y_move rfl) rfl rfl rfl ?_
   refine V_y (Y_move rfl) rfl rfl rfl ?_
   refine V_y (Y_lss rfl rfl) rfl rfl rfl ?_
   refine V_to (fun _ _ => rfl) ?_
   refine C_cond rfl (fun hc77 => ?_) (fun hc77 => ?_)
   ·rw [if_pos hc77] at h29
    refine C_seq ?_
    refine C_region_q (Dw := Dw) Try_mixed (by kernel_rfl) ?_
    refine VQ_y (fun w' hw' => Y_move rfl) rfl rfl rfl ?_
    have h78 := El_level_Piece_2 h47
    refine VQ_y (fun w' hw' => Y_fieldAddr Try.underlying62 rfl Try.sizeOf3 (by decide) rfl) rfl rfl rfl ?_
    refine VQ_y (fun w' hw' => Y_load (El.int (El.kp (Dw := Dw) h78 hw')) Try.isAgg3 rfl) rfl rfl rfl ?_
    refine VQ_indexAddr h_cals hx61 Try.underlying23 Try.sizeOf58 rfl rfl rfl ?_
    intro b79 o80 h81
    obtain ⟨v82, v84, v86, h88, h83, h85, h87⟩ := El_cal_Calendar h81
    refine VQ_y (fun w' hw' => Y_loadA (At.kp (Dw := Dw) h88 hw' h81.2.1) Try.isAgg58 Try.sizeOf58 rfl) rfl rfl rfl ?_
    have h89 := El_level_Piece_0 h47
    refine VQ_y (fun w' hw' => Y_fieldAddr Try.underlying62 rfl Try.sizeOf3 (by decide) rfl) rfl rfl rfl ?_
    refine VQ_y (fun w' hw' => Y_load (El.int (El.kp (Dw := Dw) h89 hw')) Try.isAgg3 rfl) rfl rfl rfl ?_
    refine VQ_y (fun w' hw' => Y_move rfl) rfl rfl rfl ?_
    obtain ⟨x90, hx90, h29⟩ := Option.bind_eq_some_iff.1 h29
    refine VQ_call (.tuple #[.int .i64 x90.1, .int .i64 x90.2]) Try.call49 rfl rfl rfl rfl (fun w' hw' => (cal_Add_c (Dw := Dw) w' (fun b hb => hA b (Nat.le_trans hw'.size hb)) x61 v82 (Sl.kp (Dw := Dw) h83 hw') v84 (Sl.kp (Dw := Dw) h85 hw') v86 (Sl.kp (Dw := Dw) h87 hw') x37.from_ s24 hx90).mono (fun _ _ h => ⟨h.1, Kp.trans (Dw := Dw) hw' h.2⟩)) ?_
    refine VQ_y (fun w' hw' => Y_move rfl) rfl rfl rfl ?_
    refine VQ_y (fun w' hw' => Y_extract rfl rfl) rfl rfl rfl ?_
    refine VQ_y (fun w' hw' => Y_extract rfl rfl) rfl rfl rfl ?_
    refine VQ_y (fun w' hw' => Y_assign rfl) rfl rfl rfl ?_
    refine VQ_y (fun w' hw' => Y_assign rfl) rfl rfl rfl ?_
    refine VQ_to (fun _ _ => rfl) (fun w91 hk92 => ?_)
    have ht93 := Kp.tr (Dw := Dw) hk92 hA hB
    replace hK := Tr.trans (Dw := Dw) hK ht93
    refine C_seq ?_
    refine C_region ?_
    refine V_y (Y_move rfl) rfl rfl rfl ?_
    refine V_y (Y_move rfl) rfl rfl rfl ?_
    refine V_y (Y_eql rfl rfl) rfl rfl rfl ?_
    refine V_y (Y_assign rfl) rfl rfl rfl ?_
    refine V_y (Y_assign rfl) rfl rfl rfl ?_
    refine V_to (fun _ _ => rfl) ?_
    obtain rfl := Option.some.inj h29
    obtain rfl := (h30 : Lp.rt _ = _)
    rw [Lp.andThen_rt] at hm
    obtain rfl := Option.some.inj hm
    refine C_ret ?_
    try simp only [↓inBlock_ret, ↓then_ret]
    exact retQ rfl (Res.two Try.results33 rfl rfl) ⟨rfl, hK.kp⟩
   ·rw [if_neg (nt hc77)] at h29
    refine C_skip_to (fun _ _ => rfl) ?_
    refine C_region ?_
    refine V_y (Y_move rfl) rfl rfl rfl ?_
    refine V_y (Y_move rfl) rfl rfl rfl ?_
    refine V_y (Y_subI rfl rfl) rfl rfl rfl ?_
    refine V_y (Y_assign rfl) rfl rfl rfl ?_
    refine V_to (fun _ _ => rfl) ?_
    refine C_region ?_
    refine V_y (Y_addI rfl rfl) rfl rfl rfl ?_
    refine V_y (Y_move rfl) rfl rfl rfl ?_
    obtain rfl := Option.some.inj h29
    refine V_end (fun a ha94 => ?_)
    exact ⟨w64 (s24 - x73.1), hlt32, h30, ⟨A26, ha94.sub ⟨rfl, rfl, rfl, rfl, (congrArg (fun z => some (Value.int .i64 z)) (w64_succ hlt32 hn35)), trivial⟩, ⟨hH, hr17⟩⟩⟩
  ·refine C_exit (fun a ha95 => ?_)
   exact ⟨(s24, A26), ha95.sub trivial, ⟨(h33 (eq_of_dec hle31 hc36)).symm, hH, hr17⟩⟩
 rintro ⟨s16, A22⟩ w19 ⟨rfl, hH23, hk20⟩ a ha21
 rw [Lp.andThen_fin] at hm
 replace hK := Tr.trans (Dw := Dw) hK hk20
 replace hA := hk20.new
 replace hH : Hp w.heap.size A22 w19 ([]) := hH23
 refine C_at (n := ⟨60, [], none⟩) (fun _ _ => rfl) ?_ ha21
 refine C_seq ?_
 refine C_region ?_
 refine V_y (Y_assign rfl) rfl rfl rfl ?_
 refine V_y (Y_assign rfl) rfl rfl rfl ?_
 refine V_to (fun _ _ => rfl) ?_
 obtain rfl := Option.some.inj hm
 refine C_ret ?_
 try simp only [↓inBlock_ret, ↓then_ret]
 exact retQ rfl (Res.two Try.results33 rfl rfl) ⟨rfl, hK.kp⟩
set_option maxRecDepth 4000 in
set_option maxHeartbeats 4000000 in
theorem level_due_c (w : World) {A : Nat → Prop} (hA : ∀ b, w.heap.size ≤ b → A b) (c : level_Clock) (v_c : Value) (h_c : Sl A w v_c c.pieces) (cals : (List cal_Calendar)) (v_cals : Value) (h_cals : Sl A w v_cals cals) {r : Int} (hm : level_due c cals = some r) : Ret Try.prog 13 #[.agg #[.int .i64 c.kind, .int .i64 c.level, .int .i64 c.minutes, .int .i64 c.start, .int .i64 c.stop, .int .i64 c.end_, v_c], v_cals] w fun v w' => v = .int .i64 r ∧ Kp Dw w w' := by
 unfold level_due at hm
 refine enter Try.func13 rfl Try.ntmps13 rfl ?_
 have hA0 := hA
 have hB := Nat.le_refl w.heap.size
 have hK : Tr Dw w.heap.size A w A w := Tr.refl (Dw := Dw) hA
 have hH : Hp w.heap.size A w [] := Hp.nil
 refine C_seq ?_
 refine C_region ?_
 refine V_box rfl rfl ?_
 intro b5 w6 h7
 have hk9 := h7.kp (Dw := Dw)
 have h8 : El (α := level_Clock) A w6 b5 0 c := h7.el hA ⟨[.int .i64 c.kind], _, rfl, rfl, ⟨[.int .i64 c.level], _, rfl, rfl, ⟨[.int .i64 c.minutes], _, rfl, rfl, ⟨[.int .i64 c.start], _, rfl, rfl, ⟨[.int .i64 c.stop], _, rfl, rfl, ⟨[.int .i64 c.end_], _, rfl, rfl, ⟨_, rfl, h_c⟩⟩⟩⟩⟩⟩⟩
 have ht10 := Kp.tr (Dw := Dw) hk9 hA hB
 replace h_cals := Sl.tr (Dw := Dw) h_cals ht10
 replace hK := Tr.trans (Dw := Dw) hK ht10
 replace hB := Nat.le_trans hB ht10.ex.size
 replace hA := ht10.new
 refine V_y (Y_assign rfl) rfl rfl rfl ?_
 refine V_to (fun _ _ => rfl) ?_
 refine C_seq ?_
 refine C_seq ?_
 refine C_region ?_
 obtain ⟨v11, h13, h12⟩ := El_level_Clock h8
 refine V_y (Y_loadA h13 Try.isAgg37 Try.sizeOf37 rfl) rfl rfl rfl ?_
 refine V_y (Y_move rfl) rfl rfl rfl ?_
 have h14 := El_level_Clock_2 h8
 refine V_y (Y_fieldAddr Try.underlying37 rfl Try.sizeOf3 (by decide) rfl) rfl rfl rfl ?_
 refine V_y (Y_load (El.int h14) Try.isAgg3 rfl) rfl rfl rfl ?_
 obtain ⟨x15, hx15, hm⟩ := Option.bind_eq_some_iff.1 hm
 refine V_call Try.call33 rfl rfl rfl rfl (level_counted_c (Dw := Dw) w6 hA c v11 h12 cals v_cals h_cals c.minutes hx15) ?_
 rintro _ w17 ⟨rfl, hk18⟩
 have ht19 := Kp.tr (Dw := Dw) hk18 hA hB
 replace hK := Tr.trans (Dw := Dw) hK ht19
 refine V_y (Y_move rfl) rfl rfl rfl ?_
 refine V_y (Y_extract rfl rfl) rfl rfl rfl ?_
 refine V_y (Y_extract rfl rfl) rfl rfl rfl ?_
 refine V_y (Y_assign rfl) rfl rfl rfl ?_
 refine V_y (Y_assign rfl) rfl rfl rfl ?_
 refine V_to (fun _ _ => rfl) ?_
 refine C_seq ?_
 refine C_region ?_
 refine V_y (Y_move rfl) rfl rfl rfl ?_
 refine V_to (fun _ _ => rfl) ?_
 refine C_cond rfl (fun hc20 => ?_) (fun hc20 => ?_)
 ·rw [if_pos hc20] at hm
  refine C_seq ?_
  refine C_region ?_
  refine V_y (Y_move rfl) rfl rfl rfl ?_
  refine V_y (Y_assign rfl) rfl rfl rfl ?_
  refine V_to (fun _ _ => rfl) ?_
  obtain rfl := Option.some.inj hm
  refine C_ret ?_
  try simp only [↓inBlock_ret, ↓then_ret]
  exact retQ rfl (Res.one Try.results13 rfl) ⟨rfl, hK.kp⟩
 ·rw [if_neg (nt hc20)] at hm
  refine C_skip_to (fun _ _ => rfl) ?_
  refine C_seq ?_
  refine C_region ?_
  refine V_y (Y_assign rfl) rfl rfl rfl ?_
  refine V_to (fun _ _ => rfl) ?_
  obtain rfl := Option.some.inj hm
  refine C_ret ?_
  try simp only [↓inBlock_ret, ↓then_ret]
  exact retQ rfl (Res.one Try.results13 rfl) ⟨rfl, hK.kp⟩
set_option maxRecDepth 4000 in
set_option maxHeartbeats 4000000 in
theorem level_Next_c (w : World) {A : Nat → Prop} (hA : ∀ b, w.heap.size ≤ b → A b) (l : (List level_Clock)) (v_l : Value) (h_l : Sl A w v_l l) (cals : (List cal_Calendar)) (v_cals : Value) (h_cals : Sl A w v_cals cals) (m : Int) {r : (Int × Int × Int)} (hm : level_Next l cals m = some r) : Ret Try.prog 4 #[v_l, v_cals, .int .i64 m] w fun v w' => v = .tuple #[.int .i64 r.1, .int .i64 r.2.1, .int .i64 r.2.2] ∧ Kp Dw w w' := by
 unfold level_Next at hm
 refine enter Try.func4 rfl Try.ntmps4 rfl ?_
 have hA0 := hA
 have hB := Nat.le_refl w.heap.size
 have hK : Tr Dw w.heap.size A w A w := Tr.refl (Dw := Dw) hA
 have hH : Hp w.heap.size A w [] := Hp.nil
 refine C_seq ?_
 refine C_region ?_
 refine V_y (Y_assign rfl) rfl rfl rfl ?_
 refine V_y (Y_assign rfl) rfl rfl rfl ?_
 refine V_y (Y_assign rfl) rfl rfl rfl ?_
 refine V_to (fun _ _ => rfl) ?_
 refine C_seq ?_
 refine C_seq ?_
 refine C_region ?_
 refine V_y (Y_move rfl) rfl rfl rfl ?_
 refine V_y (Y_move rfl) rfl rfl rfl ?_
 obtain ⟨x5, hx5, hm⟩ := Option.bind_eq_some_iff.1 hm
 refine V_call Try.call10 rfl rfl rfl rfl (level_check_c (Dw := Dw) w hA l v_l h_l cals v_cals h_cals hx5) ?_
 rintro _ w6 ⟨rfl, hk7⟩
 have ht8 := Kp.tr (Dw := Dw) hk7 hA hB
 replace hH := Hp.kp (Dw := Dw) hH hk7
 replace h_l := Sl.tr (Dw := Dw) h_l ht8
 replace h_cals := Sl.tr (Dw := Dw) h_cals ht8
 replace hK := Tr.trans (Dw := Dw) hK ht8
 replace hB := Nat.le_trans hB ht8.ex.size
 replace hA := ht8.new
 refine V_y (Y_move rfl) rfl rfl rfl ?_
 refine V_call Try.call11 rfl rfl rfl rfl (level_moment_c w6 m 0) ?_
 rintro _ _ ⟨rfl, rfl⟩
 refine V_buildSlice (Dw := Dw) (cells := #[.int .i64 x5, .int .i64 (level_moment m 0)]) (l := ([x5, (level_moment m 0)] : List Int)) (len := 2) Try.underlying50 Try.sizeOf24 Try.zeroValue24 rfl (by generalize ((level_moment m 0) : Int) = z13; kernel_rfl) (show (2 * 1 : Nat) ≠ 0 by decide) (show (2 * 1 : Nat) ≤ 2 ^ 24 by decide) hA ⟨[.int .i64 x5], _, rfl, rfl, ⟨[.int .i64 (level_moment m 0)], _, rfl, rfl, rfl⟩⟩ rfl rfl ?_
 intro v9 w10 hk12 h11
 have ht14 := Kp.tr (Dw := Dw) hk12 hA hB
 replace hH := Hp.kp (Dw := Dw) hH hk12
 replace h_l := Sl.tr (Dw := Dw) h_l ht14
 replace h_cals := Sl.tr (Dw := Dw) h_cals ht14
 replace hK := Tr.trans (Dw := Dw) hK ht14
 replace hB := Nat.le_trans hB ht14.ex.size
 replace hA := ht14.new
 obtain ⟨x15, hx15, hm⟩ := Option.bind_eq_some_iff.1 hm
 refine V_call Try.call9 rfl rfl rfl rfl (cmp_Or_api_Errno_c w10 ([x5, (level_moment m 0)] : List Int) v9 h11 hx15) ?_
 rintro _ _ ⟨rfl, rfl⟩
 refine V_y (Y_assign rfl) rfl rfl rfl ?_
 refine V_to (fun _ _ => rfl) ?_
 refine C_seq ?_
 refine C_region ?_
 refine V_y (Y_move rfl) rfl rfl rfl ?_
 refine V_y (Y_neq rfl rfl) rfl rfl rfl ?_
 refine V_to (fun _ _ => rfl) ?_
 refine C_cond rfl (fun hc16 => ?_) (fun hc16 => ?_)
 ·rw [if_pos hc16] at hm
  refine C_seq ?_
  refine C_region ?_
  refine V_y (Y_move rfl) rfl rfl rfl ?_
  refine V_y (Y_assign rfl) rfl rfl rfl ?_
  refine V_y (Y_assign rfl) rfl rfl rfl ?_
  refine V_y (Y_assign rfl) rfl rfl rfl ?_
  refine V_to (fun _ _ => rfl) ?_
  obtain rfl := Option.some.inj hm
  refine C_ret ?_
  try simp only [↓inBlock_ret, ↓then_ret]
  exact retQ rfl (Res.three Try.results4 rfl rfl rfl) ⟨rfl, hK.kp⟩
 ·rw [if_neg (nt hc16)] at hm
  refine C_skip_to (fun _ _ => rfl) ?_
  refine C_seq ?_
  refine C_region ?_
  refine V_y (Y_assign rfl) rfl rfl rfl ?_
  refine V_y (Y_assign rfl) rfl rfl rfl ?_
  refine V_to (fun _ _ => rfl) ?_
  refine C_seq ?_
  refine C_seq ?_
  refine C_region ?_
  refine V_y (Y_move rfl) rfl rfl rfl ?_
  refine V_y (Y_lenSl h_l rfl Try.underlying22 rfl) rfl rfl rfl ?_
  refine V_y (Y_move rfl) rfl rfl rfl ?_
  refine V_to (fun _ _ => rfl) ?_
  have hn37 := Sl.le h_l
  obtain ⟨o17, ho17, hm⟩ := Option.bind_eq_some_iff.1 hm
  refine C_cutG (ι := ((Int × Int) × (Nat → Prop))) (fun ⟨s18, A24⟩ => [(10, .int .i64 s18.1), (11, .int .i64 s18.2)]) (fun ⟨s18, A24⟩ => fun w' => o17 = .fin s18 ∧ Hp w.heap.size A24 w' ([]) ∧ Tr Dw w.heap.size A w10 A24 w') ?_ ?_
  ·refine C_block ?_
   refine C_range ho17 (fun k20 s26 a w' => ∃ i : (Nat → Prop), Has ⟨60, [], none⟩ a ([(1, v_cals), (2, .int .i64 m), (10, .int .i64 s26.1), (11, .int .i64 s26.2), (25, v_l), (26, .int .i64 (l.length : Int)), (27, .int .i64 (k20 : Int))]) ∧ Hp w.heap.size i w' ([]) ∧ Tr Dw w.heap.size A w10 i w') (fun a ha => ⟨A, ha.sub ⟨rfl, rfl, rfl, rfl, rfl, rfl, rfl, trivial⟩, ⟨hH, Tr.refl (Dw := Dw) hA⟩⟩) ?_
   rintro K k20 s26 a w27 ⟨A28, ha99, hH29, hr19⟩ hle33 K36 h35
   refine C_of ?_ ha99
   replace h_cals := Sl.tr (Dw := Dw) h_cals hr19
   replace h_l := Sl.tr (Dw := Dw) h_l hr19
   replace hB := Nat.le_trans hB hr19.ex.size
   replace hA := hr19.new
   replace hH : Hp w.heap.size A28 w27 ([]) := hH29
   refine C_seq (C_region (V_y (Y_lss rfl rfl) rfl rfl rfl (V_to (fun _ _ => rfl) ?_)))
   refine C_seq ?_
   refine C_cond rfl (fun hc38 => ?_) (fun hc38 => ?_)
   ·have hlt34 := lt_of_dec hc38
    obtain ⟨x30, h31, h32⟩ := K36 hlt34
    refine C_skip_to (fun _ _ => rfl) ?_
    refine C_seq ?_
    obtain ⟨s40, ho39, h31⟩ := Option.bind_eq_some_iff.1 h31
    refine C_cutG (ι := (Nat → Prop)) (fun (A45 : (Nat → Prop)) => [(1, v_cals), (2, .int .i64 m), (10, .int .i64 s40.1), (11, .int .i64 s40.2), (25, v_l), (26, .int .i64 (l.length : Int)), (27, .int .i64 (k20 : Int))]) (fun (A45 : (Nat → Prop)) => fun w' => Hp w.heap.size A45 w' ([]) ∧ Tr Dw w.heap.size A28 w27 A45 w') ?_ ?_
    ·have hr41 : Tr Dw w.heap.size A28 w27 A28 w27 := Tr.refl (Dw := Dw) hA
     refine C_block ?_
     refine C_seq ?_
     refine C_region ?_
     refine V_y (Y_move rfl) rfl rfl rfl ?_
     obtain ⟨x47, hx47, ho39⟩ := Option.bind_eq_some_iff.1 ho39
     refine V_indexAddr h_l hx47 Try.underlying22 Try.sizeOf37 rfl rfl rfl ?_
     intro b48 o49 h50
     obtain ⟨v51, h53, h52⟩ := El_level_Clock h50
     refine V_y (Y_loadA h53 Try.isAgg37 Try.sizeOf37 rfl) rfl rfl rfl ?_
     refine V_alloc Try.zeroValue37 rfl ?_
     intro b54 w55 h56
     refine V_y (Y_assign rfl) rfl rfl rfl ?_
     have h61 : (v51).oneCell' = true := by obtain ⟨_, _, e, _⟩ := Sl.form h52; rw [e]; rfl
     refine V_storeNew h56 Try.sizeOf37 rfl rfl rfl rfl (by exact (List.forall_mem_cons.2 ⟨rfl, (List.forall_mem_cons.2 ⟨rfl, (List.forall_mem_cons.2 ⟨rfl, (List.forall_mem_cons.2 ⟨rfl, (List.forall_mem_cons.2 ⟨rfl, (List.forall_mem_cons.2 ⟨rfl, (List.forall_mem_cons.2 ⟨h61, (fun _ h => nomatch h)⟩)⟩)⟩)⟩)⟩)⟩)⟩)) ?_
     intro w57 h58
     have hk63 := h58.kp (Dw := Dw)
     have h62 : El (α := level_Clock) A28 w57 b54 0 x47 := h58.el hA ⟨[.int .i64 x47.kind], _, rfl, rfl, ⟨[.int .i64 x47.level], _, rfl, rfl, ⟨[.int .i64 x47.minutes], _, rfl, rfl, ⟨[.int .i64 x47.start], _, rfl, rfl, ⟨[.int .i64 x47.stop], _, rfl, rfl, ⟨[.int .i64 x47.end_], _, rfl, rfl, ⟨_, rfl, h52⟩⟩⟩⟩⟩⟩⟩
     have ht64 := Kp.tr (Dw := Dw) hk63 hA hB
     replace hH := Hp.kp (Dw := Dw) hH hk63
     replace h_cals := Sl.tr (Dw := Dw) h_cals ht64
     replace hr41 := Tr.trans (Dw := Dw) hr41 ht64
     replace hB := Nat.le_trans hB ht64.ex.size
     replace hA := ht64.new
     refine V_to (fun _ _ => rfl) ?_
     refine C_seq ?_
     refine C_seq ?_
     refine C_region ?_
     obtain ⟨v65, h67, h66⟩ := El_level_Clock h62
     refine V_y (Y_loadA h67 Try.isAgg37 Try.sizeOf37 rfl) rfl rfl rfl ?_
     obtain ⟨x68, hx68, ho39⟩ := Option.bind_eq_some_iff.1 ho39
     refine V_call Try.call12 rfl rfl rfl rfl (level_runs_c (Dw := Dw) w57 hA x47 v65 h66 hx68) ?_
     rintro _ w69 ⟨rfl, hk70⟩
     have ht71 := Kp.tr (Dw := Dw) hk70 hA hB
     replace hH := Hp.kp (Dw := Dw) hH hk70
     replace h_cals := Sl.tr (Dw := Dw) h_cals ht71
     replace h62 := El.tr (Dw := Dw) h62 ht71
     replace hr41 := Tr.trans (Dw := Dw) hr41 ht71
     replace hB := Nat.le_trans hB ht71.ex.size
     replace hA := ht71.new
     refine V_y (Y_not rfl) rfl rfl rfl ?_
     refine V_to (fun _ _ => rfl) ?_
     refine C_cond rfl (fun hc72 => ?_) (fun hc72 => ?_)
     ·rw [if_pos hc72] at ho39
      obtain rfl := Option.some.inj ho39
      refine C_exit (fun a ha73 => ?_)
      exact ⟨A28, ha73.sub ⟨rfl, rfl, rfl, rfl, rfl, rfl, rfl, trivial⟩, ⟨hH, hr41⟩⟩
     ·rw [if_neg (nt hc72)] at ho39
      refine C_skip_to (fun _ _ => rfl) ?_
      refine C_seq ?_
      refine C_region ?_
      obtain ⟨v74, h76, h75⟩ := El_level_Clock h62
      refine V_y (Y_loadA h76 Try.isAgg37 Try.sizeOf37 rfl) rfl rfl rfl ?_
      refine V_y (Y_move rfl) rfl rfl rfl ?_
      obtain ⟨x77, hx77, ho39⟩ := Option.bind_eq_some_iff.1 ho39
      refine V_call Try.call13 rfl rfl rfl rfl (level_due_c (Dw := Dw) w69 hA x47 v74 h75 cals v_cals h_cals hx77) ?_
      rintro _ w78 ⟨rfl, hk79⟩
      have ht80 := Kp.tr (Dw := Dw) hk79 hA hB
      replace hH := Hp.kp (Dw := Dw) hH hk79
      replace hr41 := Tr.trans (Dw := Dw) hr41 ht80
      refine V_y (Y_addI rfl rfl) rfl rfl rfl ?_
      refine V_y (Y_assign rfl) rfl rfl rfl ?_
      refine V_to (fun _ _ => rfl) ?_
      refine C_seq ?_
      refine C_region ?_
      refine V_y (Y_move rfl) rfl rfl rfl ?_
      refine V_y (Y_move rfl) rfl rfl rfl ?_
      refine V_y (Y_gtr rfl rfl) rfl rfl rfl ?_
      refine V_y (Y_move rfl) rfl rfl rfl ?_
      refine V_cut 3 (fun _ : Unit => [(1, v_cals), (2, .int .i64 m), (10, .int .i64 s26.1), (11, .int .i64 s26.2), (12, .int .i64 (k20 : Int)), (14, .int .i64 (w64 (x77 + 1))), (25, v_l), (26, .int .i64 (l.length : Int)), (27, .int .i64 (k20 : Int)), (45, .bool ((decide (m < (w64 (x77 + 1)))) && (decide ((w64 (x77 + 1)) ≤ 3000000))))]) (fun _ w' => w78 = w') ?_ ?_
      ·simp only [List.take, List.drop]
       rcases Bool.eq_false_or_eq_true (decide (m < (w64 (x77 + 1)))) with hc81 | hc81
       ·refine V_ge rfl rfl rfl hc81 ?_
        refine V_y (Y_move rfl) rfl rfl rfl ?_
        refine V_ge rfl rfl rfl hc81 ?_
        refine V_y (Y_leq rfl rfl) rfl rfl rfl ?_
        refine V_y (Y_pick_te rfl hc81 rfl) rfl rfl rfl ?_
        exact V_end fun a ha => ⟨(), ha.sub ⟨rfl, rfl, rfl, rfl, rfl, rfl, rfl, rfl, rfl, (by rw [hc81]; rfl), trivial⟩, rfl⟩
       ·refine V_gn rfl rfl rfl hc81 rfl rfl rfl ?_
        refine V_gn rfl rfl rfl hc81 rfl rfl rfl ?_
        refine V_y (Y_pick_fe rfl hc81 rfl) rfl rfl rfl ?_
        exact V_end fun a ha => ⟨(), ha.sub ⟨rfl, rfl, rfl, rfl, rfl, rfl, rfl, rfl, rfl, (by rw [hc81]; rfl), trivial⟩, rfl⟩
      simp only [List.take, List.drop]
      rintro _ _ rfl
      refine V_y (Y_move rfl) rfl rfl rfl ?_
      refine V_cut 8 (fun _ : Unit => [(1, v_cals), (2, .int .i64 m), (10, .int .i64 s26.1), (11, .int .i64 s26.2), (12, .int .i64 (k20 : Int)), (14, .int .i64 (w64 (x77 + 1))), (25, v_l), (26, .int .i64 (l.length : Int)), (27, .int .i64 (k20 : Int)), (54, .bool (((decide (m < (w64 (x77 + 1)))) && (decide ((w64 (x77 + 1)) ≤ 3000000))) && ((decide (s26.1 < 0)) || (decide ((w64 (x77 + 1)) < s26.1)))))]) (fun _ w' => w78 = w') ?_ ?_
      ·simp only [List.take, List.drop]
       rcases Bool.eq_false_or_eq_true (((decide (m < (w64 (x77 + 1)))) && (decide ((w64 (x77 + 1)) ≤ 3000000)))) with hc83 | hc83
       ·refine V_ge rfl rfl rfl hc83 ?_
        refine V_y (Y_move rfl) rfl rfl rfl ?_
        refine V_ge rfl rfl rfl hc83 ?_
        refine V_y (Y_lss rfl rfl) rfl rfl rfl ?_
        refine V_ge rfl rfl rfl hc83 ?_
        refine V_y (Y_move rfl) rfl rfl rfl ?_
        refine V_cut 4 (fun _ : Unit => [(1, v_cals), (2, .int .i64 m), (10, .int .i64 s26.1), (11, .int .i64 s26.2), (12, .int .i64 (k20 : Int)), (14, .int .i64 (w64 (x77 + 1))), (25, v_l), (26, .int .i64 (l.length : Int)), (27, .int .i64 (k20 : Int)), (46, .bool ((decide (m < (w64 (x77 + 1)))) && (decide ((w64 (x77 + 1)) ≤ 3000000)))), (53, .bool ((decide (s26.1 < 0)) || (decide ((w64 (x77 + 1)) < s26.1))))]) (fun _ w' => w78 = w') ?_ ?_
        ·simp only [List.take, List.drop]
         rcases Bool.eq_false_or_eq_true (decide (s26.1 < 0)) with hc85 | hc85
         ·refine V_gn rfl rfl rfl hc85 rfl rfl rfl ?_
          refine V_gn rfl rfl rfl hc85 rfl rfl rfl ?_
          refine V_gn rfl rfl rfl hc85 rfl rfl rfl ?_
          refine V_ge rfl rfl rfl hc83 ?_
          refine V_y (Y_pick_te rfl hc85 rfl) rfl rfl rfl ?_
          exact V_end fun a ha => ⟨(), ha.sub ⟨rfl, rfl, rfl, rfl, rfl, rfl, rfl, rfl, rfl, rfl, (by rw [hc85]; rfl), trivial⟩, rfl⟩
         ·refine V_ge rfl rfl rfl hc85 ?_
          refine V_y (Y_move rfl) rfl rfl rfl ?_
          refine V_ge rfl rfl rfl hc85 ?_
          refine V_y (Y_move rfl) rfl rfl rfl ?_
          refine V_ge rfl rfl rfl hc85 ?_
          refine V_y (Y_lss rfl rfl) rfl rfl rfl ?_
          refine V_ge rfl rfl rfl hc83 ?_
          refine V_y (Y_pick_fe rfl hc85 rfl) rfl rfl rfl ?_
          exact V_end fun a ha => ⟨(), ha.sub ⟨rfl, rfl, rfl, rfl, rfl, rfl, rfl, rfl, rfl, rfl, (by rw [hc85]; rfl), trivial⟩, rfl⟩
        simp only [List.take, List.drop]
        rintro _ _ rfl
        refine V_y (Y_pick_te rfl hc83 rfl) rfl rfl rfl ?_
        exact V_end fun a ha => ⟨(), ha.sub ⟨rfl, rfl, rfl, rfl, rfl, rfl, rfl, rfl, rfl, (by rw [hc83]; rfl), trivial⟩, rfl⟩
       ·refine V_gn rfl rfl rfl hc83 rfl rfl rfl ?_
        refine V_gn rfl rfl rfl hc83 rfl rfl rfl ?_
        refine V_gn rfl rfl rfl hc83 rfl rfl rfl ?_
        refine V_gu rfl rfl rfl rfl rfl ?_
        refine V_gu rfl rfl rfl rfl rfl ?_
        refine V_gu rfl rfl rfl rfl rfl ?_
        refine V_gn rfl rfl rfl hc83 rfl rfl rfl ?_
        refine V_y (Y_pick_fe rfl hc83 rfl) rfl rfl rfl ?_
        exact V_end fun a ha => ⟨(), ha.sub ⟨rfl, rfl, rfl, rfl, rfl, rfl, rfl, rfl, rfl, (by rw [hc83]; rfl), trivial⟩, rfl⟩
      simp only [List.take, List.drop]
      rintro _ _ rfl
      refine V_to (fun _ _ => rfl) ?_
      obtain ⟨s88, ho87, ho39⟩ := Option.bind_eq_some_iff.1 ho39
      refine C_cutG (ι := Unit) (fun (_ : Unit) => [(1, v_cals), (2, .int .i64 m), (10, .int .i64 s88.1), (11, .int .i64 s88.2), (25, v_l), (26, .int .i64 (l.length : Int)), (27, .int .i64 (k20 : Int))]) (fun (_ : Unit) => fun w' => w78 = w') ?_ ?_
      ·refine C_cond rfl (fun hc93 => ?_) (fun hc93 => ?_)
       ·rw [if_pos hc93] at ho87
        refine C_region ?_
        refine V_y (Y_move rfl) rfl rfl rfl ?_
        refine V_y (Y_move rfl) rfl rfl rfl ?_
        refine V_y (Y_assign rfl) rfl rfl rfl ?_
        refine V_y (Y_assign rfl) rfl rfl rfl ?_
        obtain rfl := Option.some.inj ho87
        refine V_end (fun a ha94 => ?_)
        exact ⟨(), ha94.sub ⟨rfl, rfl, rfl, rfl, rfl, rfl, rfl, trivial⟩, rfl⟩
       ·rw [if_neg (nt hc93)] at ho87
        obtain rfl := Option.some.inj ho87
        refine C_skip (fun a ha95 => ?_)
        exact ⟨(), ha95.sub ⟨rfl, rfl, rfl, rfl, rfl, rfl, rfl, trivial⟩, rfl⟩
      rintro _ _ rfl a ha92
      obtain rfl := Option.some.inj ho39
      exact ⟨A28, ha92.sub ⟨rfl, rfl, rfl, rfl, rfl, rfl, rfl, trivial⟩, ⟨hH, hr41⟩⟩
    rintro A45 w42 ⟨hH46, hk43⟩ a ha44
    replace hr19 := Tr.trans (Dw := Dw) hr19 hk43
    replace hA := hk43.new
    replace hH : Hp w.heap.size A45 w42 ([]) := hH46
    refine C_at (n := ⟨60, [], none⟩) (fun _ _ => rfl) ?_ ha44
    refine C_region ?_
    refine V_y (Y_addI rfl rfl) rfl rfl rfl ?_
    refine V_y (Y_move rfl) rfl rfl rfl ?_
    obtain rfl := Option.some.inj h31
    refine V_end (fun a ha97 => ?_)
    exact ⟨(s40.1, s40.2), hlt34, h32, ⟨A45, ha97.sub ⟨rfl, rfl, rfl, rfl, rfl, rfl, (congrArg (fun z => some (Value.int .i64 z)) (w64_succ hlt34 hn37)), trivial⟩, ⟨hH, hr19⟩⟩⟩
   ·refine C_exit (fun a ha98 => ?_)
    exact ⟨((s26.1, s26.2), A28), ha98.sub ⟨rfl, rfl, trivial⟩, ⟨(h35 (eq_of_dec hle33 hc38)).symm, hH, hr19⟩⟩
  rintro ⟨s18, A24⟩ w21 ⟨rfl, hH25, hk22⟩ a ha23
  rw [Lp.andThen_fin] at hm
  replace hK := Tr.trans (Dw := Dw) hK hk22
  replace hA := hk22.new
  replace hH : Hp w.heap.size A24 w21 ([]) := hH25
  refine C_at (n := ⟨60, [], none⟩) (fun _ _ => rfl) ?_ ha23
  refine C_seq ?_
  refine C_region ?_
  refine V_y (Y_move rfl) rfl rfl rfl ?_
  refine V_y (Y_move rfl) rfl rfl rfl ?_
  refine V_y (Y_assign rfl) rfl rfl rfl ?_
  refine V_y (Y_assign rfl) rfl rfl rfl ?_
  refine V_y (Y_assign rfl) rfl rfl rfl ?_
  refine V_to (fun _ _ => rfl) ?_
  obtain rfl := Option.some.inj hm
  refine C_ret ?_
  try simp only [↓inBlock_ret, ↓then_ret]
  exact retQ rfl (Res.three Try.results4 rfl rfl rfl) ⟨rfl, hK.kp⟩
set_option maxRecDepth 4000 in
set_option maxHeartbeats 4000000 in
theorem level_elapsed_c (w : World) {A : Nat → Prop} (hA : ∀ b, w.heap.size ≤ b → A b) (c : level_Clock) (v_c : Value) (h_c : Sl A w v_c c.pieces) (cals : (List cal_Calendar)) (v_cals : Value) (h_cals : Sl A w v_cals cals) (m : Int) {r : Int} (hm : level_elapsed c cals m = some r) : Ret Try.prog 14 #[.agg #[.int .i64 c.kind, .int .i64 c.level, .int .i64 c.minutes, .int .i64 c.start, .int .i64 c.stop, .int .i64 c.end_, v_c], v_cals, .int .i64 m] w fun v w' => v = .int .i64 r ∧ Kp Dw w w' := by
 unfold level_elapsed at hm
 refine enter Try.func14 rfl Try.ntmps14 rfl ?_
 have hA0 := hA
 have hB := Nat.le_refl w.heap.size
 have hK : Tr Dw w.heap.size A w A w := Tr.refl (Dw := Dw) hA
 have hH : Hp w.heap.size A w [] := Hp.nil
 refine C_seq ?_
 refine C_region ?_
 refine V_box rfl rfl ?_
 intro b5 w6 h7
 have hk9 := h7.kp (Dw := Dw)
 have h8 : El (α := level_Clock) A w6 b5 0 c := h7.el hA ⟨[.int .i64 c.kind], _, rfl, rfl, ⟨[.int .i64 c.level], _, rfl, rfl, ⟨[.int .i64 c.minutes], _, rfl, rfl, ⟨[.int .i64 c.start], _, rfl, rfl, ⟨[.int .i64 c.stop], _, rfl, rfl, ⟨[.int .i64 c.end_], _, rfl, rfl, ⟨_, rfl, h_c⟩⟩⟩⟩⟩⟩⟩
 have ht10 := Kp.tr (Dw := Dw) hk9 hA hB
 replace hH := Hp.kp (Dw := Dw) hH hk9
 replace h_cals := Sl.tr (Dw := Dw) h_cals ht10
 replace hK := Tr.trans (Dw := Dw) hK ht10
 replace hB := Nat.le_trans hB ht10.ex.size
 replace hA := ht10.new
 refine V_y (Y_assign rfl) rfl rfl rfl ?_
 refine V_to (fun _ _ => rfl) ?_
 refine C_seq ?_
 refine C_region ?_
 refine V_y (Y_assign rfl) rfl rfl rfl ?_
 refine V_to (fun _ _ => rfl) ?_
 refine C_seq ?_
 refine C_seq ?_
 refine C_region ?_
 have h11 := El_level_Clock_6 h8
 refine V_y (Y_fieldAddr Try.underlying37 rfl Try.sizeOf35 (by decide) rfl) rfl rfl rfl ?_
 obtain ⟨v12, h13, h14⟩ := El.list h11
 refine V_y (Y_load h13 Try.isAgg35 rfl) rfl rfl rfl ?_
 refine V_y (Y_lenSl h14 rfl Try.underlying35 rfl) rfl rfl rfl ?_
 refine V_y (Y_move rfl) rfl rfl rfl ?_
 refine V_to (fun _ _ => rfl) ?_
 have hn35 := Sl.le h14
 obtain ⟨o15, ho15, hm⟩ := Option.bind_eq_some_iff.1 hm
 refine C_cutG (ι := (Int × (Nat → Prop))) (fun ⟨s16, A22⟩ => [(7, .int .i64 s16)]) (fun ⟨s16, A22⟩ => fun w' => o15 = .fin s16 ∧ Hp w.heap.size A22 w' ([]) ∧ Tr Dw w.heap.size A w6 A22 w') ?_ ?_
 ·refine C_block ?_
  refine C_range ho15 (fun k18 s24 a w' => ∃ i : (Nat → Prop), Has ⟨49, [], none⟩ a ([(1, v_cals), (2, .int .i64 m), (7, .int .i64 s24), (14, v12), (15, .int .i64 (c.pieces.length : Int)), (16, .int .i64 (k18 : Int))]) ∧ Hp w.heap.size i w' ([]) ∧ Tr Dw w.heap.size A w6 i w') (fun a ha => ⟨A, ha.sub ⟨rfl, rfl, rfl, rfl, rfl, rfl, trivial⟩, ⟨hH, Tr.refl (Dw := Dw) hA⟩⟩) ?_
  rintro K k18 s24 a w25 ⟨A26, ha101, hH27, hr17⟩ hle31 K34 h33
  refine C_of ?_ ha101
  replace h_cals := Sl.tr (Dw := Dw) h_cals hr17
  replace h14 := Sl.tr (Dw := Dw) h14 hr17
  replace hB := Nat.le_trans hB hr17.ex.size
  replace hA := hr17.new
  replace hH : Hp w.heap.size A26 w25 ([]) := hH27
  refine C_seq (C_region (V_y (Y_lss rfl rfl) rfl rfl rfl (V_to (fun _ _ => rfl) ?_)))
  refine C_seq ?_
  refine C_cond rfl (fun hc36 => ?_) (fun hc36 => ?_)
  ·have hlt32 := lt_of_dec hc36
   obtain ⟨x28, h29, h30⟩ := K34 hlt32
   refine C_skip_to (fun _ _ => rfl) ?_
   refine C_seq ?_
   obtain ⟨s38, ho37, h29⟩ := Option.bind_eq_some_iff.1 h29
   refine C_cutG (ι := (Nat → Prop)) (fun (A43 : (Nat → Prop)) => [(1, v_cals), (2, .int .i64 m), (7, .int .i64 s38), (14, v12), (15, .int .i64 (c.pieces.length : Int)), (16, .int .i64 (k18 : Int))]) (fun (A43 : (Nat → Prop)) => fun w' => Hp w.heap.size A43 w' ([]) ∧ Tr Dw w.heap.size A26 w25 A43 w') ?_ ?_
   ·have hr39 : Tr Dw w.heap.size A26 w25 A26 w25 := Tr.refl (Dw := Dw) hA
    refine C_block ?_
    refine C_seq ?_
    refine C_region ?_
    obtain ⟨x45, hx45, ho37⟩ := Option.bind_eq_some_iff.1 ho37
    refine V_indexAddr h14 hx45 Try.underlying35 Try.sizeOf62 rfl rfl rfl ?_
    intro b46 o47 h48
    obtain ⟨h49, _⟩ := El_level_Piece h48
    refine V_y (Y_loadA h49 Try.isAgg62 Try.sizeOf62 rfl) rfl rfl rfl ?_
    refine V_alloc Try.zeroValue62 rfl ?_
    intro b50 w51 h52
    refine V_storeNew h52 Try.sizeOf62 rfl rfl rfl rfl (by exact (List.forall_mem_cons.2 ⟨rfl, (List.forall_mem_cons.2 ⟨rfl, (List.forall_mem_cons.2 ⟨rfl, (fun _ h => nomatch h)⟩)⟩)⟩)) ?_
    intro w53 h54
    have hk56 := h54.kp (Dw := Dw)
    have h55 : El (α := level_Piece) A26 w53 b50 0 x45 := h54.el hA ⟨[.int .i64 x45.from_], _, rfl, rfl, ⟨[.int .i64 x45.to_], _, rfl, rfl, rfl⟩⟩
    have ht57 := Kp.tr (Dw := Dw) hk56 hA hB
    replace hH := Hp.kp (Dw := Dw) hH hk56
    replace h_cals := Sl.tr (Dw := Dw) h_cals ht57
    replace hr39 := Tr.trans (Dw := Dw) hr39 ht57
    replace hB := Nat.le_trans hB ht57.ex.size
    replace hA := ht57.new
    refine V_to (fun _ _ => rfl) ?_
    refine C_seq ?_
    refine C_region ?_
    refine V_y (Y_move rfl) rfl rfl rfl ?_
    refine V_y (Y_assign rfl) rfl rfl rfl ?_
    refine V_to (fun _ _ => rfl) ?_
    refine C_seq ?_
    refine C_seq ?_
    refine C_region ?_
    have h58 := El_level_Piece_1 h55
    refine V_y (Y_fieldAddr Try.underlying62 rfl Try.sizeOf3 (by decide) rfl) rfl rfl rfl ?_
    refine V_y (Y_load (El.int h58) Try.isAgg3 rfl) rfl rfl rfl ?_
    refine V_y (Y_neq rfl rfl) rfl rfl rfl ?_
    refine V_to (fun _ _ => rfl) ?_
    obtain ⟨s60, ho59, ho37⟩ := Option.bind_eq_some_iff.1 ho37
    refine C_cutG (ι := Unit) (fun (_ : Unit) => [(1, v_cals), (2, .int .i64 m), (7, .int .i64 s24), (9, .pointer (some ⟨b50, 0, none⟩)), (10, .int .i64 s60), (14, v12), (15, .int .i64 (c.pieces.length : Int)), (16, .int .i64 (k18 : Int))]) (fun (_ : Unit) => fun w' => w53 = w') ?_ ?_
    ·refine C_cond rfl (fun hc65 => ?_) (fun hc65 => ?_)
     ·rw [if_pos hc65] at ho59
      refine C_region ?_
      refine V_y (Y_move rfl) rfl rfl rfl ?_
      have h66 := El_level_Piece_1 h55
      refine V_y (Y_fieldAddr Try.underlying62 rfl Try.sizeOf3 (by decide) rfl) rfl rfl rfl ?_
      refine V_y (Y_load (El.int h66) Try.isAgg3 rfl) rfl rfl rfl ?_
      refine V_y (Y_min2 rfl rfl) rfl rfl rfl ?_
      refine V_y (Y_assign rfl) rfl rfl rfl ?_
      obtain rfl := Option.some.inj ho59
      refine V_end (fun a ha67 => ?_)
      exact ⟨(), ha67.sub ⟨rfl, rfl, rfl, rfl, rfl, rfl, rfl, rfl, trivial⟩, rfl⟩
     ·rw [if_neg (nt hc65)] at ho59
      obtain rfl := Option.some.inj ho59
      refine C_skip (fun a ha68 => ?_)
      exact ⟨(), ha68.sub ⟨rfl, rfl, rfl, rfl, rfl, rfl, rfl, rfl, trivial⟩, rfl⟩
    rintro _ _ rfl a ha64
    refine C_at (n := ⟨49, [], none⟩) (fun _ _ => rfl) ?_ ha64
    refine C_seq ?_
    refine C_region ?_
    have h69 := El_level_Piece_0 h55
    refine V_y (Y_fieldAddr Try.underlying62 rfl Try.sizeOf3 (by decide) rfl) rfl rfl rfl ?_
    refine V_y (Y_load (El.int h69) Try.isAgg3 rfl) rfl rfl rfl ?_
    refine V_y (Y_move rfl) rfl rfl rfl ?_
    refine V_y (Y_lss rfl rfl) rfl rfl rfl ?_
    refine V_to (fun _ _ => rfl) ?_
    obtain ⟨s71, ho70, ho37⟩ := Option.bind_eq_some_iff.1 ho37
    refine C_cutG (ι := (Nat → Prop)) (fun (A76 : (Nat → Prop)) => [(1, v_cals), (2, .int .i64 m), (7, .int .i64 s71), (14, v12), (15, .int .i64 (c.pieces.length : Int)), (16, .int .i64 (k18 : Int))]) (fun (A76 : (Nat → Prop)) => fun w' => Hp w.heap.size A76 w' ([]) ∧ Tr Dw w.heap.size A26 w53 A76 w') ?_ ?_
    ·have hr72 : Tr Dw w.heap.size A26 w53 A26 w53 := Tr.refl (Dw := Dw) hA
     refine C_cond rfl (fun hc78 => ?_) (fun hc78 => ?_)
     ·rw [if_pos hc78] at ho70
      refine C_seq ?_
      refine C_region_q (Dw := Dw) Try_mixed (by kernel_rfl) ?_
      refine VQ_y (fun w' hw' => Y_move rfl) rfl rfl rfl ?_
      have h79 := El_level_Piece_2 h55
      refine VQ_y (fun w' hw' => Y_fieldAddr Try.underlying62 rfl Try.sizeOf3 (by decide) rfl) rfl rfl rfl ?_
      refine VQ_y (fun w' hw' => Y_load (El.int (El.kp (Dw := Dw) h79 hw')) Try.isAgg3 rfl) rfl rfl rfl ?_
      obtain ⟨x80, hx80, ho70⟩ := Option.bind_eq_some_iff.1 ho70
      refine VQ_indexAddr h_cals hx80 Try.underlying23 Try.sizeOf58 rfl rfl rfl ?_
      intro b81 o82 h83
      obtain ⟨v84, v86, v88, h90, h85, h87, h89⟩ := El_cal_Calendar h83
      refine VQ_y (fun w' hw' => Y_loadA (At.kp (Dw := Dw) h90 hw' h83.2.1) Try.isAgg58 Try.sizeOf58 rfl) rfl rfl rfl ?_
      have h91 := El_level_Piece_0 h55
      refine VQ_y (fun w' hw' => Y_fieldAddr Try.underlying62 rfl Try.sizeOf3 (by decide) rfl) rfl rfl rfl ?_
      refine VQ_y (fun w' hw' => Y_load (El.int (El.kp (Dw := Dw) h91 hw')) Try.isAgg3 rfl) rfl rfl rfl ?_
      refine VQ_y (fun w' hw' => Y_move rfl) rfl rfl rfl ?_
      obtain ⟨x92, hx92, ho70⟩ := Option.bind_eq_some_iff.1 ho70
      refine VQ_call (.tuple #[.int .i64 x92.1, .int .i64 x92.2]) Try.call34 rfl rfl rfl rfl (fun w' hw' => (cal_Worked_c (Dw := Dw) w' (fun b hb => hA b (Nat.le_trans hw'.size hb)) x80 v84 (Sl.kp (Dw := Dw) h85 hw') v86 (Sl.kp (Dw := Dw) h87 hw') v88 (Sl.kp (Dw := Dw) h89 hw') x45.from_ s60 hx92).mono (fun _ _ h => ⟨h.1, Kp.trans (Dw := Dw) hw' h.2⟩)) ?_
      refine VQ_y (fun w' hw' => Y_move rfl) rfl rfl rfl ?_
      refine VQ_y (fun w' hw' => Y_extract rfl rfl) rfl rfl rfl ?_
      refine VQ_y (fun w' hw' => Y_extract rfl rfl) rfl rfl rfl ?_
      refine VQ_y (fun w' hw' => Y_assign rfl) rfl rfl rfl ?_
      refine VQ_y (fun w' hw' => Y_assign rfl) rfl rfl rfl ?_
      refine VQ_to (fun _ _ => rfl) (fun w93 hk94 => ?_)
      have ht95 := Kp.tr (Dw := Dw) hk94 hA hB
      replace hH := Hp.kp (Dw := Dw) hH hk94
      replace hr72 := Tr.trans (Dw := Dw) hr72 ht95
      refine C_region ?_
      refine V_y (Y_move rfl) rfl rfl rfl ?_
      refine V_y (Y_move rfl) rfl rfl rfl ?_
      refine V_y (Y_addI rfl rfl) rfl rfl rfl ?_
      refine V_y (Y_assign rfl) rfl rfl rfl ?_
      obtain rfl := Option.some.inj ho70
      refine V_end (fun a ha96 => ?_)
      exact ⟨A26, ha96.sub ⟨rfl, rfl, rfl, rfl, rfl, rfl, trivial⟩, ⟨hH, hr72⟩⟩
     ·rw [if_neg (nt hc78)] at ho70
      obtain rfl := Option.some.inj ho70
      refine C_skip (fun a ha97 => ?_)
      exact ⟨A26, ha97.sub ⟨rfl, rfl, rfl, rfl, rfl, rfl, trivial⟩, ⟨hH, hr72⟩⟩
    rintro A76 w73 ⟨hH77, hk74⟩ a ha75
    replace hr39 := Tr.trans (Dw := Dw) hr39 hk74
    replace hA := hk74.new
    replace hH : Hp w.heap.size A76 w73 ([]) := hH77
    obtain rfl := Option.some.inj ho37
    exact ⟨A76, ha75.sub ⟨rfl, rfl, rfl, rfl, rfl, rfl, trivial⟩, ⟨hH, hr39⟩⟩
   rintro A43 w40 ⟨hH44, hk41⟩ a ha42
   replace hr17 := Tr.trans (Dw := Dw) hr17 hk41
   replace hA := hk41.new
   replace hH : Hp w.heap.size A43 w40 ([]) := hH44
   refine C_at (n := ⟨49, [], none⟩) (fun _ _ => rfl) ?_ ha42
   refine C_region ?_
   refine V_y (Y_addI rfl rfl) rfl rfl rfl ?_
   refine V_y (Y_move rfl) rfl rfl rfl ?_
   obtain rfl := Option.some.inj h29
   refine V_end (fun a ha99 => ?_)
   exact ⟨s38, hlt32, h30, ⟨A43, ha99.sub ⟨rfl, rfl, rfl, rfl, rfl, (congrArg (fun z => some (Value.int .i64 z)) (w64_succ hlt32 hn35)), trivial⟩, ⟨hH, hr17⟩⟩⟩
  ·refine C_exit (fun a ha100 => ?_)
   exact ⟨(s24, A26), ha100.sub ⟨rfl, trivial⟩, ⟨(h33 (eq_of_dec hle31 hc36)).symm, hH, hr17⟩⟩
 rintro ⟨s16, A22⟩ w19 ⟨rfl, hH23, hk20⟩ a ha21
 rw [Lp.andThen_fin] at hm
 replace hK := Tr.trans (Dw := Dw) hK hk20
 replace hA := hk20.new
 replace hH : Hp w.heap.size A22 w19 ([]) := hH23
 refine C_at (n := ⟨49, [], none⟩) (fun _ _ => rfl) ?_ ha21
 refine C_seq ?_
 refine C_region ?_
 refine V_y (Y_move rfl) rfl rfl rfl ?_
 refine V_y (Y_assign rfl) rfl rfl rfl ?_
 refine V_to (fun _ _ => rfl) ?_
 obtain rfl := Option.some.inj hm
 refine C_ret ?_
 try simp only [↓inBlock_ret, ↓then_ret]
 exact retQ rfl (Res.one Try.results14 rfl) ⟨rfl, hK.kp⟩
set_option maxRecDepth 4000 in
set_option maxHeartbeats 4000000 in
theorem level_Rank_1_c (w : World) {A : Nat → Prop} (hA : ∀ b, w.heap.size ≤ b → A b) (a_ : Int) (b : Int) (p2 : (List Int)) (b_p2 : Nat) (h_p2 : El A w b_p2 0 p2) (p3 : (List level_Clock)) (b_p3 : Nat) (h_p3 : El A w b_p3 0 p3) {r : Int} (hm : level_Rank_1 a_ b p2 p3 = some r) : Ret Try.prog 16 #[.int .i64 a_, .int .i64 b, .pointer (some ⟨b_p2, 0, none⟩), .pointer (some ⟨b_p3, 0, none⟩)] w fun v w' => v = .int .i64 r ∧ Kp Dw w w' := by
 unfold level_Rank_1 at hm
 refine enter Try.func16 rfl Try.ntmps16 rfl ?_
 have hA0 := hA
 have hB := Nat.le_refl w.heap.size
 have hK : Tr Dw w.heap.size A w A w := Tr.refl (Dw := Dw) hA
 have hH : Hp w.heap.size A w [] := Hp.nil
 refine C_seq ?_
 refine C_region ?_
 refine V_y (Y_assign rfl) rfl rfl rfl ?_
 refine V_to (fun _ _ => rfl) ?_
 refine C_seq ?_
 refine C_region_qt (Dw := Dw) 23 Try_mixed (by kernel_rfl) ?_
 simp only [List.take, List.drop]
 obtain ⟨v1, h2, h3⟩ := El.list h_p2
 refine VQ_y (fun w' hw' => Y_load ((World.cell?_of_block (hw'.block _ (World.block_lt_of_cell? _ _ h2))).trans h2) Try.isAgg27 rfl) rfl rfl rfl ?_
 refine VQ_y (fun w' hw' => Y_move rfl) rfl rfl rfl ?_
 obtain ⟨x4, hx4, hm⟩ := Option.bind_eq_some_iff.1 hm
 refine VQ_indexAddr h3 hx4 Try.underlying27 Try.sizeOf3 rfl rfl rfl ?_
 intro b5 o6 h7
 refine VQ_y (fun w' hw' => Y_load (El.int (El.kp (Dw := Dw) h7 hw')) Try.isAgg3 rfl) rfl rfl rfl ?_
 obtain ⟨v8, h9, h10⟩ := El.list h_p2
 refine VQ_y (fun w' hw' => Y_load ((World.cell?_of_block (hw'.block _ (World.block_lt_of_cell? _ _ h9))).trans h9) Try.isAgg27 rfl) rfl rfl rfl ?_
 refine VQ_y (fun w' hw' => Y_move rfl) rfl rfl rfl ?_
 obtain ⟨x11, hx11, hm⟩ := Option.bind_eq_some_iff.1 hm
 refine VQ_indexAddr h10 hx11 Try.underlying27 Try.sizeOf3 rfl rfl rfl ?_
 intro b12 o13 h14
 refine VQ_y (fun w' hw' => Y_load (El.int (El.kp (Dw := Dw) h14 hw')) Try.isAgg3 rfl) rfl rfl rfl ?_
 refine VQ_call (.int .i64 (cmp_Compare_int x4 x11)) Try.call18 rfl rfl rfl rfl (fun w' hw' => (cmp_Compare_int_c w' x4 x11).mono (fun _ _ h => ⟨h.1, h.2 ▸ hw'⟩)) ?_
 obtain ⟨v15, h16, h17⟩ := El.list h_p3
 refine VQ_y (fun w' hw' => Y_load ((World.cell?_of_block (hw'.block _ (World.block_lt_of_cell? _ _ h16))).trans h16) Try.isAgg22 rfl) rfl rfl rfl ?_
 refine VQ_y (fun w' hw' => Y_move rfl) rfl rfl rfl ?_
 obtain ⟨x18, hx18, hm⟩ := Option.bind_eq_some_iff.1 hm
 refine VQ_indexAddr h17 hx18 Try.underlying22 Try.sizeOf37 rfl rfl rfl ?_
 intro b19 o20 h21
 have h22 := El_level_Clock_3 h21
 refine VQ_y (fun w' hw' => Y_fieldAddr Try.underlying37 rfl Try.sizeOf3 (by decide) rfl) rfl rfl rfl ?_
 refine VQ_y (fun w' hw' => Y_load (El.int (El.kp (Dw := Dw) h22 hw')) Try.isAgg3 rfl) rfl rfl rfl ?_
 obtain ⟨v23, h24, h25⟩ := El.list h_p3
 refine VQ_y (fun w' hw' => Y_load ((World.cell?_of_block (hw'.block _ (World.block_lt_of_cell? _ _ h24))).trans h24) Try.isAgg22 rfl) rfl rfl rfl ?_
 refine VQ_y (fun w' hw' => Y_move rfl) rfl rfl rfl ?_
 obtain ⟨x26, hx26, hm⟩ := Option.bind_eq_some_iff.1 hm
 refine VQ_indexAddr h25 hx26 Try.underlying22 Try.sizeOf37 rfl rfl rfl ?_
 intro b27 o28 h29
 have h30 := El_level_Clock_3 h29
 refine VQ_y (fun w' hw' => Y_fieldAddr Try.underlying37 rfl Try.sizeOf3 (by decide) rfl) rfl rfl rfl ?_
 refine VQ_y (fun w' hw' => Y_load (El.int (El.kp (Dw := Dw) h30 hw')) Try.isAgg3 rfl) rfl rfl rfl ?_
 refine VQ_call (.int .i64 (cmp_Compare_int x18.start x26.start)) Try.call18 rfl rfl rfl rfl (fun w' hw' => (cmp_Compare_int_c w' x18.start x26.start).mono (fun _ _ h => ⟨h.1, h.2 ▸ hw'⟩)) ?_
 refine VQ_y (fun w' hw' => Y_move rfl) rfl rfl rfl ?_
 refine VQ_y (fun w' hw' => Y_move rfl) rfl rfl rfl ?_
 refine VQ_call (.int .i64 (cmp_Compare_int a_ b)) Try.call18 rfl rfl rfl rfl (fun w' hw' => (cmp_Compare_int_c w' a_ b).mono (fun _ _ h => ⟨h.1, h.2 ▸ hw'⟩)) ?_
 refine VQ_tail (fun w31 hk32 => ?_)
 try simp only [List.take, List.drop]
 have ht33 := Kp.tr (Dw := Dw) hk32 hA hB
 replace hK := Tr.trans (Dw := Dw) hK ht33
 replace hB := Nat.le_trans hB ht33.ex.size
 replace hA := ht33.new
 refine V_buildSlice (Dw := Dw) (cells := #[.int .i64 (cmp_Compare_int x4 x11), .int .i64 (cmp_Compare_int x18.start x26.start), .int .i64 (cmp_Compare_int a_ b)]) (l := ([(cmp_Compare_int x4 x11), (cmp_Compare_int x18.start x26.start), (cmp_Compare_int a_ b)] : List Int)) (len := 3) Try.underlying27 Try.sizeOf3 Try.zeroValue3 rfl (by generalize ((cmp_Compare_int x18.start x26.start) : Int) = z38; generalize ((cmp_Compare_int x4 x11) : Int) = z39; generalize ((cmp_Compare_int a_ b) : Int) = z40; kernel_rfl) (show (3 * 1 : Nat) ≠ 0 by decide) (show (3 * 1 : Nat) ≤ 2 ^ 24 by decide) hA ⟨[.int .i64 (cmp_Compare_int x4 x11)], _, rfl, rfl, ⟨[.int .i64 (cmp_Compare_int x18.start x26.start)], _, rfl, rfl, ⟨[.int .i64 (cmp_Compare_int a_ b)], _, rfl, rfl, rfl⟩⟩⟩ rfl rfl ?_
 intro v34 w35 hk37 h36
 have ht41 := Kp.tr (Dw := Dw) hk37 hA hB
 replace hK := Tr.trans (Dw := Dw) hK ht41
 obtain ⟨x42, hx42, hm⟩ := Option.bind_eq_some_iff.1 hm
 refine V_call Try.call17 rfl rfl rfl rfl (cmp_Or_int_c w35 ([(cmp_Compare_int x4 x11), (cmp_Compare_int x18.start x26.start), (cmp_Compare_int a_ b)] : List Int) v34 h36 hx42) ?_
 rintro _ _ ⟨rfl, rfl⟩
 refine V_y (Y_assign rfl) rfl rfl rfl ?_
 refine V_to (fun _ _ => rfl) ?_
 obtain rfl := Option.some.inj hm
 refine C_ret ?_
 try simp only [↓inBlock_ret, ↓then_ret]
 exact retQ rfl (Res.one Try.results16 rfl) ⟨rfl, hK.kp⟩
def Try_sf15_ren : Go.Shelf.Ren := ⟨fun | 6 => 15 | 14 => 35 | 15 => 36 | 20 => 52 | 21 => 53 | 22 => 54 | 23 => 55 | 24 => 56 | 25 => 57 | 26 => 58 | 27 => 59 | 28 => 60 | 29 => 61 | 46 => 70 | 47 => 71 | 48 => 72 | 49 => 73 | 50 => 74 | 57 => 85 | n => n, fun | 0 => 0 | 1 => 1 | 2 => 2 | 3 => 3 | 4 => 4 | 5 => 5 | 6 => 6 | 7 => 7 | 8 => 8 | 9 => 9 | 10 => 10 | 11 => 11 | 12 => 12 | 13 => 13 | 14 => 14 | 15 => 15 | 16 => 16 | 17 => 17 | 18 => 18 | 19 => 19 | 20 => 20 | 21 => 21 | 22 => 27 | 23 => 41 | 24 => 3 | 25 => 43 | 27 => 27 | 28 => 41 | 29 => 43 | 37 => 69 | 38 => 70 | 39 => 71 | 40 => 44 | 41 => 69 | 42 => 44 | 44 => 89 | 45 => 90 | 46 => 91 | 47 => 92 | 48 => 93 | 49 => 94 | 50 => 65 | 51 => 95 | 52 => 96 | 53 => 97 | 54 => 98 | 55 => 99 | 56 => 89 | 57 => 92 | 58 => 93 | 59 => 94 | 60 => 95 | 66 => 110 | 67 => 111 | 68 => 112 | 69 => 113 | 70 => 114 | 71 => 115 | 72 => 113 | 73 => 115 | 76 => 123 | 77 => 116 | 78 => 124 | 79 => 124 | 81 => 132 | 82 => 133 | 83 => 134 | 84 => 135 | 85 => 136 | 86 => 137 | 87 => 138 | 88 => 139 | 89 => 140 | 90 => 141 | 91 => 142 | 92 => 143 | 93 => 144 | 94 => 145 | 95 => 146 | 96 => 147 | n => n, fun n => n⟩
theorem Try_sf15_lay : Go.Proofs.SlLaysF.n6 Try.prog Try_sf15_ren := {
 mixed := by kernel_rfl,
 f6 := ⟨ "slices.SortFunc[[]int,int]", by kernel_rfl, Try.func15.trans (congrArg some (by kernel_rfl))⟩,
 f14 := ⟨ "slices.pdqsortCmpFunc[int]", by kernel_rfl, Try.func35.trans (congrArg some (by kernel_rfl))⟩,
 f15 := Try.func36.trans (congrArg some (by kernel_rfl)),
 f20 := ⟨ "slices.insertionSortCmpFunc[int]", by kernel_rfl, Try.func52.trans (congrArg some (by kernel_rfl))⟩,
 f21 := ⟨ "slices.heapSortCmpFunc[int]", by kernel_rfl, Try.func53.trans (congrArg some (by kernel_rfl))⟩,
 f22 := ⟨ "slices.breakPatternsCmpFunc[int]", by kernel_rfl, Try.func54.trans (congrArg some (by kernel_rfl))⟩,
 f23 := ⟨ "slices.choosePivotCmpFunc[int]", by kernel_rfl, Try.func55.trans (congrArg some (by kernel_rfl))⟩,
 f24 := ⟨ "slices.reverseRangeCmpFunc[int]", by kernel_rfl, Try.func56.trans (congrArg some (by kernel_rfl))⟩,
 f25 := ⟨ "slices.partialInsertionSortCmpFunc[int]", by kernel_rfl, Try.func57.trans (congrArg some (by kernel_rfl))⟩,
 f26 := ⟨ "slices.partitionEqualCmpFunc[int]", by kernel_rfl, Try.func58.trans (congrArg some (by kernel_rfl))⟩,
 f27 := ⟨ "slices.partitionCmpFunc[int]", by kernel_rfl, Try.func59.trans (congrArg some (by kernel_rfl))⟩,
 f28 := Try.func60.trans (congrArg some (by kernel_rfl)),
 f29 := Try.func61.trans (congrArg some (by kernel_rfl)),
 f46 := ⟨ "slices.siftDownCmpFunc[int]", by kernel_rfl, Try.func70.trans (congrArg some (by kernel_rfl))⟩,
 f47 := Try.func71.trans (congrArg some (by kernel_rfl)),
 f48 := Try.func72.trans (congrArg some (by kernel_rfl)),
 f49 := ⟨ "slices.medianAdjacentCmpFunc[int]", by kernel_rfl, Try.func73.trans (congrArg some (by kernel_rfl))⟩,
 f50 := ⟨ "slices.medianCmpFunc[int]", by kernel_rfl, Try.func74.trans (congrArg some (by kernel_rfl))⟩,
 f57 := ⟨ "slices.order2CmpFunc[int]", by kernel_rfl, Try.func85.trans (congrArg some (by kernel_rfl))⟩,
 t0 := Try.underlying0,
 a0 := Try.isAgg0,
 z0 := Try.sizeOf0,
 v0 := Try.zeroValue0,
 t3 := Try.underlying3,
 a3 := Try.isAgg3,
 z3 := Try.sizeOf3,
 v3 := Try.zeroValue3,
 t4 := Try.underlying4,
 a4 := Try.isAgg4,
 z4 := Try.sizeOf4,
 v4 := Try.zeroValue4,
 t5 := Try.underlying5,
 a5 := Try.isAgg5,
 z5 := Try.sizeOf5,
 v5 := Try.zeroValue5,
 t9 := Try.underlying9,
 a9 := Try.isAgg9,
 z9 := Try.sizeOf9,
 v9 := Try.zeroValue9,
 t22 := Try.underlying27,
 a22 := Try.isAgg27,
 z22 := Try.sizeOf27,
 v22 := Try.zeroValue27,
 a24 := Try.isAgg3,
 z24 := Try.sizeOf3,
 t25 := Try.underlying43,
 a25 := Try.isAgg43,
 z25 := Try.sizeOf43,
 v25 := Try.zeroValue43,
 t39 := Try.underlying71,
 a39 := Try.isAgg71,
 z39 := Try.sizeOf71,
 v39 := Try.zeroValue71,
 t45 := Try.underlying90,
 a45 := Try.isAgg90,
 z45 := Try.sizeOf90,
 v45 := Try.zeroValue90,
 t46 := Try.underlying91,
 a46 := Try.isAgg91,
 z46 := Try.sizeOf91,
 v46 := Try.zeroValue91,
 t50 := Try.underlying65,
 a50 := Try.isAgg65,
 z50 := Try.sizeOf65,
 v50 := Try.zeroValue65,
 t53 := Try.underlying97,
 a53 := Try.isAgg97,
 z53 := Try.sizeOf97,
 v53 := Try.zeroValue97,
 t55 := Try.underlying99,
 a55 := Try.isAgg99,
 z55 := Try.sizeOf99,
 v55 := Try.zeroValue99,
 t66 := Try.underlying110,
 a66 := Try.isAgg110,
 z66 := Try.sizeOf110,
 v66 := Try.zeroValue110,
 t70 := Try.underlying114,
 a70 := Try.isAgg114,
 z70 := Try.sizeOf114,
 v70 := Try.zeroValue114,
 t76 := Try.underlying123,
 a76 := Try.isAgg123,
 z76 := Try.sizeOf123,
 v76 := Try.zeroValue123,
 t77 := Try.underlying116,
 a77 := Try.isAgg116,
 z77 := Try.sizeOf116,
 v77 := Try.zeroValue116 }
theorem Try_sf15 {cmp : Int → Int → Option Int} {l r : List Int} {g : FuncId} {cb : Array Value} {B : Nat} {A : Nat → Prop} {w : World} {L : List Ob} {i : Nat} {v : Value} (eg : ∀ (args : Array Value) (w : World), (callFunc g args).run Try.prog w = .ok (.enter g args) w) (hcl : ∀ (w1 : World), Tr True B A w A w1 → (∀ b, w1.heap.size ≤ b → A b) → ∀ (x y c : Int), cmp x y = some c → Ret Try.prog g (#[.int .i64 x, .int .i64 y] ++ cb) w1 fun v w' => v = .int .i64 c ∧ Kp True w1 w') (hH : Hp B A w L) (hi : L[i]? = some (obS (α := Int) 3 v l)) (hB : B ≤ w.heap.size) (hA : ∀ b, w.heap.size ≤ b → A b) (hr : sortFuncL cmp l = some r) : Ret Try.prog 15 #[v, .func (.func g) #[] cb] w fun u w' => u = .tuple #[] ∧ Hp B A w' (L.set i (obS (α := Int) 3 v r)) ∧ Tr Dw B A w A w' :=
 Hp.sortFunc1 (Dw := Dw) (fun p c w => Go.Proofs.AnyF.slices_SortFunc_none { Try_sf15_lay with } p c _ w) (fun enc hone cf hO blk off cap d w hc hh hb hs => Go.Proofs.Any.slices_SortFunc Try_sf15_lay enc hone cf hO g cb blk off cap d w eg hc hh hb hs) hcl hH hi hB hA hr
end Go.Proofs.Ytabkhhpkibbheaa.W
