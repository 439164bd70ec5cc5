/-
  Written by program (gen.py) from the IR of the dump: each function computes its model.
-/
import Derived.Test.YtnjlojicebcikaaGreatClockSharesW1
namespace Go.Proofs.YtnjlojicebcikaaGreat.W
open Go Go.RowKit Go.Pu Go.Gw Go.Proofs Go.Proofs.YtnjlojicebcikaaGreat.M
set_option linter.unusedVariables false
set_option linter.unusedSimpArgs false
variable {Dw : Prop}

set_option maxRecDepth 4000 in
set_option maxHeartbeats 4000000 in
theorem cal_Calendar_open_1_c (w : World) {A : Nat → Prop} {B : Nat} (hB : B ≤ w.heap.size) (hA : ∀ b, w.heap.size ≤ b → A b) {yield_S : Type} (yield : cal_Span → yield_S → Option (Bool × yield_S)) (yield_Y : yield_S → Ob) (yield_v : Value) (yield_one : yield_v.cells.toList = [yield_v]) (yield_s : yield_S) (yield_spec : ∀ (w2 : World) (A2 : Nat → Prop) (L2 : List Ob) (x : cal_Span) (z : yield_S) (b : Bool) (z2 : yield_S), B ≤ w2.heap.size → (∀ b, w2.heap.size ≤ b → A2 b) → Tr Dw B A w A2 w2 → Hp B A2 w2 (yield_Y z :: L2) → yield x z = some (b, z2) → CallV Tryz.prog yield_v [.agg #[.int .i64 x.from_, .int .i64 x.to_]] w2 fun v w3 => v = .bool b ∧ ∃ A3, Tr Dw B A2 w2 A3 w3 ∧ Hp B A3 w3 (yield_Y z2 :: L2)) (p1 : cal_Calendar) (b_p1 : Nat) (h_p1 : El A w b_p1 0 p1) (p2 : Int) (b_p2 : Nat) (h_p2 : El A w b_p2 0 p2) (p3 : Int) (b_p3 : Nat) (h_p3 : El A w b_p3 0 p3) {L : List Ob} (hH : Hp B A w (yield_Y yield_s :: L)) {r : yield_S} (hm : cal_Calendar_open_1 yield yield_s p1 p2 p3 = some r) : Ret Tryz.prog 79 #[yield_v, .pointer (some ⟨b_p1, 0, none⟩), .pointer (some ⟨b_p2, 0, none⟩), .pointer (some ⟨b_p3, 0, none⟩)] w fun v w' => ∃ A1 : Nat → Prop, v = .tuple #[] ∧ Hp B A1 w' (yield_Y r :: L) ∧ Tr Dw B A w A1 w' := by
  unfold cal_Calendar_open_1 at hm
  refine enterM Tryz.func79 rfl Tryz.ntmps79 rfl ?_
  have hK : Tr Dw B A w A w := Tr.refl (Dw := Dw) hA
  refine C_seq ?_
  refine C_region ?_
  refine V_box rfl rfl ?_
  intro b1 w2 h3
  have hk4 := h3.kp (Dw := Dw)
  have h5 : Vb A w2 b1 yield_v := h3.vb hA yield_one
  have ht6 := Kp.tr hk4 hA hB
  replace hH := Hp.kp hH hk4
  replace h_p1 := El.tr h_p1 ht6
  replace h_p2 := El.tr h_p2 ht6
  replace h_p3 := El.tr h_p3 ht6
  replace hK := Tr.trans hK ht6
  replace hB := Nat.le_trans hB ht6.ex.size
  replace hA := ht6.new
  refine V_to (fun _ _ => rfl) ?_
  refine C_seq ?_
  refine C_region ?_
  refine V_y (Y_build Tryz.underlying94 Tryz.zeroValue94 (Tryz_places94 _ Tryz.underlying94) rfl (by with_unfolding_all rfl)) rfl rfl rfl ?_
  refine V_allocH (Dw := Dw) (B := B) hH Tryz.zeroValue94 hB hA rfl ?_
  intro b7 w9 A10 hH11 ht12
  replace h_p1 := El.tr h_p1 ht12
  replace h_p2 := El.tr h_p2 ht12
  replace h_p3 := El.tr h_p3 ht12
  replace h5 := Vb.tr (Dw := Dw) h5 ht12
  replace hK := Tr.trans hK ht12
  replace hB := Nat.le_trans hB ht12.ex.size
  replace hA := ht12.new
  replace hH : Hp B A10 w9 (obC b7 [.int .i64 0, .int .i64 0] 94 :: yield_Y yield_s :: L) := hH11
  refine V_storeC (Dw := Dw) (off := 0) (ds := [.int .i64 (-1), .int .i64 (-1)]) hH (i := 0) rfl Tryz.sizeOf94 rfl (Nat.le_of_ble_eq_true rfl) (by simp [Value.cells, Value.oneCell']) rfl hB hA rfl rfl ?_
  intro w13 hH14 ht15
  replace h_p1 := El.tr h_p1 ht15
  replace h_p2 := El.tr h_p2 ht15
  replace h_p3 := El.tr h_p3 ht15
  replace h5 := Vb.tr (Dw := Dw) h5 ht15
  replace hK := Tr.trans hK ht15
  replace hB := Nat.le_trans hB ht15.ex.size
  replace hA := ht15.new
  replace hH : Hp B A10 w13 (obC b7 [.int .i64 (-1), .int .i64 (-1)] 94 :: yield_Y yield_s :: L) := hH14
  refine V_to (fun _ _ => rfl) ?_
  refine C_seq ?_
  refine C_seq ?_
  refine C_region ?_
  obtain ⟨v16, v18, v20, h22, h17, h19, h21⟩ := El_cal_Calendar h_p1
  refine V_y (Y_loadA h22 Tryz.isAgg66 Tryz.sizeOf66 rfl) rfl rfl rfl ?_
  refine V_y (Y_load (El.int h_p2) Tryz.isAgg3 rfl) rfl rfl rfl ?_
  refine V_y (Y_load (El.int h_p3) Tryz.isAgg3 rfl) rfl rfl rfl ?_
  obtain ⟨x23, hx23, hm⟩ := Option.bind_eq_some_iff.1 hm
  refine V_call Tryz.call80 rfl rfl rfl rfl (cal_Calendar_shifts_c (Dw := Dw) w13 hA p1 v16 h17 v18 h19 v20 h21 p2 p3 hx23) ?_
  rintro _ w30 ⟨b24, b26, b28, rfl, h25, h27, h29, hk31⟩
  have ht32 := Kp.tr hk31 hA hB
  replace hH := Hp.kp hH hk31
  replace h_p1 := El.tr h_p1 ht32
  replace h_p2 := El.tr h_p2 ht32
  replace h_p3 := El.tr h_p3 ht32
  replace h5 := Vb.tr (Dw := Dw) h5 ht32
  replace h17 := Sl.tr h17 ht32
  replace h19 := Sl.tr h19 ht32
  replace h21 := Sl.tr h21 ht32
  replace hK := Tr.trans hK ht32
  replace hB := Nat.le_trans hB ht32.ex.size
  replace hA := ht32.new
  refine V_to (fun _ _ => rfl) ?_
  have hH37 : Hp B A10 w30 ((fun (s34 : (cal_Span × yield_S)) => obE (fun (i : Unit) => [obC b7 [.int .i64 s34.1.from_, .int .i64 s34.1.to_] 94, yield_Y s34.2])) ((⟨(-1), (-1)⟩ : cal_Span), yield_s) :: L) := Hp.pack (F := fun (i : Unit) => [obC b7 [.int .i64 ((⟨(-1), (-1)⟩ : cal_Span), yield_s).1.from_, .int .i64 ((⟨(-1), (-1)⟩ : cal_Span), yield_s).1.to_] 94, yield_Y ((⟨(-1), (-1)⟩ : cal_Span), yield_s).2]) () hH
  obtain ⟨z33, hz33, hm⟩ := Option.bind_eq_some_iff.1 hm
  refine C_cutN (ι := Nat × (Nat → Prop)) (fun i => ⟨41, [{ target := .collected i.1, args := #[] }], none⟩) (fun i => [(4, .pointer (some ⟨b1, 0, none⟩)), (5, .pointer (some ⟨b7, 0, none⟩))]) (fun i w' => z33.2 ≠ some 0 ∧ Hp B i.2 w' ((fun (s34 : (cal_Span × yield_S)) => obE (fun (i : Unit) => [obC b7 [.int .i64 s34.1.from_, .int .i64 s34.1.to_] 94, yield_Y s34.2])) z33.1 :: obO i.1 (.deferred (some [])) :: L) ∧ Tr Dw B A10 w30 i.2 w') ?_ ?_
  · refine C_block ?_
    refine C_rangeFunc (Dw := Dw) (B := B) (A := A10) (L := L) (X := cal_Span) (fun (x43 : cal_Span) => [.agg #[.int .i64 x43.from_, .int .i64 x43.to_]]) (fun (s34 : (cal_Span × yield_S)) => obE (fun (i : Unit) => [obC b7 [.int .i64 s34.1.from_, .int .i64 s34.1.to_] 94, yield_Y s34.2])) (fun (x43 : cal_Span) (s35 : (cal_Span × yield_S)) => Option.bind (α := Lp _ _) (Option.bind (α := Lp _ _) (Option.bind (α := Lp _ _) (if (decide (s35.1.from_ < 0)) = true then some (.fin (x43, s35.2)) else Option.bind (α := Lp _ _) (if (decide (x43.from_ ≤ s35.1.to_)) = true then some (.fin ((⟨s35.1.from_, (if s35.1.to_ < x43.to_ then x43.to_ else s35.1.to_)⟩ : cal_Span), s35.2)) else Option.bind (yield s35.1 s35.2) fun x110 => if (!x110.1) = true then some (.rt ((s35.1, x110.2), some 0)) else some (.fin (x43, x110.2))) fun o96 => o96.andThen (fun y => some (.rt y)) fun s97 => some (.fin (s97.1, s97.2))) fun o81 => o81.andThen (fun y => some (.rt y)) fun s82 => some (.fin (s82.1, s82.2))) fun o73 => o73.andThen (fun y => some (.rt y)) fun s74 => some (.fin (s74.1, s74.2))) fun o65 => o65.andThen (fun y => some y) fun s66 => some ((s66.1, s66.2), none)) (fun k => if k = 0 then .ret else .exit 0) (s0 := ((⟨(-1), (-1)⟩ : cal_Span), yield_s)) (zf := z33) rfl rfl rfl (by decide) (fun _ => rfl) hB hA hH37 93 _ rfl Tryz.call93 ?_ ?_ ?_ ?_
    · intro Ys yv w1 A1 L1 h1 h2 h3 h4 h0 h5
      exact (cal_Calendar_shifts_1_c (Dw := Dw) w1 h1 h2 (yieldB (fun (x43 : cal_Span) (s35 : (cal_Span × yield_S)) => Option.bind (α := Lp _ _) (Option.bind (α := Lp _ _) (Option.bind (α := Lp _ _) (if (decide (s35.1.from_ < 0)) = true then some (.fin (x43, s35.2)) else Option.bind (α := Lp _ _) (if (decide (x43.from_ ≤ s35.1.to_)) = true then some (.fin ((⟨s35.1.from_, (if s35.1.to_ < x43.to_ then x43.to_ else s35.1.to_)⟩ : cal_Span), s35.2)) else Option.bind (yield s35.1 s35.2) fun x110 => if (!x110.1) = true then some (.rt ((s35.1, x110.2), some 0)) else some (.fin (x43, x110.2))) fun o96 => o96.andThen (fun y => some (.rt y)) fun s97 => some (.fin (s97.1, s97.2))) fun o81 => o81.andThen (fun y => some (.rt y)) fun s82 => some (.fin (s82.1, s82.2))) fun o73 => o73.andThen (fun y => some (.rt y)) fun s74 => some (.fin (s74.1, s74.2))) fun o65 => o65.andThen (fun y => some y) fun s66 => some ((s66.1, s66.2), none))) Ys yv h0 (((⟨(-1), (-1)⟩ : cal_Span), yield_s), none) h5 x23.1 b24 (El.tr h25 h3) x23.2.1 b26 (El.tr h27 h3) x23.2.2 b28 (El.tr h29 h3) h4 hz33).mono fun _ _ ⟨A3, _, hh, tt⟩ => ⟨A3, tt, hh⟩
    · intro l38 rc39 w40 A41 L42 x43 s35 s36 j44 hst45 hB46 hA47 ht48 hH49 h50
      obtain ⟨_, hH49⟩ := Hp.open hH49
      replace h5 := Vb.tr (Dw := Dw) h5 ht48
      replace h25 := El.tr h25 ht48
      replace h27 := El.tr h27 ht48
      replace h29 := El.tr h29 ht48
      replace hK := Tr.trans hK ht48
      replace hB := Nat.le_trans hB ht48.ex.size
      replace hA := ht48.new
      replace hH : Hp B A41 w40 (obC b7 [.int .i64 s35.1.from_, .int .i64 s35.1.to_] 94 :: yield_Y s35.2 :: obO l38 (.loop rc39) :: L42) := hH49
      have hr51 : Tr Dw B A41 w40 A41 w40 := Tr.refl (Dw := Dw) hA
      show C _ _ _ _ _ _
      refine C_region ?_
      refine V_alloc Tryz.zeroValue94 rfl ?_
      intro b53 w54 h55
      refine V_storeNew h55 Tryz.sizeOf94 rfl rfl rfl rfl (by exact (List.forall_mem_cons.2 ⟨rfl, (List.forall_mem_cons.2 ⟨rfl, (fun _ h => nomatch h)⟩)⟩)) ?_
      intro w56 h57
      have hk59 := h57.kp (Dw := Dw)
      have h58 : El (α := cal_Span) A41 w56 b53 0 x43 := h57.el hA ⟨[.int .i64 x43.from_], _, rfl, rfl, rfl⟩
      have ht60 := Kp.tr hk59 hA hB
      replace hH := Hp.kp hH hk59
      replace h5 := Vb.tr (Dw := Dw) h5 ht60
      replace h25 := El.tr h25 ht60
      replace h27 := El.tr h27 ht60
      replace h29 := El.tr h29 ht60
      replace hK := Tr.trans hK ht60
      replace hr51 := Tr.trans hr51 ht60
      replace hB := Nat.le_trans hB ht60.ex.size
      replace hA := ht60.new
      refine V_end (fun a ha61 => ?_)
      refine begin_at (Dw := Dw) hH (i := 2) rfl hst45 hB hA (fun w62 hH63 ht64 => ?_) ha61
      replace h5 := Vb.tr (Dw := Dw) h5 ht64
      replace h58 := El.tr h58 ht64
      replace hK := Tr.trans hK ht64
      replace hr51 := Tr.trans hr51 ht64
      replace hB := Nat.le_trans hB ht64.ex.size
      replace hA := ht64.new
      replace hH : Hp B A41 w62 (obC b7 [.int .i64 s35.1.from_, .int .i64 s35.1.to_] 94 :: yield_Y s35.2 :: obO l38 (.loop { rc39 with state := .busy }) :: L42) := hH63
      obtain ⟨o65, ho65, h50⟩ := Option.bind_eq_some_iff.1 h50
      refine C_cutG (ι := ((cal_Span × yield_S) × (Nat → Prop))) (fun ⟨s66, A71⟩ => []) (fun ⟨s66, A71⟩ => fun w' => o65 = .fin s66 ∧ Hp B A71 w' (obC b7 [.int .i64 s66.1.from_, .int .i64 s66.1.to_] 94 :: yield_Y s66.2 :: obO l38 (.loop { rc39 with state := .busy }) :: L42) ∧ Tr Dw B A41 w62 A71 w') ?_ ?_
      · have hr67 : Tr Dw B A41 w62 A41 w62 := Tr.refl (Dw := Dw) hA
        refine C_block ?_
        obtain ⟨o73, ho73, ho65⟩ := Option.bind_eq_some_iff.1 ho65
        refine C_cutG (ι := ((cal_Span × yield_S) × (Nat → Prop))) (fun ⟨s74, A79⟩ => []) (fun ⟨s74, A79⟩ => fun w' => o73 = .fin s74 ∧ Hp B A79 w' (obC b7 [.int .i64 s74.1.from_, .int .i64 s74.1.to_] 94 :: yield_Y s74.2 :: obO l38 (.loop { rc39 with state := .busy }) :: L42) ∧ Tr Dw B A41 w62 A79 w') ?_ ?_
        · have hr75 : Tr Dw B A41 w62 A41 w62 := Tr.refl (Dw := Dw) hA
          refine C_block ?_
          refine C_seq ?_
          refine C_region ?_
          refine V_y (Y_fieldAddrC (off2 := 0) Tryz.underlying94 rfl Tryz.sizeOf3 (by decide) rfl rfl) rfl rfl rfl ?_
          refine V_y (Y_load (Hp.cell (j := 0) hH (i := 0) rfl rfl) Tryz.isAgg3 rfl) rfl rfl rfl ?_
          refine V_y (Y_lss rfl rfl) rfl rfl rfl ?_
          refine V_as rfl rfl ?_
          refine V_to (fun _ _ => rfl) ?_
          obtain ⟨o81, ho81, ho73⟩ := Option.bind_eq_some_iff.1 ho73
          refine C_cutG (ι := ((cal_Span × yield_S) × (Nat → Prop))) (fun ⟨s82, A87⟩ => []) (fun ⟨s82, A87⟩ => fun w' => o81 = .fin s82 ∧ Hp B A87 w' (obC b7 [.int .i64 s82.1.from_, .int .i64 s82.1.to_] 94 :: yield_Y s82.2 :: obO l38 (.loop { rc39 with state := .busy }) :: L42) ∧ Tr Dw B A41 w62 A87 w') ?_ ?_
          · have hr83 : Tr Dw B A41 w62 A41 w62 := Tr.refl (Dw := Dw) hA
            refine C_cond rfl (fun hc89 => ?_) (fun hc89 => ?_)
            · rw [if_pos hc89] at ho81
              refine C_region ?_
              obtain ⟨h90, _⟩ := El_cal_Span h58
              refine V_y (Y_loadA h90 Tryz.isAgg94 Tryz.sizeOf94 rfl) rfl rfl rfl ?_
              refine V_storeC (Dw := Dw) (off := 0) (ds := [.int .i64 x43.from_, .int .i64 x43.to_]) hH (i := 0) rfl Tryz.sizeOf94 rfl (Nat.le_of_ble_eq_true rfl) (by simp [Value.cells, Value.oneCell']) rfl hB hA rfl rfl ?_
              intro w91 hH92 ht93
              replace h5 := Vb.tr (Dw := Dw) h5 ht93
              replace h58 := El.tr h58 ht93
              replace hK := Tr.trans hK ht93
              replace hr51 := Tr.trans hr51 ht93
              replace hr67 := Tr.trans hr67 ht93
              replace hr75 := Tr.trans hr75 ht93
              replace hr83 := Tr.trans hr83 ht93
              replace hB := Nat.le_trans hB ht93.ex.size
              replace hA := ht93.new
              replace hH : Hp B A41 w91 (obC b7 [.int .i64 x43.from_, .int .i64 x43.to_] 94 :: yield_Y s35.2 :: obO l38 (.loop { rc39 with state := .busy }) :: L42) := hH92
              obtain rfl := Option.some.inj ho81
              refine V_end (fun a ha94 => ?_)
              exact ⟨((x43, s35.2), A41), ha94.sub trivial, ⟨rfl, hH, hr83⟩⟩
            · rw [if_neg (nt hc89)] at ho81
              refine C_seq ?_
              refine C_region ?_
              have h95 := El_cal_Span_0 h58
              refine V_y (Y_fieldAddr Tryz.underlying94 rfl Tryz.sizeOf3 (by decide) rfl) rfl rfl rfl ?_
              refine V_y (Y_load (El.int h95) Tryz.isAgg3 rfl) rfl rfl rfl ?_
              refine V_y (Y_fieldAddrC (off2 := 1) Tryz.underlying94 rfl Tryz.sizeOf3 (by decide) rfl rfl) rfl rfl rfl ?_
              refine V_y (Y_load (Hp.cell (j := 1) hH (i := 0) rfl rfl) Tryz.isAgg3 rfl) rfl rfl rfl ?_
              refine V_y (Y_leq rfl rfl) rfl rfl rfl ?_
              refine V_as rfl rfl ?_
              refine V_to (fun _ _ => rfl) ?_
              obtain ⟨o96, ho96, ho81⟩ := Option.bind_eq_some_iff.1 ho81
              refine C_cutG (ι := ((cal_Span × yield_S) × (Nat → Prop))) (fun ⟨s97, A102⟩ => []) (fun ⟨s97, A102⟩ => fun w' => o96 = .fin s97 ∧ Hp B A102 w' (obC b7 [.int .i64 s97.1.from_, .int .i64 s97.1.to_] 94 :: yield_Y s97.2 :: obO l38 (.loop { rc39 with state := .busy }) :: L42) ∧ Tr Dw B A41 w62 A102 w') ?_ ?_
              · have hr98 : Tr Dw B A41 w62 A41 w62 := Tr.refl (Dw := Dw) hA
                refine C_cond rfl (fun hc104 => ?_) (fun hc104 => ?_)
                · rw [if_pos hc104] at ho96
                  refine C_region ?_
                  refine V_y (Y_fieldAddrC (off2 := 1) Tryz.underlying94 rfl Tryz.sizeOf3 (by decide) rfl rfl) rfl rfl rfl ?_
                  refine V_y (Y_load (Hp.cell (j := 1) hH (i := 0) rfl rfl) Tryz.isAgg3 rfl) rfl rfl rfl ?_
                  have h105 := El_cal_Span_1 h58
                  refine V_y (Y_fieldAddr Tryz.underlying94 rfl Tryz.sizeOf3 (by decide) rfl) rfl rfl rfl ?_
                  refine V_y (Y_load (El.int h105) Tryz.isAgg3 rfl) rfl rfl rfl ?_
                  refine V_y (Y_max2 rfl rfl) rfl rfl rfl ?_
                  refine V_y (Y_fieldAddrC (off2 := 1) Tryz.underlying94 rfl Tryz.sizeOf3 (by decide) rfl rfl) rfl rfl rfl ?_
                  refine V_storeC (Dw := Dw) (off := 1) (ds := [.int .i64 s35.1.from_, .int .i64 (if s35.1.to_ < x43.to_ then x43.to_ else s35.1.to_)]) hH (i := 0) rfl Tryz.sizeOf3 rfl (Nat.le_of_ble_eq_true rfl) (by simp [Value.cells, Value.oneCell']) rfl hB hA rfl rfl ?_
                  intro w106 hH107 ht108
                  replace h5 := Vb.tr (Dw := Dw) h5 ht108
                  replace h58 := El.tr h58 ht108
                  replace h105 := El.tr h105 ht108
                  replace hK := Tr.trans hK ht108
                  replace hr51 := Tr.trans hr51 ht108
                  replace hr67 := Tr.trans hr67 ht108
                  replace hr75 := Tr.trans hr75 ht108
                  replace hr83 := Tr.trans hr83 ht108
                  replace hr98 := Tr.trans hr98 ht108
                  replace hB := Nat.le_trans hB ht108.ex.size
                  replace hA := ht108.new
                  replace hH : Hp B A41 w106 (obC b7 [.int .i64 s35.1.from_, .int .i64 (if s35.1.to_ < x43.to_ then x43.to_ else s35.1.to_)] 94 :: yield_Y s35.2 :: obO l38 (.loop { rc39 with state := .busy }) :: L42) := hH107
                  obtain rfl := Option.some.inj ho96
                  refine V_end (fun a ha109 => ?_)
                  exact ⟨(((⟨s35.1.from_, (if s35.1.to_ < x43.to_ then x43.to_ else s35.1.to_)⟩ : cal_Span), s35.2), A41), ha109.sub trivial, ⟨rfl, hH, hr98⟩⟩
                · rw [if_neg (nt hc104)] at ho96
                  refine C_seq ?_
                  refine C_seq ?_
                  refine C_region ?_
                  refine V_y (Y_load h5.2.2 Tryz.isAgg121 rfl) rfl rfl rfl ?_
                  refine V_y (Y_loadA (Hp.part (off := 0) (n := 2) (ds := [.int .i64 s35.1.from_, .int .i64 s35.1.to_]) hH (i := 0) rfl rfl) Tryz.isAgg94 Tryz.sizeOf94 rfl) rfl rfl rfl ?_
                  obtain ⟨x110, hx110, ho96⟩ := Option.bind_eq_some_iff.1 ho96
                  replace hH : Hp B A41 w62 (yield_Y s35.2 :: obC b7 [.int .i64 s35.1.from_, .int .i64 s35.1.to_] 94 :: obO l38 (.loop { rc39 with state := .busy }) :: L42) := Hp.front hH (i := 1) rfl
                  refine V_callV rfl rfl rfl (yield_spec w62 _ _ s35.1 _ x110.1 x110.2 hB hA hK hH hx110) ?_
                  rintro _ w111 ⟨rfl, A112, ht114, hH113⟩
                  replace h5 := Vb.tr (Dw := Dw) h5 ht114
                  replace h58 := El.tr h58 ht114
                  replace hK := Tr.trans hK ht114
                  replace hr51 := Tr.trans hr51 ht114
                  replace hr67 := Tr.trans hr67 ht114
                  replace hr75 := Tr.trans hr75 ht114
                  replace hr83 := Tr.trans hr83 ht114
                  replace hr98 := Tr.trans hr98 ht114
                  replace hB := Nat.le_trans hB ht114.ex.size
                  replace hA := ht114.new
                  replace hH : Hp B A112 w111 (yield_Y x110.2 :: obC b7 [.int .i64 s35.1.from_, .int .i64 s35.1.to_] 94 :: obO l38 (.loop { rc39 with state := .busy }) :: L42) := hH113
                  refine V_y (Y_not rfl) rfl rfl rfl ?_
                  refine V_to (fun _ _ => rfl) ?_
                  refine C_cond rfl (fun hc115 => ?_) (fun hc115 => ?_)
                  · rw [if_pos hc115] at ho96
                    obtain rfl := Option.some.inj ho96
                    rw [Lp.andThen_rt] at ho81
                    obtain rfl := Option.some.inj ho81
                    rw [Lp.andThen_rt] at ho73
                    obtain rfl := Option.some.inj ho73
                    rw [Lp.andThen_rt] at ho65
                    obtain rfl := Option.some.inj ho65
                    rw [Lp.andThen_rt] at h50
                    obtain ⟨rfl, rfl⟩ := Prod.mk.inj (Option.some.inj h50)
                    refine C_ret (fun a ha116 => ?_)
                    replace hH : Hp B A112 w111 (obO l38 (.loop { rc39 with state := .busy }) :: yield_Y x110.2 :: obC b7 [.int .i64 s35.1.from_, .int .i64 s35.1.to_] 94 :: L42) := Hp.front hH (i := 2) rfl
                    replace hH : Hp B A112 w111 (yield_Y x110.2 :: obO l38 (.loop { rc39 with state := .busy }) :: obC b7 [.int .i64 s35.1.from_, .int .i64 s35.1.to_] 94 :: L42) := Hp.front hH (i := 1) rfl
                    replace hH : Hp B A112 w111 (obC b7 [.int .i64 s35.1.from_, .int .i64 s35.1.to_] 94 :: yield_Y x110.2 :: obO l38 (.loop { rc39 with state := .busy }) :: L42) := Hp.front hH (i := 2) rfl
                    exact ⟨rfl, A112, hr51, Hp.pack (F := fun (i : Unit) => [obC b7 [.int .i64 (s35.1, x110.2).1.from_, .int .i64 (s35.1, x110.2).1.to_] 94, yield_Y (s35.1, x110.2).2]) () hH⟩
                  · rw [if_neg (nt hc115)] at ho96
                    refine C_skip_to (fun _ _ => rfl) ?_
                    refine C_region ?_
                    obtain ⟨h117, _⟩ := El_cal_Span h58
                    refine V_y (Y_loadA h117 Tryz.isAgg94 Tryz.sizeOf94 rfl) rfl rfl rfl ?_
                    refine V_storeC (Dw := Dw) (off := 0) (ds := [.int .i64 x43.from_, .int .i64 x43.to_]) hH (i := 1) rfl Tryz.sizeOf94 rfl (Nat.le_of_ble_eq_true rfl) (by simp [Value.cells, Value.oneCell']) rfl hB hA rfl rfl ?_
                    intro w118 hH119 ht120
                    replace h58 := El.tr h58 ht120
                    replace hK := Tr.trans hK ht120
                    replace hr51 := Tr.trans hr51 ht120
                    replace hr67 := Tr.trans hr67 ht120
                    replace hr75 := Tr.trans hr75 ht120
                    replace hr83 := Tr.trans hr83 ht120
                    replace hr98 := Tr.trans hr98 ht120
                    replace hB := Nat.le_trans hB ht120.ex.size
                    replace hA := ht120.new
                    replace hH : Hp B A112 w118 (yield_Y x110.2 :: obC b7 [.int .i64 x43.from_, .int .i64 x43.to_] 94 :: obO l38 (.loop { rc39 with state := .busy }) :: L42) := hH119
                    obtain rfl := Option.some.inj ho96
                    refine V_end (fun a ha121 => ?_)
                    replace hH : Hp B A112 w118 (obO l38 (.loop { rc39 with state := .busy }) :: yield_Y x110.2 :: obC b7 [.int .i64 x43.from_, .int .i64 x43.to_] 94 :: L42) := Hp.front hH (i := 2) rfl
                    replace hH : Hp B A112 w118 (yield_Y x110.2 :: obO l38 (.loop { rc39 with state := .busy }) :: obC b7 [.int .i64 x43.from_, .int .i64 x43.to_] 94 :: L42) := Hp.front hH (i := 1) rfl
                    replace hH : Hp B A112 w118 (obC b7 [.int .i64 x43.from_, .int .i64 x43.to_] 94 :: yield_Y x110.2 :: obO l38 (.loop { rc39 with state := .busy }) :: L42) := Hp.front hH (i := 2) rfl
                    exact ⟨((x43, x110.2), A112), ha121.sub trivial, ⟨rfl, hH, hr98⟩⟩
              rintro ⟨s97, A102⟩ w99 ⟨rfl, hH103, hk100⟩ a ha101
              rw [Lp.andThen_fin] at ho81
              replace hK := Tr.trans hK hk100
              replace hr51 := Tr.trans hr51 hk100
              replace hr67 := Tr.trans hr67 hk100
              replace hr75 := Tr.trans hr75 hk100
              replace hr83 := Tr.trans hr83 hk100
              replace hB := Nat.le_trans hB hk100.ex.size
              replace hA := hk100.new
              replace hH : Hp B A102 w99 (obC b7 [.int .i64 s97.1.from_, .int .i64 s97.1.to_] 94 :: yield_Y s97.2 :: obO l38 (.loop { rc39 with state := .busy }) :: L42) := hH103
              obtain rfl := Option.some.inj ho81
              exact ⟨((s97.1, s97.2), A102), ha101.sub trivial, ⟨rfl, hH, hr83⟩⟩
          rintro ⟨s82, A87⟩ w84 ⟨rfl, hH88, hk85⟩ a ha86
          rw [Lp.andThen_fin] at ho73
          replace hK := Tr.trans hK hk85
          replace hr51 := Tr.trans hr51 hk85
          replace hr67 := Tr.trans hr67 hk85
          replace hr75 := Tr.trans hr75 hk85
          replace hB := Nat.le_trans hB hk85.ex.size
          replace hA := hk85.new
          replace hH : Hp B A87 w84 (obC b7 [.int .i64 s82.1.from_, .int .i64 s82.1.to_] 94 :: yield_Y s82.2 :: obO l38 (.loop { rc39 with state := .busy }) :: L42) := hH88
          obtain rfl := Option.some.inj ho73
          exact ⟨((s82.1, s82.2), A87), ha86.sub trivial, ⟨rfl, hH, hr75⟩⟩
        rintro ⟨s74, A79⟩ w76 ⟨rfl, hH80, hk77⟩ a ha78
        rw [Lp.andThen_fin] at ho65
        replace hK := Tr.trans hK hk77
        replace hr51 := Tr.trans hr51 hk77
        replace hr67 := Tr.trans hr67 hk77
        replace hB := Nat.le_trans hB hk77.ex.size
        replace hA := hk77.new
        replace hH : Hp B A79 w76 (obC b7 [.int .i64 s74.1.from_, .int .i64 s74.1.to_] 94 :: yield_Y s74.2 :: obO l38 (.loop { rc39 with state := .busy }) :: L42) := hH80
        obtain rfl := Option.some.inj ho65
        exact ⟨((s74.1, s74.2), A79), ha78.sub trivial, ⟨rfl, hH, hr67⟩⟩
      rintro ⟨s66, A71⟩ w68 ⟨rfl, hH72, hk69⟩ a ha70
      rw [Lp.andThen_fin] at h50
      replace hK := Tr.trans hK hk69
      replace hr51 := Tr.trans hr51 hk69
      replace hB := Nat.le_trans hB hk69.ex.size
      replace hA := hk69.new
      replace hH : Hp B A71 w68 (obC b7 [.int .i64 s66.1.from_, .int .i64 s66.1.to_] 94 :: yield_Y s66.2 :: obO l38 (.loop { rc39 with state := .busy }) :: L42) := hH72
      obtain ⟨rfl, rfl⟩ := Prod.mk.inj (Option.some.inj h50)
      exact ⟨rfl, A71, hr51, Hp.pack (F := fun (i : Unit) => [obC b7 [.int .i64 (s66.1, s66.2).1.from_, .int .i64 (s66.1, s66.2).1.to_] 94, yield_Y (s66.1, s66.2).2]) () hH⟩
    · intro hc131 D126 w127 A128 ht129 hH130 a ha132
      exact ⟨(D126, A128), ha132.sub ⟨rfl, rfl, trivial⟩, (by rw [hc131]; simp), hH130, ht129⟩
    · intro k133 hc131 D126 w127 A128 ht129 hH130
      by_cases hc134 : k133 = 0
      · subst hc134
        rw [if_pos hc131] at hm
        obtain ⟨_, hH130⟩ := Hp.open hH130
        replace hK := Tr.trans hK ht129
        replace hB := Nat.le_trans hB ht129.ex.size
        replace hA := ht129.new
        replace hH : Hp B A128 w127 (obC b7 [.int .i64 z33.1.1.from_, .int .i64 z33.1.1.to_] 94 :: yield_Y z33.1.2 :: obO D126 (.deferred (some [])) :: L) := hH130
        show C _ _ .ret _ _ _
        obtain rfl := Option.some.inj hm
        have h135 := Hp.obj hH (i := 2) (b := D126) rfl
        obtain ⟨hH136, ht137⟩ := Hp.put (Dw := Dw) (.deferred none) hH (i := 2) (b := D126) rfl hB hA
        replace hK := Tr.trans hK ht137
        replace hB := Nat.le_trans hB ht137.ex.size
        replace hA := ht137.new
        replace hH : Hp B A128 (World.putObj w127 D126 (.deferred none)) (obC b7 [.int .i64 z33.1.1.from_, .int .i64 z33.1.1.to_] 94 :: yield_Y z33.1.2 :: obO D126 (.deferred none) :: L) := hH136
        replace hH : Hp B A128 (World.putObj w127 D126 (.deferred none)) (yield_Y z33.1.2 :: obC b7 [.int .i64 z33.1.1.from_, .int .i64 z33.1.1.to_] 94 :: obO D126 (.deferred none) :: L) := Hp.front hH (i := 1) rfl
        replace hH : Hp B A128 (World.putObj w127 D126 (.deferred none)) (yield_Y z33.1.2 :: obO D126 (.deferred none) :: L) := Hp.drop hH (i := 1) rfl
        replace hH : Hp B A128 (World.putObj w127 D126 (.deferred none)) (yield_Y z33.1.2 :: L) := Hp.drop hH (i := 1) rfl
        refine C_ret ?_
        try simp only [↓inBlock_ret, ↓then_ret]
        exact retM1 rfl h135 (Res.zero Tryz.results79) ⟨A128, rfl, hH, hK⟩
      · show C _ _ (if k133 = 0 then _ else _) _ _ _
        rw [if_neg hc134]
        refine C_exit fun a ha132 => ?_
        show Exit.inBlock _ _ _ _ _
        rw [Exit.inBlock, if_pos rfl]
        exact ⟨(D126, A128), ha132.sub ⟨rfl, rfl, trivial⟩, (by rw [hc131]; simpa using hc134), hH130, ht129⟩
  rintro ⟨D126, A128⟩ w127 ⟨hc138, hH130, ht129⟩ a ha132
  rw [if_neg hc138] at hm
  obtain ⟨_, hH130⟩ := Hp.open hH130
  replace h5 := Vb.tr (Dw := Dw) h5 ht129
  replace hK := Tr.trans hK ht129
  replace hB := Nat.le_trans hB ht129.ex.size
  replace hA := ht129.new
  replace hH : Hp B A128 w127 (obC b7 [.int .i64 z33.1.1.from_, .int .i64 z33.1.1.to_] 94 :: yield_Y z33.1.2 :: obO D126 (.deferred (some [])) :: L) := hH130
  refine C_at (n := ⟨41, [{ target := .collected D126, args := #[] }], none⟩) (fun _ _ => rfl) ?_ ha132
  refine C_seq ?_
  refine C_region ?_
  refine V_y (Y_fieldAddrC (off2 := 0) Tryz.underlying94 rfl Tryz.sizeOf3 (by decide) rfl rfl) rfl rfl rfl ?_
  refine V_y (Y_load (Hp.cell (j := 0) hH (i := 0) rfl rfl) Tryz.isAgg3 rfl) rfl rfl rfl ?_
  refine V_y (Y_geq rfl rfl) rfl rfl rfl ?_
  refine V_to (fun _ _ => rfl) ?_
  obtain ⟨s140, ho139, hm⟩ := Option.bind_eq_some_iff.1 hm
  refine C_cutG (ι := (Nat → Prop)) (fun (A145 : (Nat → Prop)) => []) (fun (A145 : (Nat → Prop)) => fun w' => Hp B A145 w' (obC b7 [.int .i64 z33.1.1.from_, .int .i64 z33.1.1.to_] 94 :: yield_Y s140 :: obO D126 (.deferred (some [])) :: L) ∧ Tr Dw B A128 w127 A145 w') ?_ ?_
  · have hr141 : Tr Dw B A128 w127 A128 w127 := Tr.refl (Dw := Dw) hA
    refine C_cond rfl (fun hc147 => ?_) (fun hc147 => ?_)
    · rw [if_pos hc147] at ho139
      refine C_region ?_
      refine V_y (Y_load h5.2.2 Tryz.isAgg121 rfl) rfl rfl rfl ?_
      refine V_y (Y_loadA (Hp.part (off := 0) (n := 2) (ds := [.int .i64 z33.1.1.from_, .int .i64 z33.1.1.to_]) hH (i := 0) rfl rfl) Tryz.isAgg94 Tryz.sizeOf94 rfl) rfl rfl rfl ?_
      obtain ⟨x148, hx148, ho139⟩ := Option.bind_eq_some_iff.1 ho139
      replace hH : Hp B A128 w127 (yield_Y z33.1.2 :: obC b7 [.int .i64 z33.1.1.from_, .int .i64 z33.1.1.to_] 94 :: obO D126 (.deferred (some [])) :: L) := Hp.front hH (i := 1) rfl
      refine V_callV rfl rfl rfl (yield_spec w127 _ _ z33.1.1 _ x148.1 x148.2 hB hA hK hH hx148) ?_
      rintro _ w149 ⟨rfl, A150, ht152, hH151⟩
      replace h5 := Vb.tr (Dw := Dw) h5 ht152
      replace hK := Tr.trans hK ht152
      replace hr141 := Tr.trans hr141 ht152
      replace hB := Nat.le_trans hB ht152.ex.size
      replace hA := ht152.new
      replace hH : Hp B A150 w149 (yield_Y x148.2 :: obC b7 [.int .i64 z33.1.1.from_, .int .i64 z33.1.1.to_] 94 :: obO D126 (.deferred (some [])) :: L) := hH151
      obtain rfl := Option.some.inj ho139
      refine V_end (fun a ha153 => ?_)
      replace hH : Hp B A150 w149 (obO D126 (.deferred (some [])) :: yield_Y x148.2 :: obC b7 [.int .i64 z33.1.1.from_, .int .i64 z33.1.1.to_] 94 :: L) := Hp.front hH (i := 2) rfl
      replace hH : Hp B A150 w149 (yield_Y x148.2 :: obO D126 (.deferred (some [])) :: obC b7 [.int .i64 z33.1.1.from_, .int .i64 z33.1.1.to_] 94 :: L) := Hp.front hH (i := 1) rfl
      replace hH : Hp B A150 w149 (obC b7 [.int .i64 z33.1.1.from_, .int .i64 z33.1.1.to_] 94 :: yield_Y x148.2 :: obO D126 (.deferred (some [])) :: L) := Hp.front hH (i := 2) rfl
      exact ⟨A150, ha153.sub trivial, ⟨hH, hr141⟩⟩
    · rw [if_neg (nt hc147)] at ho139
      obtain rfl := Option.some.inj ho139
      refine C_skip (fun a ha154 => ?_)
      exact ⟨A128, ha154.sub trivial, ⟨hH, hr141⟩⟩
  rintro A145 w142 ⟨hH146, hk143⟩ a ha144
  replace hK := Tr.trans hK hk143
  replace hB := Nat.le_trans hB hk143.ex.size
  replace hA := hk143.new
  replace hH : Hp B A145 w142 (obC b7 [.int .i64 z33.1.1.from_, .int .i64 z33.1.1.to_] 94 :: yield_Y s140 :: obO D126 (.deferred (some [])) :: L) := hH146
  obtain rfl := Option.some.inj hm
  have h156 := Hp.obj hH (i := 2) (b := D126) rfl
  obtain ⟨hH157, ht158⟩ := Hp.put (Dw := Dw) (.deferred none) hH (i := 2) (b := D126) rfl hB hA
  replace hK := Tr.trans hK ht158
  replace hB := Nat.le_trans hB ht158.ex.size
  replace hA := ht158.new
  replace hH : Hp B A145 (World.putObj w142 D126 (.deferred none)) (obC b7 [.int .i64 z33.1.1.from_, .int .i64 z33.1.1.to_] 94 :: yield_Y s140 :: obO D126 (.deferred none) :: L) := hH157
  replace hH : Hp B A145 (World.putObj w142 D126 (.deferred none)) (yield_Y s140 :: obC b7 [.int .i64 z33.1.1.from_, .int .i64 z33.1.1.to_] 94 :: obO D126 (.deferred none) :: L) := Hp.front hH (i := 1) rfl
  replace hH : Hp B A145 (World.putObj w142 D126 (.deferred none)) (yield_Y s140 :: obO D126 (.deferred none) :: L) := Hp.drop hH (i := 1) rfl
  replace hH : Hp B A145 (World.putObj w142 D126 (.deferred none)) (yield_Y s140 :: L) := Hp.drop hH (i := 1) rfl
  try simp only [↓inBlock_ret, ↓then_ret]
  exact normM (retM1 rfl h156 (Res.zero Tryz.results79) ⟨A145, rfl, hH, hK⟩ a ha144)

set_option maxRecDepth 4000 in
set_option maxHeartbeats 4000000 in
theorem cal_Worked_c (w : World) {A : Nat → Prop} (hA : ∀ b, w.heap.size ≤ b → A b) (c : cal_Calendar) (v_c0 : Value) (h_c0 : Sl A w v_c0 c.zone.changes) (v_c1 : Value) (h_c1 : Sl A w v_c1 c.week) (v_c2 : Value) (h_c2 : Sl A w v_c2 c.specials) (from_ : Int) (to_ : Int) {r : (Int × Int)} (hm : cal_Worked c from_ to_ = some r) : Ret Tryz.prog 38 #[.agg #[.int .i64 c.zone.offset, v_c0, v_c1, v_c2], .int .i64 from_, .int .i64 to_] w fun v w' => v = .tuple #[.int .i64 r.1, .int .i64 r.2] ∧ Kp Dw w w' := by
  unfold cal_Worked at hm
  refine enterM Tryz.func38 rfl Tryz.ntmps38 rfl ?_
  have hA0 := hA
  have hB := Nat.le_refl w.heap.size
  have hK : Tr Dw w.heap.size A w A w := Tr.refl (Dw := Dw) hA
  have hH : Hp w.heap.size A w [] := Hp.nil
  refine C_seq ?_
  refine C_region ?_
  refine V_box rfl rfl ?_
  intro b7 w9 h10
  have hk12 := h10.kp (Dw := Dw)
  have h11 : El (α := cal_Calendar) A w9 b7 0 c := h10.el hA ⟨[.int .i64 c.zone.offset, v_c0], _, rfl, ⟨[.int .i64 c.zone.offset], _, rfl, rfl, ⟨_, rfl, h_c0⟩⟩, ⟨[v_c1], _, rfl, ⟨_, rfl, h_c1⟩, ⟨_, rfl, h_c2⟩⟩⟩
  have ht13 := Kp.tr hk12 hA hB
  replace hH := Hp.kp hH hk12
  replace h_c0 := Sl.tr h_c0 ht13
  replace h_c1 := Sl.tr h_c1 ht13
  replace h_c2 := Sl.tr h_c2 ht13
  replace hK := Tr.trans hK ht13
  replace hB := Nat.le_trans hB ht13.ex.size
  replace hA := ht13.new
  refine V_as rfl rfl ?_
  refine V_as rfl rfl ?_
  refine V_to (fun _ _ => rfl) ?_
  refine C_seq ?_
  refine C_seq ?_
  refine C_region ?_
  obtain ⟨v14, v16, v18, h20, h15, h17, h19⟩ := El_cal_Calendar h11
  refine V_y (Y_loadA h20 Tryz.isAgg66 Tryz.sizeOf66 rfl) rfl rfl rfl ?_
  obtain ⟨x21, hx21, hm⟩ := Option.bind_eq_some_iff.1 hm
  refine V_call Tryz.call31 rfl rfl rfl rfl (cal_CheckCalendar_c (Dw := Dw) w9 hA c v14 h15 v16 h17 v18 h19 hx21) ?_
  rintro _ w22 ⟨rfl, hk23⟩
  have ht24 := Kp.tr hk23 hA hB
  replace hH := Hp.kp hH hk23
  replace h11 := El.tr h11 ht24
  replace h15 := Sl.tr h15 ht24
  replace h17 := Sl.tr h17 ht24
  replace h19 := Sl.tr h19 ht24
  replace hK := Tr.trans hK ht24
  replace hB := Nat.le_trans hB ht24.ex.size
  replace hA := ht24.new
  refine V_mv rfl rfl ?_
  refine V_mv rfl rfl ?_
  refine V_call Tryz.call54 rfl rfl rfl rfl (cal_stretch_c w22 from_ to_) ?_
  rintro _ _ ⟨rfl, rfl⟩
  refine V_buildSlice (Dw := Dw) (cells := #[.int .i64 x21, .int .i64 (cal_stretch from_ to_)]) (l := ([x21, (cal_stretch from_ to_)] : List Int)) (len := 2) Tryz.underlying58 Tryz.sizeOf25 Tryz.zeroValue25 rfl (by generalize ((cal_stretch from_ to_) : Int) = z29; kernel_rfl) (show (2 * 1 : Nat) ≠ 0 by decide) (show (2 * 1 : Nat) ≤ 2 ^ 24 by decide) hA ⟨[.int .i64 x21], _, rfl, rfl, ⟨[.int .i64 (cal_stretch from_ to_)], _, rfl, rfl, rfl⟩⟩ rfl rfl ?_
  intro v25 w26 hk28 h27
  have ht30 := Kp.tr hk28 hA hB
  replace hH := Hp.kp hH hk28
  replace h11 := El.tr h11 ht30
  replace h15 := Sl.tr h15 ht30
  replace h17 := Sl.tr h17 ht30
  replace h19 := Sl.tr h19 ht30
  replace hK := Tr.trans hK ht30
  replace hB := Nat.le_trans hB ht30.ex.size
  replace hA := ht30.new
  obtain ⟨x31, hx31, hm⟩ := Option.bind_eq_some_iff.1 hm
  refine V_call Tryz.call9 rfl rfl rfl rfl (cmp_Or_api_Errno_c w26 ([x21, (cal_stretch from_ to_)] : List Int) v25 h27 hx31) ?_
  rintro _ _ ⟨rfl, rfl⟩
  refine V_as rfl rfl ?_
  refine V_to (fun _ _ => rfl) ?_
  refine C_seq ?_
  refine C_region ?_
  refine V_mv rfl rfl ?_
  refine V_y (Y_neq rfl rfl) rfl rfl rfl ?_
  refine V_to (fun _ _ => rfl) ?_
  refine C_cond rfl (fun hc32 => ?_) (fun hc32 => ?_)
  · rw [if_pos hc32] at hm
    refine C_seq ?_
    refine C_region ?_
    refine V_mv rfl rfl ?_
    refine V_as rfl rfl ?_
    refine V_as rfl rfl ?_
    refine V_to (fun _ _ => rfl) ?_
    obtain rfl := Option.some.inj hm
    refine C_ret ?_
    try simp only [↓inBlock_ret, ↓then_ret]
    exact retM rfl (Res.two Tryz.results38 rfl rfl) ⟨rfl, hK.kp⟩
  · rw [if_neg (nt hc32)] at hm
    refine C_skip_to (fun _ _ => rfl) ?_
    refine C_seq ?_
    refine C_region ?_
    refine V_allocH (Dw := Dw) (B := w.heap.size) hH Tryz.zeroValue3 hB hA rfl ?_
    intro b33 w34 A35 hH36 ht37
    replace h11 := El.tr h11 ht37
    replace hK := Tr.trans hK ht37
    replace hB := Nat.le_trans hB ht37.ex.size
    replace hA := ht37.new
    replace hH : Hp w.heap.size A35 w34 (obC b33 [.int .i64 0] 3 :: []) := hH36
    refine V_storeC (Dw := Dw) (off := 0) (ds := [.int .i64 0]) hH (i := 0) rfl Tryz.sizeOf3 rfl (Nat.le_of_ble_eq_true rfl) (by simp [Value.cells, Value.oneCell']) rfl hB hA rfl rfl ?_
    intro w38 hH39 ht40
    replace h11 := El.tr h11 ht40
    replace hK := Tr.trans hK ht40
    replace hB := Nat.le_trans hB ht40.ex.size
    replace hA := ht40.new
    replace hH : Hp w.heap.size A35 w38 (obC b33 [.int .i64 0] 3 :: []) := hH39
    refine V_to (fun _ _ => rfl) ?_
    refine C_seq ?_
    refine C_seq ?_
    refine C_region ?_
    obtain ⟨v41, v43, v45, h47, h42, h44, h46⟩ := El_cal_Calendar h11
    refine V_y (Y_loadA h47 Tryz.isAgg66 Tryz.sizeOf66 rfl) rfl rfl rfl ?_
    refine V_mv rfl rfl ?_
    refine V_mv rfl rfl ?_
    obtain ⟨x48, hx48, hm⟩ := Option.bind_eq_some_iff.1 hm
    refine V_call Tryz.call55 rfl rfl rfl rfl (cal_Calendar_open_c (Dw := Dw) w38 hA c v41 h42 v43 h44 v45 h46 from_ to_ hx48) ?_
    rintro _ w55 ⟨b49, b51, b53, rfl, h50, h52, h54, hk56⟩
    have ht57 := Kp.tr hk56 hA hB
    replace hH := Hp.kp hH hk56
    replace h11 := El.tr h11 ht57
    replace h42 := Sl.tr h42 ht57
    replace h44 := Sl.tr h44 ht57
    replace h46 := Sl.tr h46 ht57
    replace hK := Tr.trans hK ht57
    replace hB := Nat.le_trans hB ht57.ex.size
    replace hA := ht57.new
    refine V_to (fun _ _ => rfl) ?_
    have hH62 : Hp w.heap.size A35 w55 ((fun (s59 : Int) => obE (fun (i : Unit) => [obC b33 [.int .i64 s59] 3])) 0 :: []) := Hp.pack (F := fun (i : Unit) => [obC b33 [.int .i64 0] 3]) () hH
    obtain ⟨z58, hz58, hm⟩ := Option.bind_eq_some_iff.1 hm
    refine C_cutN (ι := Nat × (Nat → Prop)) (fun i => ⟨34, [{ target := .collected i.1, args := #[] }], none⟩) (fun i => [(9, .pointer (some ⟨b33, 0, none⟩))]) (fun i w' => Hp w.heap.size i.2 w' ((fun (s59 : Int) => obE (fun (i : Unit) => [obC b33 [.int .i64 s59] 3])) z58.1 :: obO i.1 (.deferred (some [])) :: []) ∧ Tr Dw w.heap.size A35 w55 i.2 w') ?_ ?_
    · refine C_block ?_
      refine C_rangeFunc (Dw := Dw) (B := w.heap.size) (A := A35) (L := []) (X := cal_Span) (fun (x68 : cal_Span) => [.agg #[.int .i64 x68.from_, .int .i64 x68.to_]]) (fun (s59 : Int) => obE (fun (i : Unit) => [obC b33 [.int .i64 s59] 3])) (fun (x68 : cal_Span) (s60 : Int) => some (w64 (s60 + (w64 (x68.to_ - x68.from_))), none)) (fun _ => .exit 0) (s0 := 0) (zf := z58) rfl rfl rfl (by decide) (fun _ => rfl) hB hA hH62 79 _ rfl Tryz.call79 ?_ ?_ ?_ ?_
      · intro Ys yv w1 A1 L1 h1 h2 h3 h4 h0 h5
        exact (cal_Calendar_open_1_c (Dw := Dw) w1 h1 h2 (yieldB (fun (x68 : cal_Span) (s60 : Int) => some (w64 (s60 + (w64 (x68.to_ - x68.from_))), none))) Ys yv h0 (0, none) h5 x48.1 b49 (El.tr h50 h3) x48.2.1 b51 (El.tr h52 h3) x48.2.2 b53 (El.tr h54 h3) h4 hz58).mono fun _ _ ⟨A3, _, hh, tt⟩ => ⟨A3, tt, hh⟩
      · intro l63 rc64 w65 A66 L67 x68 s60 s61 j69 hst70 hB71 hA72 ht73 hH74 h75
        obtain ⟨_, hH74⟩ := Hp.open hH74
        replace h50 := El.tr h50 ht73
        replace h52 := El.tr h52 ht73
        replace h54 := El.tr h54 ht73
        replace hK := Tr.trans hK ht73
        replace hB := Nat.le_trans hB ht73.ex.size
        replace hA := ht73.new
        replace hH : Hp w.heap.size A66 w65 (obC b33 [.int .i64 s60] 3 :: obO l63 (.loop rc64) :: L67) := hH74
        have hr76 : Tr Dw w.heap.size A66 w65 A66 w65 := Tr.refl (Dw := Dw) hA
        show C _ _ _ _ _ _
        refine C_region ?_
        refine V_alloc Tryz.zeroValue94 rfl ?_
        intro b78 w79 h80
        refine V_storeNew h80 Tryz.sizeOf94 rfl rfl rfl rfl (by exact (List.forall_mem_cons.2 ⟨rfl, (List.forall_mem_cons.2 ⟨rfl, (fun _ h => nomatch h)⟩)⟩)) ?_
        intro w81 h82
        have hk84 := h82.kp (Dw := Dw)
        have h83 : El (α := cal_Span) A66 w81 b78 0 x68 := h82.el hA ⟨[.int .i64 x68.from_], _, rfl, rfl, rfl⟩
        have ht85 := Kp.tr hk84 hA hB
        replace hH := Hp.kp hH hk84
        replace h50 := El.tr h50 ht85
        replace h52 := El.tr h52 ht85
        replace h54 := El.tr h54 ht85
        replace hK := Tr.trans hK ht85
        replace hr76 := Tr.trans hr76 ht85
        replace hB := Nat.le_trans hB ht85.ex.size
        replace hA := ht85.new
        refine V_end (fun a ha86 => ?_)
        refine begin_at (Dw := Dw) hH (i := 1) rfl hst70 hB hA (fun w87 hH88 ht89 => ?_) ha86
        replace h83 := El.tr h83 ht89
        replace hK := Tr.trans hK ht89
        replace hr76 := Tr.trans hr76 ht89
        replace hB := Nat.le_trans hB ht89.ex.size
        replace hA := ht89.new
        replace hH : Hp w.heap.size A66 w87 (obC b33 [.int .i64 s60] 3 :: obO l63 (.loop { rc64 with state := .busy }) :: L67) := hH88
        refine C_block ?_
        refine C_region ?_
        refine V_y (Y_load (Hp.cell (j := 0) hH (i := 0) rfl rfl) Tryz.isAgg3 rfl) rfl rfl rfl ?_
        have h90 := El_cal_Span_1 h83
        refine V_y (Y_fieldAddr Tryz.underlying94 rfl Tryz.sizeOf3 (by decide) rfl) rfl rfl rfl ?_
        refine V_y (Y_load (El.int h90) Tryz.isAgg3 rfl) rfl rfl rfl ?_
        have h91 := El_cal_Span_0 h83
        refine V_y (Y_fieldAddr Tryz.underlying94 rfl Tryz.sizeOf3 (by decide) rfl) rfl rfl rfl ?_
        refine V_y (Y_load (El.int h91) Tryz.isAgg3 rfl) rfl rfl rfl ?_
        refine V_y (Y_subI rfl rfl) rfl rfl rfl ?_
        refine V_y (Y_addI rfl rfl) rfl rfl rfl ?_
        refine V_storeC (Dw := Dw) (off := 0) (ds := [.int .i64 (w64 (s60 + (w64 (x68.to_ - x68.from_))))]) hH (i := 0) rfl Tryz.sizeOf3 rfl (Nat.le_of_ble_eq_true rfl) (by simp [Value.cells, Value.oneCell']) rfl hB hA rfl rfl ?_
        intro w92 hH93 ht94
        replace h83 := El.tr h83 ht94
        replace h90 := El.tr h90 ht94
        replace h91 := El.tr h91 ht94
        replace hK := Tr.trans hK ht94
        replace hr76 := Tr.trans hr76 ht94
        replace hB := Nat.le_trans hB ht94.ex.size
        replace hA := ht94.new
        replace hH : Hp w.heap.size A66 w92 (obC b33 [.int .i64 (w64 (s60 + (w64 (x68.to_ - x68.from_))))] 3 :: obO l63 (.loop { rc64 with state := .busy }) :: L67) := hH93
        obtain ⟨rfl, rfl⟩ := Prod.mk.inj (Option.some.inj h75)
        refine V_end (fun a ha95 => ?_)
        exact ⟨rfl, A66, hr76, Hp.pack (F := fun (i : Unit) => [obC b33 [.int .i64 (w64 (s60 + (w64 (x68.to_ - x68.from_))))] 3]) () hH⟩
      · intro hc101 D96 w97 A98 ht99 hH100 a ha102
        exact ⟨(D96, A98), ha102.sub ⟨rfl, trivial⟩, hH100, ht99⟩
      · intro k103 hc101 D96 w97 A98 ht99 hH100
        refine C_exit fun a ha102 => ?_
        show Exit.inBlock _ _ _ _ _
        rw [Exit.inBlock, if_pos rfl]
        exact ⟨(D96, A98), ha102.sub ⟨rfl, trivial⟩, hH100, ht99⟩
    rintro ⟨D96, A98⟩ w97 ⟨hH100, ht99⟩ a ha102
    obtain ⟨_, hH100⟩ := Hp.open hH100
    replace hK := Tr.trans hK ht99
    replace hB := Nat.le_trans hB ht99.ex.size
    replace hA := ht99.new
    replace hH : Hp w.heap.size A98 w97 (obC b33 [.int .i64 z58.1] 3 :: obO D96 (.deferred (some [])) :: []) := hH100
    refine C_at (n := ⟨34, [{ target := .collected D96, args := #[] }], none⟩) (fun _ _ => rfl) ?_ ha102
    refine C_seq ?_
    refine C_region ?_
    refine V_y (Y_load (Hp.cell (j := 0) hH (i := 0) rfl rfl) Tryz.isAgg3 rfl) rfl rfl rfl ?_
    refine V_as rfl rfl ?_
    refine V_as rfl rfl ?_
    refine V_to (fun _ _ => rfl) ?_
    obtain rfl := Option.some.inj hm
    have h106 := Hp.obj hH (i := 1) (b := D96) rfl
    obtain ⟨hH107, ht108⟩ := Hp.put (Dw := Dw) (.deferred none) hH (i := 1) (b := D96) rfl hB hA
    replace hK := Tr.trans hK ht108
    replace hB := Nat.le_trans hB ht108.ex.size
    replace hA := ht108.new
    replace hH : Hp w.heap.size A98 (World.putObj w97 D96 (.deferred none)) (obC b33 [.int .i64 z58.1] 3 :: obO D96 (.deferred none) :: []) := hH107
    refine C_ret ?_
    try simp only [↓inBlock_ret, ↓then_ret]
    exact retM1 rfl h106 (Res.two Tryz.results38 rfl rfl) ⟨rfl, hK.kp⟩

set_option maxRecDepth 4000 in
set_option maxHeartbeats 4000000 in
theorem level_elapsed_c (w : World) {A : Nat → Prop} (hA : ∀ b, w.heap.size ≤ b → A b) (c : level_Clock) (v_c : Value) (h_c : Sl A w v_c c.pieces) (cals : (List cal_Calendar)) (v_cals : Value) (h_cals : Sl A w v_cals cals) (m : Int) {r : Int} (hm : level_elapsed c cals m = some r) : Ret Tryz.prog 19 #[.agg #[.int .i64 c.kind, .int .i64 c.level, .int .i64 c.minutes, .int .i64 c.start, .int .i64 c.stop, .int .i64 c.end_, v_c], v_cals, .int .i64 m] w fun v w' => v = .int .i64 r ∧ Kp Dw w w' := by
  unfold level_elapsed at hm
  refine enter Tryz.func19 rfl Tryz.ntmps19 rfl ?_
  have hA0 := hA
  have hB := Nat.le_refl w.heap.size
  have hK : Tr Dw w.heap.size A w A w := Tr.refl (Dw := Dw) hA
  have hH : Hp w.heap.size A w [] := Hp.nil
  refine C_seq ?_
  refine C_region ?_
  refine V_box rfl rfl ?_
  intro b5 w6 h7
  have hk9 := h7.kp (Dw := Dw)
  have h8 : El (α := level_Clock) A w6 b5 0 c := h7.el hA ⟨[.int .i64 c.kind], _, rfl, rfl, ⟨[.int .i64 c.level], _, rfl, rfl, ⟨[.int .i64 c.minutes], _, rfl, rfl, ⟨[.int .i64 c.start], _, rfl, rfl, ⟨[.int .i64 c.stop], _, rfl, rfl, ⟨[.int .i64 c.end_], _, rfl, rfl, ⟨_, rfl, h_c⟩⟩⟩⟩⟩⟩⟩
  have ht10 := Kp.tr hk9 hA hB
  replace hH := Hp.kp hH hk9
  replace h_c := Sl.tr h_c ht10
  replace h_cals := Sl.tr h_cals ht10
  replace hK := Tr.trans hK ht10
  replace hB := Nat.le_trans hB ht10.ex.size
  replace hA := ht10.new
  refine V_as rfl rfl ?_
  refine V_to (fun _ _ => rfl) ?_
  refine C_seq ?_
  refine C_region ?_
  refine V_as rfl rfl ?_
  refine V_to (fun _ _ => rfl) ?_
  refine C_seq ?_
  refine C_seq ?_
  refine C_region ?_
  have h11 := El_level_Clock_6 h8
  refine V_y (Y_fieldAddr Tryz.underlying39 rfl Tryz.sizeOf37 (by decide) rfl) rfl rfl rfl ?_
  obtain ⟨v12, h13, h14⟩ := El.list h11
  refine V_y (Y_load h13 Tryz.isAgg37 rfl) rfl rfl rfl ?_
  refine V_y (Y_lenSl h14 rfl Tryz.underlying37 rfl) rfl rfl rfl ?_
  refine V_mv rfl rfl ?_
  refine V_to (fun _ _ => rfl) ?_
  have hn35 := Sl.le h14
  obtain ⟨o15, ho15, hm⟩ := Option.bind_eq_some_iff.1 hm
  refine C_cutG (ι := (Int × (Nat → Prop))) (fun ⟨s16, A22⟩ => [(7, .int .i64 s16)]) (fun ⟨s16, A22⟩ => fun w' => o15 = .fin s16 ∧ Hp w.heap.size A22 w' ([]) ∧ Tr Dw w.heap.size A w6 A22 w') ?_ ?_
  · refine C_block ?_
    refine C_range ho15 (fun k18 s24 a w' => ∃ i : (Nat → Prop), Has ⟨49, [], none⟩ a ([(1, v_cals), (2, .int .i64 m), (7, .int .i64 s24), (14, v12), (15, .int .i64 (c.pieces.length : Int)), (16, .int .i64 (k18 : Int))]) ∧ Hp w.heap.size i w' ([]) ∧ Tr Dw w.heap.size A w6 i w') (fun a ha => ⟨A, ha.sub ⟨rfl, rfl, rfl, rfl, rfl, rfl, trivial⟩, ⟨hH, Tr.refl (Dw := Dw) hA⟩⟩) ?_
    rintro K k18 s24 a w25 ⟨A26, ha101, hH27, hr17⟩ hle31 K34 h33
    refine C_of ?_ ha101
    replace h_cals := Sl.tr h_cals hr17
    replace h14 := Sl.tr h14 hr17
    replace hK := Tr.trans hK hr17
    replace hB := Nat.le_trans hB hr17.ex.size
    replace hA := hr17.new
    replace hH : Hp w.heap.size A26 w25 ([]) := hH27
    refine C_seq (C_region (V_y (Y_lss rfl rfl) rfl rfl rfl (V_to (fun _ _ => rfl) ?_)))
    refine C_seq ?_
    refine C_cond rfl (fun hc36 => ?_) (fun hc36 => ?_)
    · have hlt32 := lt_of_dec hc36
      obtain ⟨x28, h29, h30⟩ := K34 hlt32
      refine C_skip_to (fun _ _ => rfl) ?_
      refine C_seq ?_
      obtain ⟨s38, ho37, h29⟩ := Option.bind_eq_some_iff.1 h29
      refine C_cutG (ι := (Nat → Prop)) (fun (A43 : (Nat → Prop)) => [(1, v_cals), (2, .int .i64 m), (7, .int .i64 s38), (14, v12), (15, .int .i64 (c.pieces.length : Int)), (16, .int .i64 (k18 : Int))]) (fun (A43 : (Nat → Prop)) => fun w' => Hp w.heap.size A43 w' ([]) ∧ Tr Dw w.heap.size A26 w25 A43 w') ?_ ?_
      · have hr39 : Tr Dw w.heap.size A26 w25 A26 w25 := Tr.refl (Dw := Dw) hA
        refine C_block ?_
        refine C_seq ?_
        refine C_region ?_
        obtain ⟨x45, hx45, ho37⟩ := Option.bind_eq_some_iff.1 ho37
        refine V_indexAddr h14 hx45 Tryz.underlying37 Tryz.sizeOf70 rfl rfl rfl ?_
        intro b46 o47 h48
        obtain ⟨h49, _⟩ := El_level_Piece h48
        refine V_y (Y_loadA h49 Tryz.isAgg70 Tryz.sizeOf70 rfl) rfl rfl rfl ?_
        refine V_alloc Tryz.zeroValue70 rfl ?_
        intro b50 w51 h52
        refine V_storeNew h52 Tryz.sizeOf70 rfl rfl rfl rfl (by exact (List.forall_mem_cons.2 ⟨rfl, (List.forall_mem_cons.2 ⟨rfl, (List.forall_mem_cons.2 ⟨rfl, (fun _ h => nomatch h)⟩)⟩)⟩)) ?_
        intro w53 h54
        have hk56 := h54.kp (Dw := Dw)
        have h55 : El (α := level_Piece) A26 w53 b50 0 x45 := h54.el hA ⟨[.int .i64 x45.from_], _, rfl, rfl, ⟨[.int .i64 x45.to_], _, rfl, rfl, rfl⟩⟩
        have ht57 := Kp.tr hk56 hA hB
        replace hH := Hp.kp hH hk56
        replace h_cals := Sl.tr h_cals ht57
        replace h14 := Sl.tr h14 ht57
        replace h48 := El.tr h48 ht57
        replace hK := Tr.trans hK ht57
        replace hr17 := Tr.trans hr17 ht57
        replace hr39 := Tr.trans hr39 ht57
        replace hB := Nat.le_trans hB ht57.ex.size
        replace hA := ht57.new
        refine V_to (fun _ _ => rfl) ?_
        refine C_seq ?_
        refine C_region ?_
        refine V_mv rfl rfl ?_
        refine V_as rfl rfl ?_
        refine V_to (fun _ _ => rfl) ?_
        refine C_seq ?_
        refine C_seq ?_
        refine C_region ?_
        have h58 := El_level_Piece_1 h55
        refine V_y (Y_fieldAddr Tryz.underlying70 rfl Tryz.sizeOf3 (by decide) rfl) rfl rfl rfl ?_
        refine V_y (Y_load (El.int h58) Tryz.isAgg3 rfl) rfl rfl rfl ?_
        refine V_y (Y_neq rfl rfl) rfl rfl rfl ?_
        refine V_to (fun _ _ => rfl) ?_
        obtain ⟨s60, ho59, ho37⟩ := Option.bind_eq_some_iff.1 ho37
        refine C_cutG (ι := Unit) (fun (_ : Unit) => [(1, v_cals), (2, .int .i64 m), (7, .int .i64 s24), (9, .pointer (some ⟨b50, 0, none⟩)), (10, .int .i64 s60), (14, v12), (15, .int .i64 (c.pieces.length : Int)), (16, .int .i64 (k18 : Int))]) (fun (_ : Unit) => fun w' => w53 = w') ?_ ?_
        · refine C_cond rfl (fun hc65 => ?_) (fun hc65 => ?_)
          · rw [if_pos hc65] at ho59
            refine C_region ?_
            refine V_mv rfl rfl ?_
            have h66 := El_level_Piece_1 h55
            refine V_y (Y_fieldAddr Tryz.underlying70 rfl Tryz.sizeOf3 (by decide) rfl) rfl rfl rfl ?_
            refine V_y (Y_load (El.int h66) Tryz.isAgg3 rfl) rfl rfl rfl ?_
            refine V_y (Y_min2 rfl rfl) rfl rfl rfl ?_
            refine V_as rfl rfl ?_
            obtain rfl := Option.some.inj ho59
            refine V_end (fun a ha67 => ?_)
            exact ⟨(), ha67.sub ⟨rfl, rfl, rfl, rfl, rfl, rfl, rfl, rfl, trivial⟩, rfl⟩
          · rw [if_neg (nt hc65)] at ho59
            obtain rfl := Option.some.inj ho59
            refine C_skip (fun a ha68 => ?_)
            exact ⟨(), ha68.sub ⟨rfl, rfl, rfl, rfl, rfl, rfl, rfl, rfl, trivial⟩, rfl⟩
        rintro _ _ rfl a ha64
        refine C_at (n := ⟨49, [], none⟩) (fun _ _ => rfl) ?_ ha64
        refine C_seq ?_
        refine C_region ?_
        have h69 := El_level_Piece_0 h55
        refine V_y (Y_fieldAddr Tryz.underlying70 rfl Tryz.sizeOf3 (by decide) rfl) rfl rfl rfl ?_
        refine V_y (Y_load (El.int h69) Tryz.isAgg3 rfl) rfl rfl rfl ?_
        refine V_mv rfl rfl ?_
        refine V_y (Y_lss rfl rfl) rfl rfl rfl ?_
        refine V_to (fun _ _ => rfl) ?_
        obtain ⟨s71, ho70, ho37⟩ := Option.bind_eq_some_iff.1 ho37
        refine C_cutG (ι := (Nat → Prop)) (fun (A76 : (Nat → Prop)) => [(1, v_cals), (2, .int .i64 m), (7, .int .i64 s71), (14, v12), (15, .int .i64 (c.pieces.length : Int)), (16, .int .i64 (k18 : Int))]) (fun (A76 : (Nat → Prop)) => fun w' => Hp w.heap.size A76 w' ([]) ∧ Tr Dw w.heap.size A26 w53 A76 w') ?_ ?_
        · have hr72 : Tr Dw w.heap.size A26 w53 A26 w53 := Tr.refl (Dw := Dw) hA
          refine C_cond rfl (fun hc78 => ?_) (fun hc78 => ?_)
          · rw [if_pos hc78] at ho70
            refine C_seq ?_
            refine C_region_q (Dw := Dw) Tryz_mixed (by kernel_rfl) ?_
            refine VQ_y (fun w' hw' => Y_move rfl) rfl rfl rfl ?_
            have h79 := El_level_Piece_2 h55
            refine VQ_y (fun w' hw' => Y_fieldAddr Tryz.underlying70 rfl Tryz.sizeOf3 (by decide) rfl) rfl rfl rfl ?_
            refine VQ_y (fun w' hw' => Y_load (El.int (El.kp (Dw := Dw) h79 hw')) Tryz.isAgg3 rfl) rfl rfl rfl ?_
            obtain ⟨x80, hx80, ho70⟩ := Option.bind_eq_some_iff.1 ho70
            refine VQ_indexAddr h_cals hx80 Tryz.underlying23 Tryz.sizeOf66 rfl rfl rfl ?_
            intro b81 o82 h83
            obtain ⟨v84, v86, v88, h90, h85, h87, h89⟩ := El_cal_Calendar h83
            refine VQ_y (fun w' hw' => Y_loadA (At.kp (Dw := Dw) h90 hw' h83.2.1) Tryz.isAgg66 Tryz.sizeOf66 rfl) rfl rfl rfl ?_
            have h91 := El_level_Piece_0 h55
            refine VQ_y (fun w' hw' => Y_fieldAddr Tryz.underlying70 rfl Tryz.sizeOf3 (by decide) rfl) rfl rfl rfl ?_
            refine VQ_y (fun w' hw' => Y_load (El.int (El.kp (Dw := Dw) h91 hw')) Tryz.isAgg3 rfl) rfl rfl rfl ?_
            refine VQ_y (fun w' hw' => Y_move rfl) rfl rfl rfl ?_
            obtain ⟨x92, hx92, ho70⟩ := Option.bind_eq_some_iff.1 ho70
            refine VQ_call (.tuple #[.int .i64 x92.1, .int .i64 x92.2]) Tryz.call38 rfl rfl rfl rfl (fun w' hw' => (cal_Worked_c (Dw := Dw) w' (fun b hb => hA b (Nat.le_trans hw'.size hb)) x80 v84 (Sl.kp (Dw := Dw) h85 hw') v86 (Sl.kp (Dw := Dw) h87 hw') v88 (Sl.kp (Dw := Dw) h89 hw') x45.from_ s60 hx92).mono (fun _ _ h => ⟨h.1, Kp.trans (Dw := Dw) hw' h.2⟩)) ?_
            refine VQ_y (fun w' hw' => Y_move rfl) rfl rfl rfl ?_
            refine VQ_y (fun w' hw' => Y_extract rfl rfl) rfl rfl rfl ?_
            refine VQ_y (fun w' hw' => Y_extract rfl rfl) rfl rfl rfl ?_
            refine VQ_y (fun w' hw' => Y_assign rfl) rfl rfl rfl ?_
            refine VQ_y (fun w' hw' => Y_assign rfl) rfl rfl rfl ?_
            refine VQ_to (fun _ _ => rfl) (fun w93 hk94 => ?_)
            have ht95 := Kp.tr hk94 hA hB
            replace hH := Hp.kp hH hk94
            replace h_cals := Sl.tr h_cals ht95
            replace h14 := Sl.tr h14 ht95
            replace hK := Tr.trans hK ht95
            replace hr17 := Tr.trans hr17 ht95
            replace hr39 := Tr.trans hr39 ht95
            replace hr72 := Tr.trans hr72 ht95
            replace hB := Nat.le_trans hB ht95.ex.size
            replace hA := ht95.new
            refine C_region ?_
            refine V_mv rfl rfl ?_
            refine V_mv rfl rfl ?_
            refine V_y (Y_addI rfl rfl) rfl rfl rfl ?_
            refine V_as rfl rfl ?_
            obtain rfl := Option.some.inj ho70
            refine V_end (fun a ha96 => ?_)
            exact ⟨A26, ha96.sub ⟨rfl, rfl, rfl, rfl, rfl, rfl, trivial⟩, ⟨hH, hr72⟩⟩
          · rw [if_neg (nt hc78)] at ho70
            obtain rfl := Option.some.inj ho70
            refine C_skip (fun a ha97 => ?_)
            exact ⟨A26, ha97.sub ⟨rfl, rfl, rfl, rfl, rfl, rfl, trivial⟩, ⟨hH, hr72⟩⟩
        rintro A76 w73 ⟨hH77, hk74⟩ a ha75
        replace h_cals := Sl.tr h_cals hk74
        replace h14 := Sl.tr h14 hk74
        replace hK := Tr.trans hK hk74
        replace hr17 := Tr.trans hr17 hk74
        replace hr39 := Tr.trans hr39 hk74
        replace hB := Nat.le_trans hB hk74.ex.size
        replace hA := hk74.new
        replace hH : Hp w.heap.size A76 w73 ([]) := hH77
        obtain rfl := Option.some.inj ho37
        exact ⟨A76, ha75.sub ⟨rfl, rfl, rfl, rfl, rfl, rfl, trivial⟩, ⟨hH, hr39⟩⟩
      rintro A43 w40 ⟨hH44, hk41⟩ a ha42
      replace h_cals := Sl.tr h_cals hk41
      replace h14 := Sl.tr h14 hk41
      replace hK := Tr.trans hK hk41
      replace hr17 := Tr.trans hr17 hk41
      replace hB := Nat.le_trans hB hk41.ex.size
      replace hA := hk41.new
      replace hH : Hp w.heap.size A43 w40 ([]) := hH44
      refine C_at (n := ⟨49, [], none⟩) (fun _ _ => rfl) ?_ ha42
      refine C_region ?_
      refine V_y (Y_addI rfl rfl) rfl rfl rfl ?_
      refine V_mv rfl rfl ?_
      obtain rfl := Option.some.inj h29
      refine V_end (fun a ha99 => ?_)
      exact ⟨s38, hlt32, h30, ⟨A43, ha99.sub ⟨rfl, rfl, rfl, rfl, rfl, (congrArg (fun z => some (Value.int .i64 z)) (w64_succ hlt32 hn35)), trivial⟩, ⟨hH, hr17⟩⟩⟩
    · refine C_exit (fun a ha100 => ?_)
      exact ⟨(s24, A26), ha100.sub ⟨rfl, trivial⟩, ⟨(h33 (eq_of_dec hle31 hc36)).symm, hH, hr17⟩⟩
  rintro ⟨s16, A22⟩ w19 ⟨rfl, hH23, hk20⟩ a ha21
  rw [Lp.andThen_fin] at hm
  replace hK := Tr.trans hK hk20
  replace hB := Nat.le_trans hB hk20.ex.size
  replace hA := hk20.new
  replace hH : Hp w.heap.size A22 w19 ([]) := hH23
  refine C_at (n := ⟨49, [], none⟩) (fun _ _ => rfl) ?_ ha21
  refine C_seq ?_
  refine C_region ?_
  refine V_mv rfl rfl ?_
  refine V_as rfl rfl ?_
  refine V_to (fun _ _ => rfl) ?_
  obtain rfl := Option.some.inj hm
  refine C_ret ?_
  try simp only [↓inBlock_ret, ↓then_ret]
  exact retQ rfl (Res.one Tryz.results19 rfl) ⟨rfl, hK.kp⟩

set_option maxRecDepth 4000 in
set_option maxHeartbeats 4000000 in
theorem level_inPiece_1_c (w : World) {A : Nat → Prop} (hA : ∀ b, w.heap.size ≤ b → A b) (p : level_Piece) (p1 : Int) (b_p1 : Nat) (h_p1 : El A w b_p1 0 p1) {r : Bool} (hm : level_inPiece_1 p p1 = some r) : Ret Tryz.prog 53 #[.agg #[.int .i64 p.from_, .int .i64 p.to_, .int .i64 p.calendar], .pointer (some ⟨b_p1, 0, none⟩)] w fun v w' => v = .bool r ∧ Kp Dw w w' := by
  unfold level_inPiece_1 at hm
  refine enter Tryz.func53 rfl Tryz.ntmps53 rfl ?_
  have hA0 := hA
  have hB := Nat.le_refl w.heap.size
  have hK : Tr Dw w.heap.size A w A w := Tr.refl (Dw := Dw) hA
  have hH : Hp w.heap.size A w [] := Hp.nil
  refine C_seq ?_
  refine C_region ?_
  refine V_box rfl rfl ?_
  intro b1 w2 h3
  have hk5 := h3.kp (Dw := Dw)
  have h4 : El (α := level_Piece) A w2 b1 0 p := h3.el hA ⟨[.int .i64 p.from_], _, rfl, rfl, ⟨[.int .i64 p.to_], _, rfl, rfl, rfl⟩⟩
  have ht6 := Kp.tr hk5 hA hB
  replace hH := Hp.kp hH hk5
  replace h_p1 := El.tr h_p1 ht6
  replace hK := Tr.trans hK ht6
  replace hB := Nat.le_trans hB ht6.ex.size
  replace hA := ht6.new
  refine V_as rfl rfl ?_
  refine V_to (fun _ _ => rfl) ?_
  refine C_seq ?_
  refine C_region ?_
  have h7 := El_level_Piece_0 h4
  refine V_y (Y_fieldAddr Tryz.underlying70 rfl Tryz.sizeOf3 (by decide) rfl) rfl rfl rfl ?_
  refine V_y (Y_load (El.int h7) Tryz.isAgg3 rfl) rfl rfl rfl ?_
  refine V_y (Y_load (El.int h_p1) Tryz.isAgg3 rfl) rfl rfl rfl ?_
  refine V_y (Y_leq rfl rfl) rfl rfl rfl ?_
  refine V_mv rfl rfl ?_
  refine V_cut 10 (fun _ : Unit => [(18, .bool ((decide (p.from_ ≤ p1)) && ((p.to_ == (-1)) || (decide (p1 < p.to_)))))]) (fun _ w' => w2 = w') ?_ ?_
  · simp only [List.take, List.drop]
    rcases Bool.eq_false_or_eq_true (decide (p.from_ ≤ p1)) with hc8 | hc8
    · refine V_ge rfl rfl rfl hc8 ?_
      have h10 := El_level_Piece_1 h4
      refine V_y (Y_fieldAddr Tryz.underlying70 rfl Tryz.sizeOf3 (by decide) rfl) rfl rfl rfl ?_
      refine V_ge rfl rfl rfl hc8 ?_
      refine V_y (Y_load (El.int h10) Tryz.isAgg3 rfl) rfl rfl rfl ?_
      refine V_ge rfl rfl rfl hc8 ?_
      refine V_y (Y_eql rfl rfl) rfl rfl rfl ?_
      refine V_ge rfl rfl rfl hc8 ?_
      refine V_mv rfl rfl ?_
      refine V_cut 5 (fun _ : Unit => [(8, .bool (decide (p.from_ ≤ p1))), (17, .bool ((p.to_ == (-1)) || (decide (p1 < p.to_))))]) (fun _ w' => w2 = w') ?_ ?_
      · simp only [List.take, List.drop]
        rcases Bool.eq_false_or_eq_true (p.to_ == (-1)) with hc11 | hc11
        · refine V_gn rfl rfl rfl hc11 rfl rfl rfl ?_
          refine V_gn rfl rfl rfl hc11 rfl rfl rfl ?_
          refine V_gn rfl rfl rfl hc11 rfl rfl rfl ?_
          refine V_gn rfl rfl rfl hc11 rfl rfl rfl ?_
          refine V_ge rfl rfl rfl hc8 ?_
          refine V_y (Y_pick_te rfl hc11 rfl) rfl rfl rfl ?_
          exact V_end fun a ha => ⟨(), ha.sub ⟨rfl, (by rw [hc11]; rfl), trivial⟩, rfl⟩
        · refine V_ge rfl rfl rfl hc11 ?_
          refine V_y (Y_load (El.int h_p1) Tryz.isAgg3 rfl) rfl rfl rfl ?_
          refine V_ge rfl rfl rfl hc11 ?_
          have h13 := El_level_Piece_1 h4
          refine V_y (Y_fieldAddr Tryz.underlying70 rfl Tryz.sizeOf3 (by decide) rfl) rfl rfl rfl ?_
          refine V_ge rfl rfl rfl hc11 ?_
          refine V_y (Y_load (El.int h13) Tryz.isAgg3 rfl) rfl rfl rfl ?_
          refine V_ge rfl rfl rfl hc11 ?_
          refine V_y (Y_lss rfl rfl) rfl rfl rfl ?_
          refine V_ge rfl rfl rfl hc8 ?_
          refine V_y (Y_pick_fe rfl hc11 rfl) rfl rfl rfl ?_
          exact V_end fun a ha => ⟨(), ha.sub ⟨rfl, (by rw [hc11]; rfl), trivial⟩, rfl⟩
      simp only [List.take, List.drop]
      rintro _ _ rfl
      refine V_y (Y_pick_te rfl hc8 rfl) rfl rfl rfl ?_
      exact V_end fun a ha => ⟨(), ha.sub ⟨(by rw [hc8]; rfl), trivial⟩, rfl⟩
    · refine V_gn rfl rfl rfl hc8 rfl rfl rfl ?_
      refine V_gn rfl rfl rfl hc8 rfl rfl rfl ?_
      refine V_gn rfl rfl rfl hc8 rfl rfl rfl ?_
      refine V_gn rfl rfl rfl hc8 rfl rfl rfl ?_
      refine V_gu rfl rfl rfl rfl rfl ?_
      refine V_gu rfl rfl rfl rfl rfl ?_
      refine V_gu rfl rfl rfl rfl rfl ?_
      refine V_gu rfl rfl rfl rfl rfl ?_
      refine V_gn rfl rfl rfl hc8 rfl rfl rfl ?_
      refine V_y (Y_pick_fe rfl hc8 rfl) rfl rfl rfl ?_
      exact V_end fun a ha => ⟨(), ha.sub ⟨(by rw [hc8]; rfl), trivial⟩, rfl⟩
  simp only [List.take, List.drop]
  rintro _ _ rfl
  refine V_as rfl rfl ?_
  refine V_to (fun _ _ => rfl) ?_
  obtain rfl := Option.some.inj hm
  refine C_ret ?_
  try simp only [↓inBlock_ret, ↓then_ret]
  exact retQ rfl (Res.one Tryz.results53 rfl) ⟨rfl, hK.kp⟩

set_option maxRecDepth 4000 in
set_option maxHeartbeats 4000000 in
theorem level_inPiece_c (w : World) {A : Nat → Prop} (hA : ∀ b, w.heap.size ≤ b → A b) (c : level_Clock) (v_c : Value) (h_c : Sl A w v_c c.pieces) (m : Int) {r : Bool} (hm : level_inPiece c m = some r) : Ret Tryz.prog 37 #[.agg #[.int .i64 c.kind, .int .i64 c.level, .int .i64 c.minutes, .int .i64 c.start, .int .i64 c.stop, .int .i64 c.end_, v_c], .int .i64 m] w fun v w' => v = .bool r ∧ Kp Dw w w' := by
  unfold level_inPiece at hm
  refine enter Tryz.func37 rfl Tryz.ntmps37 rfl ?_
  have hA0 := hA
  have hB := Nat.le_refl w.heap.size
  have hK : Tr Dw w.heap.size A w A w := Tr.refl (Dw := Dw) hA
  have hH : Hp w.heap.size A w [] := Hp.nil
  refine C_seq ?_
  refine C_region ?_
  refine V_box rfl rfl ?_
  intro b3 w4 h5
  have hk7 := h5.kp (Dw := Dw)
  have h6 : El (α := level_Clock) A w4 b3 0 c := h5.el hA ⟨[.int .i64 c.kind], _, rfl, rfl, ⟨[.int .i64 c.level], _, rfl, rfl, ⟨[.int .i64 c.minutes], _, rfl, rfl, ⟨[.int .i64 c.start], _, rfl, rfl, ⟨[.int .i64 c.stop], _, rfl, rfl, ⟨[.int .i64 c.end_], _, rfl, rfl, ⟨_, rfl, h_c⟩⟩⟩⟩⟩⟩⟩
  have ht8 := Kp.tr hk7 hA hB
  replace hH := Hp.kp hH hk7
  replace h_c := Sl.tr h_c ht8
  replace hK := Tr.trans hK ht8
  replace hB := Nat.le_trans hB ht8.ex.size
  replace hA := ht8.new
  refine V_box rfl rfl ?_
  intro b9 w10 h11
  have hk13 := h11.kp (Dw := Dw)
  have h12 : El (α := Int) A w10 b9 0 m := h11.el hA rfl
  have ht14 := Kp.tr hk13 hA hB
  replace hH := Hp.kp hH hk13
  replace h_c := Sl.tr h_c ht14
  replace h6 := El.tr h6 ht14
  replace hK := Tr.trans hK ht14
  replace hB := Nat.le_trans hB ht14.ex.size
  replace hA := ht14.new
  refine V_as rfl rfl ?_
  refine V_to (fun _ _ => rfl) ?_
  refine C_seq ?_
  refine C_region ?_
  have h15 := El_level_Clock_6 h6
  refine V_y (Y_fieldAddr Tryz.underlying39 rfl Tryz.sizeOf37 (by decide) rfl) rfl rfl rfl ?_
  obtain ⟨v16, h17, h18⟩ := El.list h15
  refine V_y (Y_load h17 Tryz.isAgg37 rfl) rfl rfl rfl ?_
  refine V_y (Y_makeFunc rfl rfl) rfl rfl rfl ?_
  obtain ⟨x20, hx20, hm⟩ := Option.bind_eq_some_iff.1 hm
  refine V_call Tryz.call32 rfl rfl rfl rfl (slices_ContainsFunc_Llevel_Piece_level_Piece_c (Dw := Dw) w10 hA c.pieces v16 h18 (fun y28 => level_inPiece_1 y28 m) 53 #[] #[.pointer (some ⟨b9, 0, none⟩)] Tryz.call53 (fun w24 A25 ht26 h27 y21 r22 h23 => (level_inPiece_1_c (Dw := Dw) w24 h27 y21 m b9 (El.tr h12 ht26) h23).mono (fun _ _ h => ⟨h.1, h.2⟩)) hx20) ?_
  rintro _ w29 ⟨rfl, hk30⟩
  have ht31 := Kp.tr hk30 hA hB
  replace hH := Hp.kp hH hk30
  replace h6 := El.tr h6 ht31
  replace h12 := El.tr h12 ht31
  replace h15 := El.tr h15 ht31
  replace h18 := Sl.tr h18 ht31
  replace hK := Tr.trans hK ht31
  replace hB := Nat.le_trans hB ht31.ex.size
  replace hA := ht31.new
  refine V_as rfl rfl ?_
  refine V_to (fun _ _ => rfl) ?_
  obtain rfl := Option.some.inj hm
  refine C_ret ?_
  try simp only [↓inBlock_ret, ↓then_ret]
  exact retQ rfl (Res.one Tryz.results37 rfl) ⟨rfl, hK.kp⟩

set_option maxRecDepth 4000 in
set_option maxHeartbeats 4000000 in
theorem level_stateAt_c (w : World) {A : Nat → Prop} (hA : ∀ b, w.heap.size ≤ b → A b) (c : level_Clock) (v_c : Value) (h_c : Sl A w v_c c.pieces) (cals : (List cal_Calendar)) (v_cals : Value) (h_cals : Sl A w v_cals cals) (m : Int) {r : Int} (hm : level_stateAt c cals m = some r) : Ret Tryz.prog 17 #[.agg #[.int .i64 c.kind, .int .i64 c.level, .int .i64 c.minutes, .int .i64 c.start, .int .i64 c.stop, .int .i64 c.end_, v_c], v_cals, .int .i64 m] w fun v w' => v = .int .i64 r ∧ Kp Dw w w' := by
  unfold level_stateAt at hm
  refine enter Tryz.func17 rfl Tryz.ntmps17 rfl ?_
  have hA0 := hA
  have hB := Nat.le_refl w.heap.size
  have hK : Tr Dw w.heap.size A w A w := Tr.refl (Dw := Dw) hA
  have hH : Hp w.heap.size A w [] := Hp.nil
  refine C_seq ?_
  refine C_region ?_
  refine V_box rfl rfl ?_
  intro b5 w6 h7
  have hk9 := h7.kp (Dw := Dw)
  have h8 : El (α := level_Clock) A w6 b5 0 c := h7.el hA ⟨[.int .i64 c.kind], _, rfl, rfl, ⟨[.int .i64 c.level], _, rfl, rfl, ⟨[.int .i64 c.minutes], _, rfl, rfl, ⟨[.int .i64 c.start], _, rfl, rfl, ⟨[.int .i64 c.stop], _, rfl, rfl, ⟨[.int .i64 c.end_], _, rfl, rfl, ⟨_, rfl, h_c⟩⟩⟩⟩⟩⟩⟩
  have ht10 := Kp.tr hk9 hA hB
  replace hH := Hp.kp hH hk9
  replace h_c := Sl.tr h_c ht10
  replace h_cals := Sl.tr h_cals ht10
  replace hK := Tr.trans hK ht10
  replace hB := Nat.le_trans hB ht10.ex.size
  replace hA := ht10.new
  refine V_as rfl rfl ?_
  refine V_to (fun _ _ => rfl) ?_
  refine C_seq ?_
  refine C_region ?_
  have h11 := El_level_Clock_5 h8
  refine V_y (Y_fieldAddr Tryz.underlying39 rfl Tryz.sizeOf3 (by decide) rfl) rfl rfl rfl ?_
  refine V_y (Y_load (El.int h11) Tryz.isAgg3 rfl) rfl rfl rfl ?_
  refine V_y (Y_neq rfl rfl) rfl rfl rfl ?_
  refine V_mv rfl rfl ?_
  refine V_cut 5 (fun _ : Unit => [(1, v_cals), (2, .int .i64 m), (3, .pointer (some ⟨b5, 0, none⟩)), (16, .bool ((c.end_ != 0) && (decide (c.stop ≤ m))))]) (fun _ w' => w6 = w') ?_ ?_
  · simp only [List.take, List.drop]
    rcases Bool.eq_false_or_eq_true (c.end_ != 0) with hc12 | hc12
    · refine V_ge rfl rfl rfl hc12 ?_
      refine V_mv rfl rfl ?_
      refine V_ge rfl rfl rfl hc12 ?_
      have h14 := El_level_Clock_4 h8
      refine V_y (Y_fieldAddr Tryz.underlying39 rfl Tryz.sizeOf3 (by decide) rfl) rfl rfl rfl ?_
      refine V_ge rfl rfl rfl hc12 ?_
      refine V_y (Y_load (El.int h14) Tryz.isAgg3 rfl) rfl rfl rfl ?_
      refine V_ge rfl rfl rfl hc12 ?_
      refine V_y (Y_geq rfl rfl) rfl rfl rfl ?_
      refine V_y (Y_pick_te rfl hc12 rfl) rfl rfl rfl ?_
      exact V_end fun a ha => ⟨(), ha.sub ⟨rfl, rfl, rfl, (by rw [hc12]; rfl), trivial⟩, rfl⟩
    · refine V_gn rfl rfl rfl hc12 rfl rfl rfl ?_
      refine V_gn rfl rfl rfl hc12 rfl rfl rfl ?_
      refine V_gn rfl rfl rfl hc12 rfl rfl rfl ?_
      refine V_gn rfl rfl rfl hc12 rfl rfl rfl ?_
      refine V_y (Y_pick_fe rfl hc12 rfl) rfl rfl rfl ?_
      exact V_end fun a ha => ⟨(), ha.sub ⟨rfl, rfl, rfl, (by rw [hc12]; rfl), trivial⟩, rfl⟩
  simp only [List.take, List.drop]
  rintro _ _ rfl
  refine V_as rfl rfl ?_
  refine V_to (fun _ _ => rfl) ?_
  refine C_seq ?_
  refine C_block ?_
  refine C_seq ?_
  refine C_region ?_
  refine V_mv rfl rfl ?_
  refine V_mv rfl rfl ?_
  refine V_cut 4 (fun _ : Unit => [(1, v_cals), (2, .int .i64 m), (3, .pointer (some ⟨b5, 0, none⟩)), (7, .bool ((c.end_ != 0) && (decide (c.stop ≤ m)))), (23, .bool (((c.end_ != 0) && (decide (c.stop ≤ m))) && (c.end_ == 2)))]) (fun _ w' => w6 = w') ?_ ?_
  · simp only [List.take, List.drop]
    rcases Bool.eq_false_or_eq_true (((c.end_ != 0) && (decide (c.stop ≤ m)))) with hc15 | hc15
    · refine V_ge rfl rfl rfl hc15 ?_
      have h17 := El_level_Clock_5 h8
      refine V_y (Y_fieldAddr Tryz.underlying39 rfl Tryz.sizeOf3 (by decide) rfl) rfl rfl rfl ?_
      refine V_ge rfl rfl rfl hc15 ?_
      refine V_y (Y_load (El.int h17) Tryz.isAgg3 rfl) rfl rfl rfl ?_
      refine V_ge rfl rfl rfl hc15 ?_
      refine V_y (Y_eql rfl rfl) rfl rfl rfl ?_
      refine V_y (Y_pick_te rfl hc15 rfl) rfl rfl rfl ?_
      exact V_end fun a ha => ⟨(), ha.sub ⟨rfl, rfl, rfl, rfl, (by rw [hc15]; rfl), trivial⟩, rfl⟩
    · refine V_gn rfl rfl rfl hc15 rfl rfl rfl ?_
      refine V_gn rfl rfl rfl hc15 rfl rfl rfl ?_
      refine V_gn rfl rfl rfl hc15 rfl rfl rfl ?_
      refine V_y (Y_pick_fe rfl hc15 rfl) rfl rfl rfl ?_
      exact V_end fun a ha => ⟨(), ha.sub ⟨rfl, rfl, rfl, rfl, (by rw [hc15]; rfl), trivial⟩, rfl⟩
  simp only [List.take, List.drop]
  rintro _ _ rfl
  refine V_as rfl rfl ?_
  refine V_to (fun _ _ => rfl) ?_
  refine C_cond rfl (fun hc18 => ?_) (fun hc18 => ?_)
  · rw [if_pos hc18] at hm
    refine C_seq ?_
    refine C_region ?_
    refine V_as rfl rfl ?_
    refine V_to (fun _ _ => rfl) ?_
    obtain rfl := Option.some.inj hm
    refine C_ret ?_
    try simp only [↓inBlock_ret, ↓then_ret]
    exact retQ rfl (Res.one Tryz.results17 rfl) ⟨rfl, hK.kp⟩
  · rw [if_neg (nt hc18)] at hm
    refine C_seq ?_
    refine C_region_q (Dw := Dw) Tryz_mixed (by kernel_rfl) ?_
    refine VQ_y (fun w' hw' => Y_move rfl) rfl rfl rfl ?_
    refine VQ_y (fun w' hw' => Y_move rfl) rfl rfl rfl ?_
    obtain ⟨s20, hs20, hm⟩ := Option.bind_eq_some_iff.1 hm
    refine VQ_cut 9 (fun _ : Unit => [(1, v_cals), (2, .int .i64 m), (3, .pointer (some ⟨b5, 0, none⟩)), (7, .bool ((c.end_ != 0) && (decide (c.stop ≤ m)))), (35, .bool s20)]) (fun _ => True) ?_ ?_
    · simp only [List.take, List.drop]
      rcases Bool.eq_false_or_eq_true (((c.end_ != 0) && (decide (c.stop ≤ m)))) with hc19 | hc19
      · rw [if_pos hc19] at hs20
        refine VQ_ge rfl rfl rfl hc19 ?_
        obtain ⟨v21, h23, h22⟩ := El_level_Clock h8
        refine VQ_y (fun w' hw' => Y_loadA (At.kp (Dw := Dw) h23 hw' h8.2.1) Tryz.isAgg39 Tryz.sizeOf39 rfl) rfl rfl rfl ?_
        refine VQ_ge rfl rfl rfl hc19 ?_
        refine VQ_y (fun w' hw' => Y_move rfl) rfl rfl rfl ?_
        refine VQ_ge rfl rfl rfl hc19 ?_
        have h24 := El_level_Clock_4 h8
        refine VQ_y (fun w' hw' => Y_fieldAddr Tryz.underlying39 rfl Tryz.sizeOf3 (by decide) rfl) rfl rfl rfl ?_
        refine VQ_ge rfl rfl rfl hc19 ?_
        refine VQ_y (fun w' hw' => Y_load (El.int (El.kp (Dw := Dw) h24 hw')) Tryz.isAgg3 rfl) rfl rfl rfl ?_
        refine VQ_ge rfl rfl rfl hc19 ?_
        obtain ⟨x25, hx25, hs20⟩ := Option.bind_eq_some_iff.1 hs20
        refine VQ_call (.int .i64 x25) Tryz.call19 rfl rfl rfl rfl (fun w' hw' => (level_elapsed_c (Dw := Dw) w' (fun b hb => hA b (Nat.le_trans hw'.size hb)) c v21 (Sl.kp (Dw := Dw) h22 hw') cals v_cals (Sl.kp (Dw := Dw) h_cals hw') c.stop hx25).mono (fun _ _ h => ⟨h.1, Kp.trans (Dw := Dw) hw' h.2⟩)) ?_
        refine VQ_ge rfl rfl rfl hc19 ?_
        have h26 := El_level_Clock_2 h8
        refine VQ_y (fun w' hw' => Y_fieldAddr Tryz.underlying39 rfl Tryz.sizeOf3 (by decide) rfl) rfl rfl rfl ?_
        refine VQ_ge rfl rfl rfl hc19 ?_
        refine VQ_y (fun w' hw' => Y_load (El.int (El.kp (Dw := Dw) h26 hw')) Tryz.isAgg3 rfl) rfl rfl rfl ?_
        refine VQ_ge rfl rfl rfl hc19 ?_
        refine VQ_y (fun w' hw' => Y_leq rfl rfl) rfl rfl rfl ?_
        refine VQ_y (fun _ _ => Y_pick_te rfl hc19 rfl) rfl rfl rfl ?_
        obtain rfl := Option.some.inj hs20
        exact VQ_end fun a ha => ⟨(), ha.sub ⟨rfl, rfl, rfl, rfl, rfl, trivial⟩, trivial⟩
      · rw [if_neg (nt hc19)] at hs20
        refine VQ_gn rfl rfl rfl hc19 rfl rfl rfl ?_
        refine VQ_gn rfl rfl rfl hc19 rfl rfl rfl ?_
        refine VQ_gn rfl rfl rfl hc19 rfl rfl rfl ?_
        refine VQ_gn rfl rfl rfl hc19 rfl rfl rfl ?_
        refine VQ_gn rfl rfl rfl hc19 rfl rfl rfl ?_
        refine VQ_gn rfl rfl rfl hc19 rfl rfl rfl ?_
        refine VQ_gn rfl rfl rfl hc19 rfl rfl rfl ?_
        refine VQ_gn rfl rfl rfl hc19 rfl rfl rfl ?_
        refine VQ_y (fun _ _ => Y_pick_fe rfl hc19 rfl) rfl rfl rfl ?_
        obtain rfl := Option.some.inj hs20
        exact VQ_end fun a ha => ⟨(), ha.sub ⟨rfl, rfl, rfl, rfl, rfl, trivial⟩, trivial⟩
    simp only [List.take, List.drop]
    rintro _ _
    refine VQ_y (fun w' hw' => Y_assign rfl) rfl rfl rfl ?_
    refine VQ_to (fun _ _ => rfl) (fun w27 hk28 => ?_)
    have ht29 := Kp.tr hk28 hA hB
    replace hH := Hp.kp hH hk28
    replace h_cals := Sl.tr h_cals ht29
    replace h8 := El.tr h8 ht29
    replace hK := Tr.trans hK ht29
    replace hB := Nat.le_trans hB ht29.ex.size
    replace hA := ht29.new
    refine C_cond rfl (fun hc30 => ?_) (fun hc30 => ?_)
    · rw [if_pos hc30] at hm
      refine C_seq ?_
      refine C_region ?_
      refine V_as rfl rfl ?_
      refine V_to (fun _ _ => rfl) ?_
      obtain rfl := Option.some.inj hm
      refine C_ret ?_
      try simp only [↓inBlock_ret, ↓then_ret]
      exact retQ rfl (Res.one Tryz.results17 rfl) ⟨rfl, hK.kp⟩
    · rw [if_neg (nt hc30)] at hm
      refine C_seq ?_
      refine C_region ?_
      refine V_mv rfl rfl ?_
      refine V_as rfl rfl ?_
      refine V_to (fun _ _ => rfl) ?_
      refine C_cond rfl (fun hc31 => ?_) (fun hc31 => ?_)
      · rw [if_pos hc31] at hm
        refine C_seq ?_
        refine C_region ?_
        refine V_as rfl rfl ?_
        refine V_to (fun _ _ => rfl) ?_
        obtain rfl := Option.some.inj hm
        refine C_ret ?_
        try simp only [↓inBlock_ret, ↓then_ret]
        exact retQ rfl (Res.one Tryz.results17 rfl) ⟨rfl, hK.kp⟩
      · rw [if_neg (nt hc31)] at hm
        refine C_seq ?_
        refine C_region_q (Dw := Dw) Tryz_mixed (by kernel_rfl) ?_
        obtain ⟨v32, h34, h33⟩ := El_level_Clock h8
        refine VQ_y (fun w' hw' => Y_loadA (At.kp (Dw := Dw) h34 hw' h8.2.1) Tryz.isAgg39 Tryz.sizeOf39 rfl) rfl rfl rfl ?_
        refine VQ_y (fun w' hw' => Y_move rfl) rfl rfl rfl ?_
        refine VQ_y (fun w' hw' => Y_move rfl) rfl rfl rfl ?_
        obtain ⟨x35, hx35, hm⟩ := Option.bind_eq_some_iff.1 hm
        refine VQ_call (.int .i64 x35) Tryz.call19 rfl rfl rfl rfl (fun w' hw' => (level_elapsed_c (Dw := Dw) w' (fun b hb => hA b (Nat.le_trans hw'.size hb)) c v32 (Sl.kp (Dw := Dw) h33 hw') cals v_cals (Sl.kp (Dw := Dw) h_cals hw') m hx35).mono (fun _ _ h => ⟨h.1, Kp.trans (Dw := Dw) hw' h.2⟩)) ?_
        have h36 := El_level_Clock_2 h8
        refine VQ_y (fun w' hw' => Y_fieldAddr Tryz.underlying39 rfl Tryz.sizeOf3 (by decide) rfl) rfl rfl rfl ?_
        refine VQ_y (fun w' hw' => Y_load (El.int (El.kp (Dw := Dw) h36 hw')) Tryz.isAgg3 rfl) rfl rfl rfl ?_
        refine VQ_y (fun w' hw' => Y_gtr rfl rfl) rfl rfl rfl ?_
        refine VQ_y (fun w' hw' => Y_assign rfl) rfl rfl rfl ?_
        refine VQ_to (fun _ _ => rfl) (fun w37 hk38 => ?_)
        have ht39 := Kp.tr hk38 hA hB
        replace hH := Hp.kp hH hk38
        replace h8 := El.tr h8 ht39
        replace hK := Tr.trans hK ht39
        replace hB := Nat.le_trans hB ht39.ex.size
        replace hA := ht39.new
        refine C_cond rfl (fun hc40 => ?_) (fun hc40 => ?_)
        · rw [if_pos hc40] at hm
          refine C_seq ?_
          refine C_region ?_
          refine V_as rfl rfl ?_
          refine V_to (fun _ _ => rfl) ?_
          obtain rfl := Option.some.inj hm
          refine C_ret ?_
          try simp only [↓inBlock_ret, ↓then_ret]
          exact retQ rfl (Res.one Tryz.results17 rfl) ⟨rfl, hK.kp⟩
        · rw [if_neg (nt hc40)] at hm
          refine C_seq ?_
          refine C_region ?_
          obtain ⟨v41, h43, h42⟩ := El_level_Clock h8
          refine V_y (Y_loadA h43 Tryz.isAgg39 Tryz.sizeOf39 rfl) rfl rfl rfl ?_
          refine V_mv rfl rfl ?_
          obtain ⟨x44, hx44, hm⟩ := Option.bind_eq_some_iff.1 hm
          refine V_call Tryz.call37 rfl rfl rfl rfl (level_inPiece_c (Dw := Dw) w37 hA c v41 h42 m hx44) ?_
          rintro _ w45 ⟨rfl, hk46⟩
          have ht47 := Kp.tr hk46 hA hB
          replace hH := Hp.kp hH hk46
          replace h8 := El.tr h8 ht47
          replace h42 := Sl.tr h42 ht47
          replace hK := Tr.trans hK ht47
          replace hB := Nat.le_trans hB ht47.ex.size
          replace hA := ht47.new
          refine V_y (Y_not rfl) rfl rfl rfl ?_
          refine V_as rfl rfl ?_
          refine V_to (fun _ _ => rfl) ?_
          refine C_cond rfl (fun hc48 => ?_) (fun hc48 => ?_)
          · rw [if_pos hc48] at hm
            refine C_seq ?_
            refine C_region ?_
            refine V_as rfl rfl ?_
            refine V_to (fun _ _ => rfl) ?_
            obtain rfl := Option.some.inj hm
            refine C_ret ?_
            try simp only [↓inBlock_ret, ↓then_ret]
            exact retQ rfl (Res.one Tryz.results17 rfl) ⟨rfl, hK.kp⟩
          · rw [if_neg (nt hc48)] at hm
            refine C_skip_to (fun _ _ => rfl) ?_
            refine C_seq ?_
            refine C_region ?_
            refine V_as rfl rfl ?_
            refine V_to (fun _ _ => rfl) ?_
            obtain rfl := Option.some.inj hm
            refine C_ret ?_
            try simp only [↓inBlock_ret, ↓then_ret]
            exact retQ rfl (Res.one Tryz.results17 rfl) ⟨rfl, hK.kp⟩

set_option maxRecDepth 4000 in
set_option maxHeartbeats 4000000 in
theorem level_Shares_c (w : World) {A : Nat → Prop} (hA : ∀ b, w.heap.size ≤ b → A b) (l : (List level_Clock)) (v_l : Value) (h_l : Sl A w v_l l) (cals : (List cal_Calendar)) (v_cals : Value) (h_cals : Sl A w v_cals cals) (m : Int) {r : ((List level_Share) × Int)} (hm : level_Shares l cals m = some r) : Ret Tryz.prog 4 #[v_l, v_cals, .int .i64 m] w fun v w' => ∃ s0, v = .tuple #[s0, .int .i64 r.2] ∧ Ownd 32 w w' s0 r.1 ∧ Kp Dw w w' := by
  unfold level_Shares at hm
  refine enter Tryz.func4 rfl Tryz.ntmps4 rfl ?_
  have hA0 := hA
  have hB := Nat.le_refl w.heap.size
  have hK : Tr Dw w.heap.size A w A w := Tr.refl (Dw := Dw) hA
  have hH : Hp w.heap.size A w [] := Hp.nil
  refine C_seq ?_
  refine C_region ?_
  refine V_as rfl rfl ?_
  refine V_as rfl rfl ?_
  refine V_to (fun _ _ => rfl) ?_
  refine C_seq ?_
  refine C_seq ?_
  refine C_region ?_
  refine V_mv rfl rfl ?_
  refine V_mv rfl rfl ?_
  obtain ⟨x5, hx5, hm⟩ := Option.bind_eq_some_iff.1 hm
  refine V_call Tryz.call10 rfl rfl rfl rfl (level_check_c (Dw := Dw) w hA l v_l h_l cals v_cals h_cals hx5) ?_
  rintro _ w6 ⟨rfl, hk7⟩
  have ht8 := Kp.tr hk7 hA hB
  replace hH := Hp.kp hH hk7
  replace h_l := Sl.tr h_l ht8
  replace h_cals := Sl.tr h_cals ht8
  replace hK := Tr.trans hK ht8
  replace hB := Nat.le_trans hB ht8.ex.size
  replace hA := ht8.new
  refine V_mv rfl rfl ?_
  refine V_call Tryz.call11 rfl rfl rfl rfl (level_moment_c w6 m 0) ?_
  rintro _ _ ⟨rfl, rfl⟩
  refine V_buildSlice (Dw := Dw) (cells := #[.int .i64 x5, .int .i64 (level_moment m 0)]) (l := ([x5, (level_moment m 0)] : List Int)) (len := 2) Tryz.underlying58 Tryz.sizeOf25 Tryz.zeroValue25 rfl (by generalize ((level_moment m 0) : Int) = z13; kernel_rfl) (show (2 * 1 : Nat) ≠ 0 by decide) (show (2 * 1 : Nat) ≤ 2 ^ 24 by decide) hA ⟨[.int .i64 x5], _, rfl, rfl, ⟨[.int .i64 (level_moment m 0)], _, rfl, rfl, rfl⟩⟩ rfl rfl ?_
  intro v9 w10 hk12 h11
  have ht14 := Kp.tr hk12 hA hB
  replace hH := Hp.kp hH hk12
  replace h_l := Sl.tr h_l ht14
  replace h_cals := Sl.tr h_cals ht14
  replace hK := Tr.trans hK ht14
  replace hB := Nat.le_trans hB ht14.ex.size
  replace hA := ht14.new
  obtain ⟨x15, hx15, hm⟩ := Option.bind_eq_some_iff.1 hm
  refine V_call Tryz.call9 rfl rfl rfl rfl (cmp_Or_api_Errno_c w10 ([x5, (level_moment m 0)] : List Int) v9 h11 hx15) ?_
  rintro _ _ ⟨rfl, rfl⟩
  refine V_as rfl rfl ?_
  refine V_to (fun _ _ => rfl) ?_
  refine C_seq ?_
  refine C_region ?_
  refine V_mv rfl rfl ?_
  refine V_y (Y_neq rfl rfl) rfl rfl rfl ?_
  refine V_to (fun _ _ => rfl) ?_
  refine C_cond rfl (fun hc16 => ?_) (fun hc16 => ?_)
  · rw [if_pos hc16] at hm
    refine C_seq ?_
    refine C_region ?_
    refine V_mv rfl rfl ?_
    refine V_as rfl rfl ?_
    refine V_as rfl rfl ?_
    refine V_to (fun _ _ => rfl) ?_
    obtain rfl := Option.some.inj hm
    replace hH : Hp w.heap.size A w10 (obS (α := level_Share) 32 (.slice none 0 0) ([] : (List level_Share)) :: []) := Hp.addNil (α := level_Share) (e := 32) hH
    refine C_ret ?_
    try simp only [↓inBlock_ret, ↓then_ret]
    exact retQ rfl (Res.two Tryz.results4 rfl rfl) ⟨.slice none 0 0, rfl, (Hp.ownd hH (i := 0) rfl), hK.kp⟩
  · rw [if_neg (nt hc16)] at hm
    refine C_skip_to (fun _ _ => rfl) ?_
    refine C_seq ?_
    refine C_region ?_
    refine V_as rfl rfl ?_
    refine V_to (fun _ _ => rfl) ?_
    refine C_seq ?_
    refine C_seq ?_
    refine C_region ?_
    refine V_mv rfl rfl ?_
    refine V_y (Y_lenSl h_l rfl Tryz.underlying22 rfl) rfl rfl rfl ?_
    refine V_mv rfl rfl ?_
    refine V_to (fun _ _ => rfl) ?_
    replace hH : Hp w.heap.size A w10 (obS (α := level_Share) 32 (.slice none 0 0) ([] : (List level_Share)) :: []) := Hp.addNil (α := level_Share) (e := 32) hH
    have hn41 := Sl.le h_l
    obtain ⟨o17, ho17, hm⟩ := Option.bind_eq_some_iff.1 hm
    refine C_cutG (ι := ((List level_Share) × Value × (Nat → Prop))) (fun ⟨s18, v24, A26⟩ => [(9, v24)]) (fun ⟨s18, v24, A26⟩ => fun w' => o17 = .fin s18 ∧ Hp w.heap.size A26 w' (obS (α := level_Share) 32 v24 s18 :: []) ∧ Tr Dw w.heap.size A w10 A26 w') ?_ ?_
    · refine C_block ?_
      refine C_range ho17 (fun k20 s28 a w' => ∃ i : (Value × (Nat → Prop)), Has ⟨95, [], none⟩ a ([(1, v_cals), (2, .int .i64 m), (9, i.1), (24, v_l), (25, .int .i64 (l.length : Int)), (26, .int .i64 (k20 : Int))]) ∧ Hp w.heap.size i.2 w' (obS (α := level_Share) 32 i.1 s28 :: []) ∧ Tr Dw w.heap.size A w10 i.2 w') (fun a ha => ⟨(.slice none 0 0, A), ha.sub ⟨rfl, rfl, rfl, rfl, rfl, rfl, trivial⟩, ⟨hH, Tr.refl (Dw := Dw) hA⟩⟩) ?_
      rintro K k20 s28 a w29 ⟨⟨v30, A32⟩, ha243, hH33, hr19⟩ hle37 K40 h39
      refine C_of ?_ ha243
      replace h_cals := Sl.tr h_cals hr19
      replace h_l := Sl.tr h_l hr19
      replace hK := Tr.trans hK hr19
      replace hB := Nat.le_trans hB hr19.ex.size
      replace hA := hr19.new
      replace hH : Hp w.heap.size A32 w29 (obS (α := level_Share) 32 v30 s28 :: []) := hH33
      refine C_seq (C_region (V_y (Y_lss rfl rfl) rfl rfl rfl (V_to (fun _ _ => rfl) ?_)))
      refine C_seq ?_
      refine C_cond rfl (fun hc42 => ?_) (fun hc42 => ?_)
      · have hlt38 := lt_of_dec hc42
        obtain ⟨x34, h35, h36⟩ := K40 hlt38
        refine C_skip_to (fun _ _ => rfl) ?_
        refine C_seq ?_
        obtain ⟨s44, ho43, h35⟩ := Option.bind_eq_some_iff.1 h35
        refine C_cutG (ι := (Value × (Nat → Prop))) (fun ⟨v46, A51⟩ => [(1, v_cals), (2, .int .i64 m), (9, v46), (24, v_l), (25, .int .i64 (l.length : Int)), (26, .int .i64 (k20 : Int))]) (fun ⟨v46, A51⟩ => fun w' => Hp w.heap.size A51 w' (obS (α := level_Share) 32 v46 s44 :: []) ∧ Tr Dw w.heap.size A32 w29 A51 w') ?_ ?_
        · have hr45 : Tr Dw w.heap.size A32 w29 A32 w29 := Tr.refl (Dw := Dw) hA
          refine C_block ?_
          refine C_seq ?_
          refine C_region ?_
          obtain ⟨x53, hx53, ho43⟩ := Option.bind_eq_some_iff.1 ho43
          refine V_indexAddr h_l hx53 Tryz.underlying22 Tryz.sizeOf39 rfl rfl rfl ?_
          intro b54 o55 h56
          obtain ⟨v57, h59, h58⟩ := El_level_Clock h56
          refine V_y (Y_loadA h59 Tryz.isAgg39 Tryz.sizeOf39 rfl) rfl rfl rfl ?_
          refine V_alloc Tryz.zeroValue39 rfl ?_
          intro b60 w61 h62
          have h67 : (v57).oneCell' = true := by obtain ⟨_, _, e, _⟩ := Sl.form h58; rw [e]; rfl
          refine V_storeNew h62 Tryz.sizeOf39 rfl rfl rfl rfl (by exact (List.forall_mem_cons.2 ⟨rfl, (List.forall_mem_cons.2 ⟨rfl, (List.forall_mem_cons.2 ⟨rfl, (List.forall_mem_cons.2 ⟨rfl, (List.forall_mem_cons.2 ⟨rfl, (List.forall_mem_cons.2 ⟨rfl, (List.forall_mem_cons.2 ⟨h67, (fun _ h => nomatch h)⟩)⟩)⟩)⟩)⟩)⟩)⟩)) ?_
          intro w63 h64
          have hk69 := h64.kp (Dw := Dw)
          have h68 : El (α := level_Clock) A32 w63 b60 0 x53 := h64.el hA ⟨[.int .i64 x53.kind], _, rfl, rfl, ⟨[.int .i64 x53.level], _, rfl, rfl, ⟨[.int .i64 x53.minutes], _, rfl, rfl, ⟨[.int .i64 x53.start], _, rfl, rfl, ⟨[.int .i64 x53.stop], _, rfl, rfl, ⟨[.int .i64 x53.end_], _, rfl, rfl, ⟨_, rfl, h58⟩⟩⟩⟩⟩⟩⟩
          have ht70 := Kp.tr hk69 hA hB
          replace hH := Hp.kp hH hk69
          replace h_cals := Sl.tr h_cals ht70
          replace h_l := Sl.tr h_l ht70
          replace h56 := El.tr h56 ht70
          replace h58 := Sl.tr h58 ht70
          replace hK := Tr.trans hK ht70
          replace hr19 := Tr.trans hr19 ht70
          replace hr45 := Tr.trans hr45 ht70
          replace hB := Nat.le_trans hB ht70.ex.size
          replace hA := ht70.new
          refine V_to (fun _ _ => rfl) ?_
          refine C_seq ?_
          refine C_seq ?_
          refine C_region ?_
          have h71 := El_level_Clock_3 h68
          refine V_y (Y_fieldAddr Tryz.underlying39 rfl Tryz.sizeOf3 (by decide) rfl) rfl rfl rfl ?_
          refine V_y (Y_load (El.int h71) Tryz.isAgg3 rfl) rfl rfl rfl ?_
          refine V_mv rfl rfl ?_
          refine V_y (Y_gtr rfl rfl) rfl rfl rfl ?_
          refine V_to (fun _ _ => rfl) ?_
          refine C_cond rfl (fun hc72 => ?_) (fun hc72 => ?_)
          · rw [if_pos hc72] at ho43
            obtain rfl := Option.some.inj ho43
            refine C_exit (fun a ha73 => ?_)
            exact ⟨(v30, A32), ha73.sub ⟨rfl, rfl, rfl, rfl, rfl, rfl, trivial⟩, ⟨hH, hr45⟩⟩
          · rw [if_neg (nt hc72)] at ho43
            refine C_skip_to (fun _ _ => rfl) ?_
            refine C_seq ?_
            refine C_region ?_
            refine V_mv rfl rfl ?_
            obtain ⟨v74, h76, h75⟩ := El_level_Clock h68
            refine V_y (Y_loadA h76 Tryz.isAgg39 Tryz.sizeOf39 rfl) rfl rfl rfl ?_
            obtain ⟨x79, hx79, ho43⟩ := Option.bind_eq_some_iff.1 ho43
            refine V_call Tryz.call12 rfl rfl rfl rfl (slices_BinarySearchFunc_Llevel_Share_level_Share_level_Clock_c (Dw := Dw) w63 (A := fun _ => True) (fun _ _ => trivial) s28 v30 (Hp.any (α := level_Share) (e := 32) (v := v30) (l := s28) hH (i := 0) rfl) x53 v74 (Sl.any h75) (fun y90 y91 => level_Shares_1 y90 y91) 13 #[] #[] Tryz.call13 (fun w86 A87 ht88 h89 y80 y81 v82 h83 r84 h85 => (level_Shares_1_c (Dw := Dw) w86 h89 y80 y81 v82 h83  h85).mono (fun _ _ h => ⟨h.1, h.2⟩)) hx79) ?_
            rintro _ w92 ⟨rfl, hk93⟩
            have ht94 := Kp.tr hk93 hA hB
            replace hH := Hp.kp hH hk93
            replace h_cals := Sl.tr h_cals ht94
            replace h_l := Sl.tr h_l ht94
            replace h68 := El.tr h68 ht94
            replace h75 := Sl.tr h75 ht94
            replace hK := Tr.trans hK ht94
            replace hr19 := Tr.trans hr19 ht94
            replace hr45 := Tr.trans hr45 ht94
            replace hB := Nat.le_trans hB ht94.ex.size
            replace hA := ht94.new
            refine V_mv rfl rfl ?_
            refine V_y (Y_extract rfl rfl) rfl rfl rfl ?_
            refine V_y (Y_extract rfl rfl) rfl rfl rfl ?_
            refine V_as rfl rfl ?_
            refine V_as rfl rfl ?_
            refine V_to (fun _ _ => rfl) ?_
            refine C_seq ?_
            refine C_seq ?_
            refine C_region ?_
            refine V_mv rfl rfl ?_
            refine V_y (Y_not rfl) rfl rfl rfl ?_
            refine V_to (fun _ _ => rfl) ?_
            obtain ⟨s96, ho95, ho43⟩ := Option.bind_eq_some_iff.1 ho43
            refine C_cutG (ι := (Value × (Nat → Prop))) (fun ⟨v98, A103⟩ => [(1, v_cals), (2, .int .i64 m), (9, v98), (11, .pointer (some ⟨b60, 0, none⟩)), (12, .int .i64 x79.1), (24, v_l), (25, .int .i64 (l.length : Int)), (26, .int .i64 (k20 : Int))]) (fun ⟨v98, A103⟩ => fun w' => Hp w.heap.size A103 w' (obS (α := level_Share) 32 v98 s96 :: []) ∧ Tr Dw w.heap.size A32 w92 A103 w') ?_ ?_
            · have hr97 : Tr Dw w.heap.size A32 w92 A32 w92 := Tr.refl (Dw := Dw) hA
              refine C_cond rfl (fun hc105 => ?_) (fun hc105 => ?_)
              · rw [if_pos hc105] at ho95
                refine C_region ?_
                refine V_mv rfl rfl ?_
                refine V_mv rfl rfl ?_
                have h106 := El_level_Clock_1 h68
                refine V_y (Y_fieldAddr Tryz.underlying39 rfl Tryz.sizeOf3 (by decide) rfl) rfl rfl rfl ?_
                refine V_y (Y_load (El.int h106) Tryz.isAgg3 rfl) rfl rfl rfl ?_
                have h107 := El_level_Clock_0 h68
                refine V_y (Y_fieldAddr Tryz.underlying39 rfl Tryz.sizeOf3 (by decide) rfl) rfl rfl rfl ?_
                refine V_y (Y_load (El.int h107) Tryz.isAgg3 rfl) rfl rfl rfl ?_
                refine V_y (Y_build Tryz.underlying32 Tryz.zeroValue32 (Tryz_places32 _ Tryz.underlying32) rfl (by with_unfolding_all rfl)) rfl rfl rfl ?_
                refine V_buildOwnH (Dw := Dw) (cells := #[.int .i64 x53.level, .int .i64 x53.kind, .int .i64 0, .int .i64 0, .int .i64 0, .int .i64 0]) (l := ([(⟨x53.level, x53.kind, 0, 0, 0, 0⟩ : level_Share)] : List level_Share)) (len := 1) hH Tryz.underlying24 Tryz.sizeOf32 Tryz.zeroValue32 rfl (by kernel_rfl) (show (1 * 6 : Nat) ≠ 0 by decide) (show (1 * 6 : Nat) ≤ 2 ^ 24 by decide) hB hA ⟨[.int .i64 x53.level, .int .i64 x53.kind, .int .i64 0, .int .i64 0, .int .i64 0, .int .i64 0], _, rfl, ⟨[.int .i64 x53.level], _, rfl, rfl, ⟨[.int .i64 x53.kind], _, rfl, rfl, ⟨[.int .i64 0], _, rfl, rfl, ⟨[.int .i64 0], _, rfl, rfl, ⟨[.int .i64 0], _, rfl, rfl, rfl⟩⟩⟩⟩⟩, rfl⟩ rfl rfl ?_
                intro v108 w109 A112 hH114 ht113
                replace h_cals := Sl.tr h_cals ht113
                replace h_l := Sl.tr h_l ht113
                replace h68 := El.tr h68 ht113
                replace h106 := El.tr h106 ht113
                replace h107 := El.tr h107 ht113
                replace hK := Tr.trans hK ht113
                replace hr19 := Tr.trans hr19 ht113
                replace hr45 := Tr.trans hr45 ht113
                replace hr97 := Tr.trans hr97 ht113
                replace hB := Nat.le_trans hB ht113.ex.size
                replace hA := ht113.new
                replace hH : Hp w.heap.size A112 w109 (obS (α := level_Share) 32 v108 ([(⟨x53.level, x53.kind, 0, 0, 0, 0⟩ : level_Share)] : List level_Share) :: obS (α := level_Share) 32 v30 s28 :: []) := hH114
                obtain ⟨x115, hx115, ho95⟩ := Option.bind_eq_some_iff.1 ho95
                refine V_call Tryz.call16 rfl rfl rfl rfl (slices_Insert_Llevel_Share_level_Share_c (Dw := Dw) w109 x79.1 hH (i := 0) rfl hB hA hx115) ?_
                rintro v116 w117 ⟨_, A118, rfl, hH119, ht120⟩
                replace h_cals := Sl.tr h_cals ht120
                replace h_l := Sl.tr h_l ht120
                replace h68 := El.tr h68 ht120
                replace h106 := El.tr h106 ht120
                replace h107 := El.tr h107 ht120
                replace hK := Tr.trans hK ht120
                replace hr19 := Tr.trans hr19 ht120
                replace hr45 := Tr.trans hr45 ht120
                replace hr97 := Tr.trans hr97 ht120
                replace hB := Nat.le_trans hB ht120.ex.size
                replace hA := ht120.new
                replace hH : Hp w.heap.size A118 w117 (obS (α := level_Share) 32 v116 x115 :: []) := hH119
                refine V_as rfl rfl ?_
                obtain rfl := Option.some.inj ho95
                refine V_end (fun a ha121 => ?_)
                exact ⟨(v116, A118), ha121.sub ⟨rfl, rfl, rfl, rfl, rfl, rfl, rfl, rfl, trivial⟩, ⟨hH, hr97⟩⟩
              · rw [if_neg (nt hc105)] at ho95
                obtain rfl := Option.some.inj ho95
                refine C_skip (fun a ha122 => ?_)
                exact ⟨(v30, A32), ha122.sub ⟨rfl, rfl, rfl, rfl, rfl, rfl, rfl, rfl, trivial⟩, ⟨hH, hr97⟩⟩
            rintro ⟨v98, A103⟩ w100 ⟨hH104, hk101⟩ a ha102
            replace h_cals := Sl.tr h_cals hk101
            replace h_l := Sl.tr h_l hk101
            replace h68 := El.tr h68 hk101
            replace hK := Tr.trans hK hk101
            replace hr19 := Tr.trans hr19 hk101
            replace hr45 := Tr.trans hr45 hk101
            replace hB := Nat.le_trans hB hk101.ex.size
            replace hA := hk101.new
            replace hH : Hp w.heap.size A103 w100 (obS (α := level_Share) 32 v98 s96 :: []) := hH104
            refine C_at (n := ⟨95, [], none⟩) (fun _ _ => rfl) ?_ ha102
            refine C_seq ?_
            refine C_region ?_
            obtain ⟨v123, h125, h124⟩ := El_level_Clock h68
            refine V_y (Y_loadA h125 Tryz.isAgg39 Tryz.sizeOf39 rfl) rfl rfl rfl ?_
            refine V_mv rfl rfl ?_
            refine V_mv rfl rfl ?_
            obtain ⟨x126, hx126, ho43⟩ := Option.bind_eq_some_iff.1 ho43
            refine V_call Tryz.call17 rfl rfl rfl rfl (level_stateAt_c (Dw := Dw) w100 hA x53 v123 h124 cals v_cals h_cals m hx126) ?_
            rintro _ w127 ⟨rfl, hk128⟩
            have ht129 := Kp.tr hk128 hA hB
            replace hH := Hp.kp hH hk128
            replace h_cals := Sl.tr h_cals ht129
            replace h_l := Sl.tr h_l ht129
            replace h68 := El.tr h68 ht129
            replace h124 := Sl.tr h124 ht129
            replace hK := Tr.trans hK ht129
            replace hr19 := Tr.trans hr19 ht129
            replace hr45 := Tr.trans hr45 ht129
            replace hB := Nat.le_trans hB ht129.ex.size
            replace hA := ht129.new
            refine V_to (fun _ _ => rfl) ?_
            obtain ⟨s131, ho130, ho43⟩ := Option.bind_eq_some_iff.1 ho43
            refine C_cutG (ι := (Value × (Nat → Prop))) (fun ⟨v133, A138⟩ => [(1, v_cals), (2, .int .i64 m), (9, v133), (24, v_l), (25, .int .i64 (l.length : Int)), (26, .int .i64 (k20 : Int))]) (fun ⟨v133, A138⟩ => fun w' => Hp w.heap.size A138 w' (obS (α := level_Share) 32 v133 s131 :: []) ∧ Tr Dw w.heap.size A103 w127 A138 w') ?_ ?_
            · have hr132 : Tr Dw w.heap.size A103 w127 A103 w127 := Tr.refl (Dw := Dw) hA
              refine C_block ?_
              refine C_seq ?_
              refine C_region ?_
              refine V_y (Y_eql rfl rfl) rfl rfl rfl ?_
              refine V_as rfl rfl ?_
              refine V_to (fun _ _ => rfl) ?_
              obtain ⟨s141, ho140, ho130⟩ := Option.bind_eq_some_iff.1 ho130
              refine C_cutG (ι := (Value × (Nat → Prop))) (fun ⟨v143, A148⟩ => [(1, v_cals), (2, .int .i64 m), (9, v143), (24, v_l), (25, .int .i64 (l.length : Int)), (26, .int .i64 (k20 : Int))]) (fun ⟨v143, A148⟩ => fun w' => Hp w.heap.size A148 w' (obS (α := level_Share) 32 v143 s141 :: []) ∧ Tr Dw w.heap.size A103 w127 A148 w') ?_ ?_
              · have hr142 : Tr Dw w.heap.size A103 w127 A103 w127 := Tr.refl (Dw := Dw) hA
                refine C_cond rfl (fun hc150 => ?_) (fun hc150 => ?_)
                · rw [if_pos hc150] at ho140
                  refine C_region ?_
                  refine V_mv rfl rfl ?_
                  refine V_mv rfl rfl ?_
                  obtain ⟨x151, hx151, ho140⟩ := Option.bind_eq_some_iff.1 ho140
                  refine V_indexAddrH (α := level_Share) (e := 32) (v := v98) (l := s96) hH (i := 0) rfl hx151 Tryz.underlying24 Tryz.sizeOf32 rfl rfl rfl ?_
                  intro b152 o153 h154 hl155
                  have h156 := El_level_Share_3 h154
                  refine V_y (Y_fieldAddr Tryz.underlying32 rfl Tryz.sizeOf3 (by decide) rfl) rfl rfl rfl ?_
                  refine V_y (Y_load (El.int h156) Tryz.isAgg3 rfl) rfl rfl rfl ?_
                  refine V_y (Y_addI rfl rfl) rfl rfl rfl ?_
                  refine V_indexAddrH (α := level_Share) (e := 32) (v := v98) (l := s96) hH (i := 0) rfl hx151 Tryz.underlying24 Tryz.sizeOf32 rfl rfl rfl ?_
                  intro b157 o158 h159 hl160
                  have h161 := El_level_Share_3 h159
                  refine V_y (Y_fieldAddr Tryz.underlying32 rfl Tryz.sizeOf3 (by decide) rfl) rfl rfl rfl ?_
                  obtain ⟨x162, hx162, ho140⟩ := Option.bind_eq_some_iff.1 ho140
                  refine V_storeFH (Dw := Dw) (α := level_Share) (e := 32) (v := v98) (l := s96) (foff := 3) hH (i := 0) rfl hl160 hx151 hx162 (fun _ h => by obtain ⟨_, _, rfl, rfl, ⟨_, _, rfl, rfl, ⟨_, _, rfl, rfl, ⟨_, _, rfl, rfl, ⟨_, _, rfl, rfl, rfl⟩⟩⟩⟩⟩ := h; exact ⟨[_], _, rfl, rfl, ⟨[_], _, rfl, rfl, ⟨[_], _, rfl, rfl, ⟨[_], _, rfl, rfl, ⟨[_], _, rfl, rfl, rfl⟩⟩⟩⟩⟩) Tryz.sizeOf3 rfl (by simp [Value.cells, Value.oneCell']) (by decide) hB hA (congrArg (fun z => some (Value.pointer (some ⟨_, z, none⟩))) (by simp [Nat.add_assoc])) rfl ?_
                  intro w163 hH164 ht165
                  replace h_cals := Sl.tr h_cals ht165
                  replace h_l := Sl.tr h_l ht165
                  replace hK := Tr.trans hK ht165
                  replace hr19 := Tr.trans hr19 ht165
                  replace hr45 := Tr.trans hr45 ht165
                  replace hr132 := Tr.trans hr132 ht165
                  replace hr142 := Tr.trans hr142 ht165
                  replace hB := Nat.le_trans hB ht165.ex.size
                  replace hA := ht165.new
                  replace hH : Hp w.heap.size A103 w163 (obS (α := level_Share) 32 v98 x162 :: []) := hH164
                  obtain rfl := Option.some.inj ho140
                  refine V_end (fun a ha166 => ?_)
                  exact ⟨(v98, A103), ha166.sub ⟨rfl, rfl, rfl, rfl, rfl, rfl, trivial⟩, ⟨hH, hr142⟩⟩
                · rw [if_neg (nt hc150)] at ho140
                  refine C_seq ?_
                  refine C_region ?_
                  refine V_y (Y_eql rfl rfl) rfl rfl rfl ?_
                  refine V_as rfl rfl ?_
                  refine V_to (fun _ _ => rfl) ?_
                  obtain ⟨s168, ho167, ho140⟩ := Option.bind_eq_some_iff.1 ho140
                  refine C_cutG (ι := (Value × (Nat → Prop))) (fun ⟨v170, A175⟩ => [(1, v_cals), (2, .int .i64 m), (9, v170), (24, v_l), (25, .int .i64 (l.length : Int)), (26, .int .i64 (k20 : Int))]) (fun ⟨v170, A175⟩ => fun w' => Hp w.heap.size A175 w' (obS (α := level_Share) 32 v170 s168 :: []) ∧ Tr Dw w.heap.size A103 w127 A175 w') ?_ ?_
                  · have hr169 : Tr Dw w.heap.size A103 w127 A103 w127 := Tr.refl (Dw := Dw) hA
                    refine C_cond rfl (fun hc177 => ?_) (fun hc177 => ?_)
                    · rw [if_pos hc177] at ho167
                      refine C_region ?_
                      refine V_mv rfl rfl ?_
                      refine V_mv rfl rfl ?_
                      obtain ⟨x178, hx178, ho167⟩ := Option.bind_eq_some_iff.1 ho167
                      refine V_indexAddrH (α := level_Share) (e := 32) (v := v98) (l := s96) hH (i := 0) rfl hx178 Tryz.underlying24 Tryz.sizeOf32 rfl rfl rfl ?_
                      intro b179 o180 h181 hl182
                      have h183 := El_level_Share_4 h181
                      refine V_y (Y_fieldAddr Tryz.underlying32 rfl Tryz.sizeOf3 (by decide) rfl) rfl rfl rfl ?_
                      refine V_y (Y_load (El.int h183) Tryz.isAgg3 rfl) rfl rfl rfl ?_
                      refine V_y (Y_addI rfl rfl) rfl rfl rfl ?_
                      refine V_indexAddrH (α := level_Share) (e := 32) (v := v98) (l := s96) hH (i := 0) rfl hx178 Tryz.underlying24 Tryz.sizeOf32 rfl rfl rfl ?_
                      intro b184 o185 h186 hl187
                      have h188 := El_level_Share_4 h186
                      refine V_y (Y_fieldAddr Tryz.underlying32 rfl Tryz.sizeOf3 (by decide) rfl) rfl rfl rfl ?_
                      obtain ⟨x189, hx189, ho167⟩ := Option.bind_eq_some_iff.1 ho167
                      refine V_storeFH (Dw := Dw) (α := level_Share) (e := 32) (v := v98) (l := s96) (foff := 4) hH (i := 0) rfl hl187 hx178 hx189 (fun _ h => by obtain ⟨_, _, rfl, rfl, ⟨_, _, rfl, rfl, ⟨_, _, rfl, rfl, ⟨_, _, rfl, rfl, ⟨_, _, rfl, rfl, rfl⟩⟩⟩⟩⟩ := h; exact ⟨[_], _, rfl, rfl, ⟨[_], _, rfl, rfl, ⟨[_], _, rfl, rfl, ⟨[_], _, rfl, rfl, ⟨[_], _, rfl, rfl, rfl⟩⟩⟩⟩⟩) Tryz.sizeOf3 rfl (by simp [Value.cells, Value.oneCell']) (by decide) hB hA (congrArg (fun z => some (Value.pointer (some ⟨_, z, none⟩))) (by simp [Nat.add_assoc])) rfl ?_
                      intro w190 hH191 ht192
                      replace h_cals := Sl.tr h_cals ht192
                      replace h_l := Sl.tr h_l ht192
                      replace hK := Tr.trans hK ht192
                      replace hr19 := Tr.trans hr19 ht192
                      replace hr45 := Tr.trans hr45 ht192
                      replace hr132 := Tr.trans hr132 ht192
                      replace hr142 := Tr.trans hr142 ht192
                      replace hr169 := Tr.trans hr169 ht192
                      replace hB := Nat.le_trans hB ht192.ex.size
                      replace hA := ht192.new
                      replace hH : Hp w.heap.size A103 w190 (obS (α := level_Share) 32 v98 x189 :: []) := hH191
                      obtain rfl := Option.some.inj ho167
                      refine V_end (fun a ha193 => ?_)
                      exact ⟨(v98, A103), ha193.sub ⟨rfl, rfl, rfl, rfl, rfl, rfl, trivial⟩, ⟨hH, hr169⟩⟩
                    · rw [if_neg (nt hc177)] at ho167
                      refine C_seq ?_
                      refine C_region ?_
                      refine V_y (Y_eql rfl rfl) rfl rfl rfl ?_
                      refine V_as rfl rfl ?_
                      refine V_to (fun _ _ => rfl) ?_
                      obtain ⟨s195, ho194, ho167⟩ := Option.bind_eq_some_iff.1 ho167
                      refine C_cutG (ι := (Value × (Nat → Prop))) (fun ⟨v197, A202⟩ => [(1, v_cals), (2, .int .i64 m), (9, v197), (24, v_l), (25, .int .i64 (l.length : Int)), (26, .int .i64 (k20 : Int))]) (fun ⟨v197, A202⟩ => fun w' => Hp w.heap.size A202 w' (obS (α := level_Share) 32 v197 s195 :: []) ∧ Tr Dw w.heap.size A103 w127 A202 w') ?_ ?_
                      · have hr196 : Tr Dw w.heap.size A103 w127 A103 w127 := Tr.refl (Dw := Dw) hA
                        refine C_cond rfl (fun hc204 => ?_) (fun hc204 => ?_)
                        · rw [if_pos hc204] at ho194
                          refine C_region ?_
                          refine V_mv rfl rfl ?_
                          refine V_mv rfl rfl ?_
                          obtain ⟨x205, hx205, ho194⟩ := Option.bind_eq_some_iff.1 ho194
                          refine V_indexAddrH (α := level_Share) (e := 32) (v := v98) (l := s96) hH (i := 0) rfl hx205 Tryz.underlying24 Tryz.sizeOf32 rfl rfl rfl ?_
                          intro b206 o207 h208 hl209
                          have h210 := El_level_Share_5 h208
                          refine V_y (Y_fieldAddr Tryz.underlying32 rfl Tryz.sizeOf3 (by decide) rfl) rfl rfl rfl ?_
                          refine V_y (Y_load (El.int h210) Tryz.isAgg3 rfl) rfl rfl rfl ?_
                          refine V_y (Y_addI rfl rfl) rfl rfl rfl ?_
                          refine V_indexAddrH (α := level_Share) (e := 32) (v := v98) (l := s96) hH (i := 0) rfl hx205 Tryz.underlying24 Tryz.sizeOf32 rfl rfl rfl ?_
                          intro b211 o212 h213 hl214
                          have h215 := El_level_Share_5 h213
                          refine V_y (Y_fieldAddr Tryz.underlying32 rfl Tryz.sizeOf3 (by decide) rfl) rfl rfl rfl ?_
                          obtain ⟨x216, hx216, ho194⟩ := Option.bind_eq_some_iff.1 ho194
                          refine V_storeFH (Dw := Dw) (α := level_Share) (e := 32) (v := v98) (l := s96) (foff := 5) hH (i := 0) rfl hl214 hx205 hx216 (fun _ h => by obtain ⟨_, _, rfl, rfl, ⟨_, _, rfl, rfl, ⟨_, _, rfl, rfl, ⟨_, _, rfl, rfl, ⟨_, _, rfl, rfl, rfl⟩⟩⟩⟩⟩ := h; exact ⟨[_], _, rfl, rfl, ⟨[_], _, rfl, rfl, ⟨[_], _, rfl, rfl, ⟨[_], _, rfl, rfl, ⟨[_], _, rfl, rfl, rfl⟩⟩⟩⟩⟩) Tryz.sizeOf3 rfl (by simp [Value.cells, Value.oneCell']) (by decide) hB hA (congrArg (fun z => some (Value.pointer (some ⟨_, z, none⟩))) (by simp [Nat.add_assoc])) rfl ?_
                          intro w217 hH218 ht219
                          replace h_cals := Sl.tr h_cals ht219
                          replace h_l := Sl.tr h_l ht219
                          replace hK := Tr.trans hK ht219
                          replace hr19 := Tr.trans hr19 ht219
                          replace hr45 := Tr.trans hr45 ht219
                          replace hr132 := Tr.trans hr132 ht219
                          replace hr142 := Tr.trans hr142 ht219
                          replace hr169 := Tr.trans hr169 ht219
                          replace hr196 := Tr.trans hr196 ht219
                          replace hB := Nat.le_trans hB ht219.ex.size
                          replace hA := ht219.new
                          replace hH : Hp w.heap.size A103 w217 (obS (α := level_Share) 32 v98 x216 :: []) := hH218
                          obtain rfl := Option.some.inj ho194
                          refine V_end (fun a ha220 => ?_)
                          exact ⟨(v98, A103), ha220.sub ⟨rfl, rfl, rfl, rfl, rfl, rfl, trivial⟩, ⟨hH, hr196⟩⟩
                        · rw [if_neg (nt hc204)] at ho194
                          refine C_region ?_
                          refine V_mv rfl rfl ?_
                          refine V_mv rfl rfl ?_
                          obtain ⟨x221, hx221, ho194⟩ := Option.bind_eq_some_iff.1 ho194
                          refine V_indexAddrH (α := level_Share) (e := 32) (v := v98) (l := s96) hH (i := 0) rfl hx221 Tryz.underlying24 Tryz.sizeOf32 rfl rfl rfl ?_
                          intro b222 o223 h224 hl225
                          have h226 := El_level_Share_2 h224
                          refine V_y (Y_fieldAddr Tryz.underlying32 rfl Tryz.sizeOf3 (by decide) rfl) rfl rfl rfl ?_
                          refine V_y (Y_load (El.int h226) Tryz.isAgg3 rfl) rfl rfl rfl ?_
                          refine V_y (Y_addI rfl rfl) rfl rfl rfl ?_
                          refine V_indexAddrH (α := level_Share) (e := 32) (v := v98) (l := s96) hH (i := 0) rfl hx221 Tryz.underlying24 Tryz.sizeOf32 rfl rfl rfl ?_
                          intro b227 o228 h229 hl230
                          have h231 := El_level_Share_2 h229
                          refine V_y (Y_fieldAddr Tryz.underlying32 rfl Tryz.sizeOf3 (by decide) rfl) rfl rfl rfl ?_
                          obtain ⟨x232, hx232, ho194⟩ := Option.bind_eq_some_iff.1 ho194
                          refine V_storeFH (Dw := Dw) (α := level_Share) (e := 32) (v := v98) (l := s96) (foff := 2) hH (i := 0) rfl hl230 hx221 hx232 (fun _ h => by obtain ⟨_, _, rfl, rfl, ⟨_, _, rfl, rfl, ⟨_, _, rfl, rfl, ⟨_, _, rfl, rfl, ⟨_, _, rfl, rfl, rfl⟩⟩⟩⟩⟩ := h; exact ⟨[_], _, rfl, rfl, ⟨[_], _, rfl, rfl, ⟨[_], _, rfl, rfl, ⟨[_], _, rfl, rfl, ⟨[_], _, rfl, rfl, rfl⟩⟩⟩⟩⟩) Tryz.sizeOf3 rfl (by simp [Value.cells, Value.oneCell']) (by decide) hB hA (congrArg (fun z => some (Value.pointer (some ⟨_, z, none⟩))) (by simp [Nat.add_assoc])) rfl ?_
                          intro w233 hH234 ht235
                          replace h_cals := Sl.tr h_cals ht235
                          replace h_l := Sl.tr h_l ht235
                          replace hK := Tr.trans hK ht235
                          replace hr19 := Tr.trans hr19 ht235
                          replace hr45 := Tr.trans hr45 ht235
                          replace hr132 := Tr.trans hr132 ht235
                          replace hr142 := Tr.trans hr142 ht235
                          replace hr169 := Tr.trans hr169 ht235
                          replace hr196 := Tr.trans hr196 ht235
                          replace hB := Nat.le_trans hB ht235.ex.size
                          replace hA := ht235.new
                          replace hH : Hp w.heap.size A103 w233 (obS (α := level_Share) 32 v98 x232 :: []) := hH234
                          obtain rfl := Option.some.inj ho194
                          refine V_end (fun a ha236 => ?_)
                          exact ⟨(v98, A103), ha236.sub ⟨rfl, rfl, rfl, rfl, rfl, rfl, trivial⟩, ⟨hH, hr196⟩⟩
                      rintro ⟨v197, A202⟩ w199 ⟨hH203, hk200⟩ a ha201
                      replace h_cals := Sl.tr h_cals hk200
                      replace h_l := Sl.tr h_l hk200
                      replace hK := Tr.trans hK hk200
                      replace hr19 := Tr.trans hr19 hk200
                      replace hr45 := Tr.trans hr45 hk200
                      replace hr132 := Tr.trans hr132 hk200
                      replace hr142 := Tr.trans hr142 hk200
                      replace hr169 := Tr.trans hr169 hk200
                      replace hB := Nat.le_trans hB hk200.ex.size
                      replace hA := hk200.new
                      replace hH : Hp w.heap.size A202 w199 (obS (α := level_Share) 32 v197 s195 :: []) := hH203
                      obtain rfl := Option.some.inj ho167
                      exact ⟨(v197, A202), ha201.sub ⟨rfl, rfl, rfl, rfl, rfl, rfl, trivial⟩, ⟨hH, hr169⟩⟩
                  rintro ⟨v170, A175⟩ w172 ⟨hH176, hk173⟩ a ha174
                  replace h_cals := Sl.tr h_cals hk173
                  replace h_l := Sl.tr h_l hk173
                  replace hK := Tr.trans hK hk173
                  replace hr19 := Tr.trans hr19 hk173
                  replace hr45 := Tr.trans hr45 hk173
                  replace hr132 := Tr.trans hr132 hk173
                  replace hr142 := Tr.trans hr142 hk173
                  replace hB := Nat.le_trans hB hk173.ex.size
                  replace hA := hk173.new
                  replace hH : Hp w.heap.size A175 w172 (obS (α := level_Share) 32 v170 s168 :: []) := hH176
                  obtain rfl := Option.some.inj ho140
                  exact ⟨(v170, A175), ha174.sub ⟨rfl, rfl, rfl, rfl, rfl, rfl, trivial⟩, ⟨hH, hr142⟩⟩
              rintro ⟨v143, A148⟩ w145 ⟨hH149, hk146⟩ a ha147
              replace h_cals := Sl.tr h_cals hk146
              replace h_l := Sl.tr h_l hk146
              replace hK := Tr.trans hK hk146
              replace hr19 := Tr.trans hr19 hk146
              replace hr45 := Tr.trans hr45 hk146
              replace hr132 := Tr.trans hr132 hk146
              replace hB := Nat.le_trans hB hk146.ex.size
              replace hA := hk146.new
              replace hH : Hp w.heap.size A148 w145 (obS (α := level_Share) 32 v143 s141 :: []) := hH149
              obtain rfl := Option.some.inj ho130
              exact ⟨(v143, A148), ha147.sub ⟨rfl, rfl, rfl, rfl, rfl, rfl, trivial⟩, ⟨hH, hr132⟩⟩
            rintro ⟨v133, A138⟩ w135 ⟨hH139, hk136⟩ a ha137
            replace h_cals := Sl.tr h_cals hk136
            replace h_l := Sl.tr h_l hk136
            replace hK := Tr.trans hK hk136
            replace hr19 := Tr.trans hr19 hk136
            replace hr45 := Tr.trans hr45 hk136
            replace hB := Nat.le_trans hB hk136.ex.size
            replace hA := hk136.new
            replace hH : Hp w.heap.size A138 w135 (obS (α := level_Share) 32 v133 s131 :: []) := hH139
            obtain rfl := Option.some.inj ho43
            exact ⟨(v133, A138), ha137.sub ⟨rfl, rfl, rfl, rfl, rfl, rfl, trivial⟩, ⟨hH, hr45⟩⟩
        rintro ⟨v46, A51⟩ w48 ⟨hH52, hk49⟩ a ha50
        replace h_cals := Sl.tr h_cals hk49
        replace h_l := Sl.tr h_l hk49
        replace hK := Tr.trans hK hk49
        replace hr19 := Tr.trans hr19 hk49
        replace hB := Nat.le_trans hB hk49.ex.size
        replace hA := hk49.new
        replace hH : Hp w.heap.size A51 w48 (obS (α := level_Share) 32 v46 s44 :: []) := hH52
        refine C_at (n := ⟨95, [], none⟩) (fun _ _ => rfl) ?_ ha50
        refine C_region ?_
        refine V_y (Y_addI rfl rfl) rfl rfl rfl ?_
        refine V_mv rfl rfl ?_
        obtain rfl := Option.some.inj h35
        refine V_end (fun a ha241 => ?_)
        exact ⟨s44, hlt38, h36, ⟨(v46, A51), ha241.sub ⟨rfl, rfl, rfl, rfl, rfl, (congrArg (fun z => some (Value.int .i64 z)) (w64_succ hlt38 hn41)), trivial⟩, ⟨hH, hr19⟩⟩⟩
      · refine C_exit (fun a ha242 => ?_)
        exact ⟨(s28, v30, A32), ha242.sub ⟨rfl, trivial⟩, ⟨(h39 (eq_of_dec hle37 hc42)).symm, hH, hr19⟩⟩
    rintro ⟨s18, v24, A26⟩ w21 ⟨rfl, hH27, hk22⟩ a ha23
    rw [Lp.andThen_fin] at hm
    replace hK := Tr.trans hK hk22
    replace hB := Nat.le_trans hB hk22.ex.size
    replace hA := hk22.new
    replace hH : Hp w.heap.size A26 w21 (obS (α := level_Share) 32 v24 s18 :: []) := hH27
    refine C_at (n := ⟨95, [], none⟩) (fun _ _ => rfl) ?_ ha23
    refine C_seq ?_
    refine C_region ?_
    refine V_mv rfl rfl ?_
    refine V_as rfl rfl ?_
    refine V_as rfl rfl ?_
    refine V_to (fun _ _ => rfl) ?_
    obtain rfl := Option.some.inj hm
    refine C_ret ?_
    try simp only [↓inBlock_ret, ↓then_ret]
    exact retQ rfl (Res.two Tryz.results4 rfl rfl) ⟨v24, rfl, (Hp.ownd hH (i := 0) rfl), hK.kp⟩

set_option maxRecDepth 4000 in
set_option maxHeartbeats 4000000 in
theorem level_Percentile_c (w : World) {A : Nat → Prop} (hA : ∀ b, w.heap.size ≤ b → A b) (l : (List level_Clock)) (v_l : Value) (h_l : Sl A w v_l l) (cals : (List cal_Calendar)) (v_cals : Value) (h_cals : Sl A w v_cals cals) (percent : Int) {r : (Int × Int)} (hm : level_Percentile l cals percent = some r) : Ret Tryz.prog 5 #[v_l, v_cals, .int .i64 percent] w fun v w' => v = .tuple #[.int .i64 r.1, .int .i64 r.2] ∧ Kp Dw w w' := by
  unfold level_Percentile at hm
  refine enter Tryz.func5 rfl Tryz.ntmps5 rfl ?_
  have hA0 := hA
  have hB := Nat.le_refl w.heap.size
  have hK : Tr Dw w.heap.size A w A w := Tr.refl (Dw := Dw) hA
  have hH : Hp w.heap.size A w [] := Hp.nil
  refine C_seq ?_
  refine C_region ?_
  refine V_as rfl rfl ?_
  refine V_as rfl rfl ?_
  refine V_to (fun _ _ => rfl) ?_
  refine C_seq ?_
  refine C_seq ?_
  refine C_region ?_
  refine V_mv rfl rfl ?_
  refine V_mv rfl rfl ?_
  obtain ⟨x5, hx5, hm⟩ := Option.bind_eq_some_iff.1 hm
  refine V_call Tryz.call10 rfl rfl rfl rfl (level_check_c (Dw := Dw) w hA l v_l h_l cals v_cals h_cals hx5) ?_
  rintro _ w6 ⟨rfl, hk7⟩
  have ht8 := Kp.tr hk7 hA hB
  replace hH := Hp.kp hH hk7
  replace h_l := Sl.tr h_l ht8
  replace h_cals := Sl.tr h_cals ht8
  replace hK := Tr.trans hK ht8
  replace hB := Nat.le_trans hB ht8.ex.size
  replace hA := ht8.new
  refine V_as rfl rfl ?_
  refine V_to (fun _ _ => rfl) ?_
  refine C_seq ?_
  refine C_region ?_
  refine V_mv rfl rfl ?_
  refine V_y (Y_neq rfl rfl) rfl rfl rfl ?_
  refine V_to (fun _ _ => rfl) ?_
  refine C_cond rfl (fun hc9 => ?_) (fun hc9 => ?_)
  · rw [if_pos hc9] at hm
    refine C_seq ?_
    refine C_region ?_
    refine V_mv rfl rfl ?_
    refine V_as rfl rfl ?_
    refine V_as rfl rfl ?_
    refine V_to (fun _ _ => rfl) ?_
    obtain rfl := Option.some.inj hm
    refine C_ret ?_
    try simp only [↓inBlock_ret, ↓then_ret]
    exact retQ rfl (Res.two Tryz.results5 rfl rfl) ⟨rfl, hK.kp⟩
  · rw [if_neg (nt hc9)] at hm
    refine C_skip_to (fun _ _ => rfl) ?_
    refine C_seq ?_
    refine C_seq ?_
    refine C_region ?_
    refine V_mv rfl rfl ?_
    refine V_call Tryz.call18 rfl rfl rfl rfl (level_within_c w6 percent 0 100) ?_
    rintro _ _ ⟨rfl, rfl⟩
    refine V_y (Y_not rfl) rfl rfl rfl ?_
    refine V_to (fun _ _ => rfl) ?_
    refine C_cond rfl (fun hc10 => ?_) (fun hc10 => ?_)
    · rw [if_pos hc10] at hm
      refine C_seq ?_
      refine C_region ?_
      refine V_as rfl rfl ?_
      refine V_as rfl rfl ?_
      refine V_to (fun _ _ => rfl) ?_
      obtain rfl := Option.some.inj hm
      refine C_ret ?_
      try simp only [↓inBlock_ret, ↓then_ret]
      exact retQ rfl (Res.two Tryz.results5 rfl rfl) ⟨rfl, hK.kp⟩
    · rw [if_neg (nt hc10)] at hm
      refine C_skip_to (fun _ _ => rfl) ?_
      refine C_seq ?_
      refine C_region ?_
      refine V_as rfl rfl ?_
      refine V_to (fun _ _ => rfl) ?_
      refine C_seq ?_
      refine C_seq ?_
      refine C_region ?_
      refine V_mv rfl rfl ?_
      refine V_y (Y_lenSl h_l rfl Tryz.underlying22 rfl) rfl rfl rfl ?_
      refine V_mv rfl rfl ?_
      refine V_to (fun _ _ => rfl) ?_
      replace hH : Hp w.heap.size A w6 (obS (α := Int) 3 (.slice none 0 0) ([] : (List Int)) :: []) := Hp.addNil (α := Int) (e := 3) hH
      have hn35 := Sl.le h_l
      obtain ⟨o11, ho11, hm⟩ := Option.bind_eq_some_iff.1 hm
      refine C_cutG (ι := ((List Int) × Value × (Nat → Prop))) (fun ⟨s12, v18, A20⟩ => [(2, .int .i64 percent), (9, v18)]) (fun ⟨s12, v18, A20⟩ => fun w' => o11 = .fin s12 ∧ Hp w.heap.size A20 w' (obS (α := Int) 3 v18 s12 :: []) ∧ Tr Dw w.heap.size A w6 A20 w') ?_ ?_
      · refine C_block ?_
        refine C_range ho11 (fun k14 s22 a w' => ∃ i : (Value × (Nat → Prop)), Has ⟨55, [], none⟩ a ([(1, v_cals), (2, .int .i64 percent), (9, i.1), (21, v_l), (22, .int .i64 (l.length : Int)), (23, .int .i64 (k14 : Int))]) ∧ Hp w.heap.size i.2 w' (obS (α := Int) 3 i.1 s22 :: []) ∧ Tr Dw w.heap.size A w6 i.2 w') (fun a ha => ⟨(.slice none 0 0, A), ha.sub ⟨rfl, rfl, rfl, rfl, rfl, rfl, trivial⟩, ⟨hH, Tr.refl (Dw := Dw) hA⟩⟩) ?_
        rintro K k14 s22 a w23 ⟨⟨v24, A26⟩, ha101, hH27, hr13⟩ hle31 K34 h33
        refine C_of ?_ ha101
        replace h_cals := Sl.tr h_cals hr13
        replace h_l := Sl.tr h_l hr13
        replace hK := Tr.trans hK hr13
        replace hB := Nat.le_trans hB hr13.ex.size
        replace hA := hr13.new
        replace hH : Hp w.heap.size A26 w23 (obS (α := Int) 3 v24 s22 :: []) := hH27
        refine C_seq (C_region (V_y (Y_lss rfl rfl) rfl rfl rfl (V_to (fun _ _ => rfl) ?_)))
        refine C_seq ?_
        refine C_cond rfl (fun hc36 => ?_) (fun hc36 => ?_)
        · have hlt32 := lt_of_dec hc36
          obtain ⟨x28, h29, h30⟩ := K34 hlt32
          refine C_skip_to (fun _ _ => rfl) ?_
          refine C_seq ?_
          obtain ⟨s38, ho37, h29⟩ := Option.bind_eq_some_iff.1 h29
          refine C_cutG (ι := (Value × (Nat → Prop))) (fun ⟨v40, A45⟩ => [(1, v_cals), (2, .int .i64 percent), (9, v40), (21, v_l), (22, .int .i64 (l.length : Int)), (23, .int .i64 (k14 : Int))]) (fun ⟨v40, A45⟩ => fun w' => Hp w.heap.size A45 w' (obS (α := Int) 3 v40 s38 :: []) ∧ Tr Dw w.heap.size A26 w23 A45 w') ?_ ?_
          · have hr39 : Tr Dw w.heap.size A26 w23 A26 w23 := Tr.refl (Dw := Dw) hA
            refine C_block ?_
            refine C_seq ?_
            refine C_region ?_
            obtain ⟨x47, hx47, ho37⟩ := Option.bind_eq_some_iff.1 ho37
            refine V_indexAddr h_l hx47 Tryz.underlying22 Tryz.sizeOf39 rfl rfl rfl ?_
            intro b48 o49 h50
            obtain ⟨v51, h53, h52⟩ := El_level_Clock h50
            refine V_y (Y_loadA h53 Tryz.isAgg39 Tryz.sizeOf39 rfl) rfl rfl rfl ?_
            refine V_alloc Tryz.zeroValue39 rfl ?_
            intro b54 w55 h56
            have h61 : (v51).oneCell' = true := by obtain ⟨_, _, e, _⟩ := Sl.form h52; rw [e]; rfl
            refine V_storeNew h56 Tryz.sizeOf39 rfl rfl rfl rfl (by exact (List.forall_mem_cons.2 ⟨rfl, (List.forall_mem_cons.2 ⟨rfl, (List.forall_mem_cons.2 ⟨rfl, (List.forall_mem_cons.2 ⟨rfl, (List.forall_mem_cons.2 ⟨rfl, (List.forall_mem_cons.2 ⟨rfl, (List.forall_mem_cons.2 ⟨h61, (fun _ h => nomatch h)⟩)⟩)⟩)⟩)⟩)⟩)⟩)) ?_
            intro w57 h58
            have hk63 := h58.kp (Dw := Dw)
            have h62 : El (α := level_Clock) A26 w57 b54 0 x47 := h58.el hA ⟨[.int .i64 x47.kind], _, rfl, rfl, ⟨[.int .i64 x47.level], _, rfl, rfl, ⟨[.int .i64 x47.minutes], _, rfl, rfl, ⟨[.int .i64 x47.start], _, rfl, rfl, ⟨[.int .i64 x47.stop], _, rfl, rfl, ⟨[.int .i64 x47.end_], _, rfl, rfl, ⟨_, rfl, h52⟩⟩⟩⟩⟩⟩⟩
            have ht64 := Kp.tr hk63 hA hB
            replace hH := Hp.kp hH hk63
            replace h_cals := Sl.tr h_cals ht64
            replace h_l := Sl.tr h_l ht64
            replace h50 := El.tr h50 ht64
            replace h52 := Sl.tr h52 ht64
            replace hK := Tr.trans hK ht64
            replace hr13 := Tr.trans hr13 ht64
            replace hr39 := Tr.trans hr39 ht64
            replace hB := Nat.le_trans hB ht64.ex.size
            replace hA := ht64.new
            refine V_to (fun _ _ => rfl) ?_
            refine C_seq ?_
            refine C_region ?_
            have h65 := El_level_Clock_5 h62
            refine V_y (Y_fieldAddr Tryz.underlying39 rfl Tryz.sizeOf3 (by decide) rfl) rfl rfl rfl ?_
            refine V_y (Y_load (El.int h65) Tryz.isAgg3 rfl) rfl rfl rfl ?_
            refine V_y (Y_eql rfl rfl) rfl rfl rfl ?_
            refine V_to (fun _ _ => rfl) ?_
            obtain ⟨s67, ho66, ho37⟩ := Option.bind_eq_some_iff.1 ho37
            refine C_cutG (ι := (Value × (Nat → Prop))) (fun ⟨v69, A74⟩ => [(1, v_cals), (2, .int .i64 percent), (9, v69), (21, v_l), (22, .int .i64 (l.length : Int)), (23, .int .i64 (k14 : Int))]) (fun ⟨v69, A74⟩ => fun w' => Hp w.heap.size A74 w' (obS (α := Int) 3 v69 s67 :: []) ∧ Tr Dw w.heap.size A26 w57 A74 w') ?_ ?_
            · have hr68 : Tr Dw w.heap.size A26 w57 A26 w57 := Tr.refl (Dw := Dw) hA
              refine C_cond rfl (fun hc76 => ?_) (fun hc76 => ?_)
              · rw [if_pos hc76] at ho66
                refine C_region ?_
                refine V_mv rfl rfl ?_
                obtain ⟨v77, h79, h78⟩ := El_level_Clock h62
                refine V_y (Y_loadA h79 Tryz.isAgg39 Tryz.sizeOf39 rfl) rfl rfl rfl ?_
                refine V_mv rfl rfl ?_
                have h80 := El_level_Clock_4 h62
                refine V_y (Y_fieldAddr Tryz.underlying39 rfl Tryz.sizeOf3 (by decide) rfl) rfl rfl rfl ?_
                refine V_y (Y_load (El.int h80) Tryz.isAgg3 rfl) rfl rfl rfl ?_
                obtain ⟨x81, hx81, ho66⟩ := Option.bind_eq_some_iff.1 ho66
                refine V_call Tryz.call19 rfl rfl rfl rfl (level_elapsed_c (Dw := Dw) w57 hA x47 v77 h78 cals v_cals h_cals x47.stop hx81) ?_
                rintro _ w82 ⟨rfl, hk83⟩
                have ht84 := Kp.tr hk83 hA hB
                replace hH := Hp.kp hH hk83
                replace h_cals := Sl.tr h_cals ht84
                replace h_l := Sl.tr h_l ht84
                replace h62 := El.tr h62 ht84
                replace h78 := Sl.tr h78 ht84
                replace h80 := El.tr h80 ht84
                replace hK := Tr.trans hK ht84
                replace hr13 := Tr.trans hr13 ht84
                replace hr39 := Tr.trans hr39 ht84
                replace hr68 := Tr.trans hr68 ht84
                replace hB := Nat.le_trans hB ht84.ex.size
                replace hA := ht84.new
                refine V_buildSlice (Dw := Dw) (l := ([x81] : List Int)) (len := 1) Tryz.underlying48 Tryz.sizeOf3 Tryz.zeroValue3 rfl (by with_unfolding_all rfl) (show (1 * 1 : Nat) ≠ 0 by decide) (show (1 * 1 : Nat) ≤ 2 ^ 24 by decide) hA ⟨[.int .i64 x81], _, rfl, rfl, rfl⟩ rfl rfl ?_
                intro v85 w86 hk88 h87
                have ht89 := Kp.tr hk88 hA hB
                replace hH := Hp.kp hH hk88
                replace h_cals := Sl.tr h_cals ht89
                replace h_l := Sl.tr h_l ht89
                replace h62 := El.tr h62 ht89
                replace h78 := Sl.tr h78 ht89
                replace h80 := El.tr h80 ht89
                replace hK := Tr.trans hK ht89
                replace hr13 := Tr.trans hr13 ht89
                replace hr39 := Tr.trans hr39 ht89
                replace hr68 := Tr.trans hr68 ht89
                replace hB := Nat.le_trans hB ht89.ex.size
                replace hA := ht89.new
                obtain ⟨x90, hx90, ho66⟩ := Option.bind_eq_some_iff.1 ho66
                refine V_appendH (Dw := Dw) (e := 3) (v := v24) (l := s22) (ti := Tryz.t3) (bytes := 8) (lim := 17592186044416) hH (i := 0) rfl h87 hx90 Tryz.underlying48 Tryz_info3 rfl rfl rfl rfl (by decide) (by decide) (by decide) hB hA rfl rfl rfl ?_
                intro v91 w92 A93 hH94 ht95
                replace h_cals := Sl.tr h_cals ht95
                replace h_l := Sl.tr h_l ht95
                replace h62 := El.tr h62 ht95
                replace h78 := Sl.tr h78 ht95
                replace h80 := El.tr h80 ht95
                replace h87 := Sl.tr h87 ht95
                replace hK := Tr.trans hK ht95
                replace hr13 := Tr.trans hr13 ht95
                replace hr39 := Tr.trans hr39 ht95
                replace hr68 := Tr.trans hr68 ht95
                replace hB := Nat.le_trans hB ht95.ex.size
                replace hA := ht95.new
                replace hH : Hp w.heap.size A93 w92 (obS (α := Int) 3 v91 x90 :: []) := hH94
                refine V_as rfl rfl ?_
                obtain rfl := Option.some.inj ho66
                refine V_end (fun a ha96 => ?_)
                exact ⟨(v91, A93), ha96.sub ⟨rfl, rfl, rfl, rfl, rfl, rfl, trivial⟩, ⟨hH, hr68⟩⟩
              · rw [if_neg (nt hc76)] at ho66
                obtain rfl := Option.some.inj ho66
                refine C_skip (fun a ha97 => ?_)
                exact ⟨(v24, A26), ha97.sub ⟨rfl, rfl, rfl, rfl, rfl, rfl, trivial⟩, ⟨hH, hr68⟩⟩
            rintro ⟨v69, A74⟩ w71 ⟨hH75, hk72⟩ a ha73
            replace h_cals := Sl.tr h_cals hk72
            replace h_l := Sl.tr h_l hk72
            replace hK := Tr.trans hK hk72
            replace hr13 := Tr.trans hr13 hk72
            replace hr39 := Tr.trans hr39 hk72
            replace hB := Nat.le_trans hB hk72.ex.size
            replace hA := hk72.new
            replace hH : Hp w.heap.size A74 w71 (obS (α := Int) 3 v69 s67 :: []) := hH75
            obtain rfl := Option.some.inj ho37
            exact ⟨(v69, A74), ha73.sub ⟨rfl, rfl, rfl, rfl, rfl, rfl, trivial⟩, ⟨hH, hr39⟩⟩
          rintro ⟨v40, A45⟩ w42 ⟨hH46, hk43⟩ a ha44
          replace h_cals := Sl.tr h_cals hk43
          replace h_l := Sl.tr h_l hk43
          replace hK := Tr.trans hK hk43
          replace hr13 := Tr.trans hr13 hk43
          replace hB := Nat.le_trans hB hk43.ex.size
          replace hA := hk43.new
          replace hH : Hp w.heap.size A45 w42 (obS (α := Int) 3 v40 s38 :: []) := hH46
          refine C_at (n := ⟨55, [], none⟩) (fun _ _ => rfl) ?_ ha44
          refine C_region ?_
          refine V_y (Y_addI rfl rfl) rfl rfl rfl ?_
          refine V_mv rfl rfl ?_
          obtain rfl := Option.some.inj h29
          refine V_end (fun a ha99 => ?_)
          exact ⟨s38, hlt32, h30, ⟨(v40, A45), ha99.sub ⟨rfl, rfl, rfl, rfl, rfl, (congrArg (fun z => some (Value.int .i64 z)) (w64_succ hlt32 hn35)), trivial⟩, ⟨hH, hr13⟩⟩⟩
        · refine C_exit (fun a ha100 => ?_)
          exact ⟨(s22, v24, A26), ha100.sub ⟨rfl, rfl, trivial⟩, ⟨(h33 (eq_of_dec hle31 hc36)).symm, hH, hr13⟩⟩
      rintro ⟨s12, v18, A20⟩ w15 ⟨rfl, hH21, hk16⟩ a ha17
      rw [Lp.andThen_fin] at hm
      replace hK := Tr.trans hK hk16
      replace hB := Nat.le_trans hB hk16.ex.size
      replace hA := hk16.new
      replace hH : Hp w.heap.size A20 w15 (obS (α := Int) 3 v18 s12 :: []) := hH21
      refine C_at (n := ⟨55, [], none⟩) (fun _ _ => rfl) ?_ ha17
      refine C_seq ?_
      refine C_seq ?_
      refine C_region ?_
      refine V_mv rfl rfl ?_
      refine V_y (Y_lenSl (Hp.any (α := Int) (e := 3) (v := v18) (l := s12) hH (i := 0) rfl) rfl Tryz.underlying48 rfl) rfl rfl rfl ?_
      refine V_y (Y_eql rfl rfl) rfl rfl rfl ?_
      refine V_to (fun _ _ => rfl) ?_
      refine C_cond rfl (fun hc102 => ?_) (fun hc102 => ?_)
      · rw [if_pos hc102] at hm
        refine C_seq ?_
        refine C_region ?_
        refine V_as rfl rfl ?_
        refine V_as rfl rfl ?_
        refine V_to (fun _ _ => rfl) ?_
        obtain rfl := Option.some.inj hm
        refine C_ret ?_
        try simp only [↓inBlock_ret, ↓then_ret]
        exact retQ rfl (Res.two Tryz.results5 rfl rfl) ⟨rfl, hK.kp⟩
      · rw [if_neg (nt hc102)] at hm
        refine C_skip_to (fun _ _ => rfl) ?_
        refine C_seq ?_
        refine C_region ?_
        refine V_mv rfl rfl ?_
        obtain ⟨x103, hx103, hm⟩ := Option.bind_eq_some_iff.1 hm
        refine V_call Tryz.call20 rfl rfl rfl rfl (Tryz_sortInts (Dw := Dw) hH (i := 0) rfl hB hA hx103) ?_
        rintro _ w104 ⟨rfl, hH105, ht106⟩
        replace hK := Tr.trans hK ht106
        replace hB := Nat.le_trans hB ht106.ex.size
        replace hA := ht106.new
        replace hH : Hp w.heap.size A20 w104 (obS (α := Int) 3 v18 x103 :: []) := hH105
        refine V_to (fun _ _ => rfl) ?_
        refine C_seq ?_
        refine C_region ?_
        refine V_mv rfl rfl ?_
        refine V_mv rfl rfl ?_
        refine V_mv rfl rfl ?_
        refine V_y (Y_lenSl (Hp.any (α := Int) (e := 3) (v := v18) (l := x103) hH (i := 0) rfl) rfl Tryz.underlying48 rfl) rfl rfl rfl ?_
        refine V_y (Y_mulI rfl rfl) rfl rfl rfl ?_
        refine V_y (Y_addI rfl rfl) rfl rfl rfl ?_
        refine V_y (Y_quo (by rw [quo, if_neg (by decide)]) rfl rfl) rfl rfl rfl ?_
        refine V_y (Y_max2 rfl rfl) rfl rfl rfl ?_
        refine V_y (Y_subI rfl rfl) rfl rfl rfl ?_
        obtain ⟨x107, hx107, hm⟩ := Option.bind_eq_some_iff.1 hm
        refine V_indexAddrH (α := Int) (e := 3) (v := v18) (l := x103) hH (i := 0) rfl hx107 Tryz.underlying48 Tryz.sizeOf3 rfl rfl rfl ?_
        intro b108 o109 h110 hl111
        refine V_y (Y_load (El.int h110) Tryz.isAgg3 rfl) rfl rfl rfl ?_
        refine V_as rfl rfl ?_
        refine V_as rfl rfl ?_
        refine V_to (fun _ _ => rfl) ?_
        obtain rfl := Option.some.inj hm
        refine C_ret ?_
        try simp only [↓inBlock_ret, ↓then_ret]
        exact retQ rfl (Res.two Tryz.results5 rfl rfl) ⟨rfl, hK.kp⟩

set_option maxRecDepth 4000 in
set_option maxHeartbeats 4000000 in
theorem portref2_IsMoment_c (w : World) (m : Int) : Ret Tryz.prog 22 #[.int .i64 m] w fun v w' => v = .bool (portref2_IsMoment m) ∧ w = w' := by
  generalize hm : portref2_IsMoment m = r
  unfold portref2_IsMoment at hm
  refine enter Tryz.func22 rfl Tryz.ntmps22 rfl ?_
  refine C_seq ?_
  refine C_region ?_
  refine V_as rfl rfl ?_
  refine V_to (fun _ _ => rfl) ?_
  refine C_seq ?_
  refine C_region ?_
  refine V_mv rfl rfl ?_
  refine V_y (Y_geq rfl rfl) rfl rfl rfl ?_
  refine V_mv rfl rfl ?_
  refine V_cut 3 (fun _ : Unit => [(8, .bool ((decide ((0 : Int) ≤ m)) && (decide (m ≤ 3000000))))]) (fun _ w' => w = w') ?_ ?_
  · simp only [List.take, List.drop]
    rcases Bool.eq_false_or_eq_true (decide ((0 : Int) ≤ m)) with hc1 | hc1
    · refine V_ge rfl rfl rfl hc1 ?_
      refine V_mv rfl rfl ?_
      refine V_ge rfl rfl rfl hc1 ?_
      refine V_y (Y_leq rfl rfl) rfl rfl rfl ?_
      refine V_y (Y_pick_te rfl hc1 rfl) rfl rfl rfl ?_
      exact V_end fun a ha => ⟨(), ha.sub ⟨(by rw [hc1]; rfl), trivial⟩, rfl⟩
    · refine V_gn rfl rfl rfl hc1 rfl rfl rfl ?_
      refine V_gn rfl rfl rfl hc1 rfl rfl rfl ?_
      refine V_y (Y_pick_fe rfl hc1 rfl) rfl rfl rfl ?_
      exact V_end fun a ha => ⟨(), ha.sub ⟨(by rw [hc1]; rfl), trivial⟩, rfl⟩
  simp only [List.take, List.drop]
  rintro _ _ rfl
  refine V_as rfl rfl ?_
  refine V_to (fun _ _ => rfl) ?_
  obtain rfl := hm
  refine C_ret ?_
  try simp only [↓inBlock_ret, ↓then_ret]
  exact retQ rfl (Res.one Tryz.results22 rfl) ⟨rfl, rfl⟩

end Go.Proofs.YtnjlojicebcikaaGreat.W
