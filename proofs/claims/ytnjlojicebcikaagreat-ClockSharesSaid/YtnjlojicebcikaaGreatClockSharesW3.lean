/-
  Written by program (gen.py) from the IR of the dump: each function computes its model.
-/
import Derived.Test.YtnjlojicebcikaaGreatClockSharesW2
namespace Go.Proofs.YtnjlojicebcikaaGreat.W
open Go Go.RowKit Go.Pu Go.Gw Go.Proofs Go.Proofs.YtnjlojicebcikaaGreat.M
set_option linter.unusedVariables false
set_option linter.unusedSimpArgs false
variable {Dw : Prop}

set_option maxRecDepth 4000 in
set_option maxHeartbeats 4000000 in
theorem portref2_ClockFault_c (w : World) {A : Nat → Prop} (hA : ∀ b, w.heap.size ≤ b → A b) (c : level_Clock) (v_c : Value) (h_c : Sl A w v_c c.pieces) {r : Int} (hm : portref2_ClockFault c = some r) : Ret Tryz.prog 41 #[.agg #[.int .i64 c.kind, .int .i64 c.level, .int .i64 c.minutes, .int .i64 c.start, .int .i64 c.stop, .int .i64 c.end_, v_c]] w fun v w' => v = .int .i64 r ∧ Kp Dw w w' := by
  unfold portref2_ClockFault at hm
  refine enter Tryz.func41 rfl Tryz.ntmps41 rfl ?_
  have hA0 := hA
  have hB := Nat.le_refl w.heap.size
  have hK : Tr Dw w.heap.size A w A w := Tr.refl (Dw := Dw) hA
  have hH : Hp w.heap.size A w [] := Hp.nil
  refine C_seq ?_
  refine C_region ?_
  refine V_box rfl rfl ?_
  intro b3 w4 h5
  have hk7 := h5.kp (Dw := Dw)
  have h6 : El (α := level_Clock) A w4 b3 0 c := h5.el hA ⟨[.int .i64 c.kind], _, rfl, rfl, ⟨[.int .i64 c.level], _, rfl, rfl, ⟨[.int .i64 c.minutes], _, rfl, rfl, ⟨[.int .i64 c.start], _, rfl, rfl, ⟨[.int .i64 c.stop], _, rfl, rfl, ⟨[.int .i64 c.end_], _, rfl, rfl, ⟨_, rfl, h_c⟩⟩⟩⟩⟩⟩⟩
  have ht8 := Kp.tr hk7 hA hB
  replace hH := Hp.kp hH hk7
  replace h_c := Sl.tr h_c ht8
  replace hK := Tr.trans hK ht8
  replace hB := Nat.le_trans hB ht8.ex.size
  replace hA := ht8.new
  refine V_as rfl rfl ?_
  refine V_to (fun _ _ => rfl) ?_
  refine C_seq ?_
  refine C_seq ?_
  refine C_region ?_
  have h9 := El_level_Clock_0 h6
  refine V_y (Y_fieldAddr Tryz.underlying39 rfl Tryz.sizeOf3 (by decide) rfl) rfl rfl rfl ?_
  refine V_y (Y_load (El.int h9) Tryz.isAgg3 rfl) rfl rfl rfl ?_
  refine V_y (Y_lss rfl rfl) rfl rfl rfl ?_
  refine V_mv rfl rfl ?_
  refine V_cut 4 (fun _ : Unit => [(1, .pointer (some ⟨b3, 0, none⟩)), (12, .bool ((decide (c.kind < 1)) || (decide ((3 : Int) < c.kind))))]) (fun _ w' => w4 = w') ?_ ?_
  · simp only [List.take, List.drop]
    rcases Bool.eq_false_or_eq_true (decide (c.kind < 1)) with hc10 | hc10
    · refine V_gn rfl rfl rfl hc10 rfl rfl rfl ?_
      refine V_gn rfl rfl rfl hc10 rfl rfl rfl ?_
      refine V_gn rfl rfl rfl hc10 rfl rfl rfl ?_
      refine V_y (Y_pick_te rfl hc10 rfl) rfl rfl rfl ?_
      exact V_end fun a ha => ⟨(), ha.sub ⟨rfl, (by rw [hc10]; rfl), trivial⟩, rfl⟩
    · refine V_ge rfl rfl rfl hc10 ?_
      have h12 := El_level_Clock_0 h6
      refine V_y (Y_fieldAddr Tryz.underlying39 rfl Tryz.sizeOf3 (by decide) rfl) rfl rfl rfl ?_
      refine V_ge rfl rfl rfl hc10 ?_
      refine V_y (Y_load (El.int h12) Tryz.isAgg3 rfl) rfl rfl rfl ?_
      refine V_ge rfl rfl rfl hc10 ?_
      refine V_y (Y_gtr rfl rfl) rfl rfl rfl ?_
      refine V_y (Y_pick_fe rfl hc10 rfl) rfl rfl rfl ?_
      exact V_end fun a ha => ⟨(), ha.sub ⟨rfl, (by rw [hc10]; rfl), trivial⟩, rfl⟩
  simp only [List.take, List.drop]
  rintro _ _ rfl
  refine V_mv rfl rfl ?_
  refine V_cut 4 (fun _ : Unit => [(1, .pointer (some ⟨b3, 0, none⟩)), (17, .bool (((decide (c.kind < 1)) || (decide ((3 : Int) < c.kind))) || (decide (c.level < 0))))]) (fun _ w' => w4 = w') ?_ ?_
  · simp only [List.take, List.drop]
    rcases Bool.eq_false_or_eq_true (((decide (c.kind < 1)) || (decide ((3 : Int) < c.kind)))) with hc13 | hc13
    · refine V_gn rfl rfl rfl hc13 rfl rfl rfl ?_
      refine V_gn rfl rfl rfl hc13 rfl rfl rfl ?_
      refine V_gn rfl rfl rfl hc13 rfl rfl rfl ?_
      refine V_y (Y_pick_te rfl hc13 rfl) rfl rfl rfl ?_
      exact V_end fun a ha => ⟨(), ha.sub ⟨rfl, (by rw [hc13]; rfl), trivial⟩, rfl⟩
    · refine V_ge rfl rfl rfl hc13 ?_
      have h15 := El_level_Clock_1 h6
      refine V_y (Y_fieldAddr Tryz.underlying39 rfl Tryz.sizeOf3 (by decide) rfl) rfl rfl rfl ?_
      refine V_ge rfl rfl rfl hc13 ?_
      refine V_y (Y_load (El.int h15) Tryz.isAgg3 rfl) rfl rfl rfl ?_
      refine V_ge rfl rfl rfl hc13 ?_
      refine V_y (Y_lss rfl rfl) rfl rfl rfl ?_
      refine V_y (Y_pick_fe rfl hc13 rfl) rfl rfl rfl ?_
      exact V_end fun a ha => ⟨(), ha.sub ⟨rfl, (by rw [hc13]; rfl), trivial⟩, rfl⟩
  simp only [List.take, List.drop]
  rintro _ _ rfl
  refine V_mv rfl rfl ?_
  refine V_cut 4 (fun _ : Unit => [(1, .pointer (some ⟨b3, 0, none⟩)), (22, .bool ((((decide (c.kind < 1)) || (decide ((3 : Int) < c.kind))) || (decide (c.level < 0))) || (decide ((20 : Int) ≤ c.level))))]) (fun _ w' => w4 = w') ?_ ?_
  · simp only [List.take, List.drop]
    rcases Bool.eq_false_or_eq_true ((((decide (c.kind < 1)) || (decide ((3 : Int) < c.kind))) || (decide (c.level < 0)))) with hc16 | hc16
    · refine V_gn rfl rfl rfl hc16 rfl rfl rfl ?_
      refine V_gn rfl rfl rfl hc16 rfl rfl rfl ?_
      refine V_gn rfl rfl rfl hc16 rfl rfl rfl ?_
      refine V_y (Y_pick_te rfl hc16 rfl) rfl rfl rfl ?_
      exact V_end fun a ha => ⟨(), ha.sub ⟨rfl, (by rw [hc16]; rfl), trivial⟩, rfl⟩
    · refine V_ge rfl rfl rfl hc16 ?_
      have h18 := El_level_Clock_1 h6
      refine V_y (Y_fieldAddr Tryz.underlying39 rfl Tryz.sizeOf3 (by decide) rfl) rfl rfl rfl ?_
      refine V_ge rfl rfl rfl hc16 ?_
      refine V_y (Y_load (El.int h18) Tryz.isAgg3 rfl) rfl rfl rfl ?_
      refine V_ge rfl rfl rfl hc16 ?_
      refine V_y (Y_geq rfl rfl) rfl rfl rfl ?_
      refine V_y (Y_pick_fe rfl hc16 rfl) rfl rfl rfl ?_
      exact V_end fun a ha => ⟨(), ha.sub ⟨rfl, (by rw [hc16]; rfl), trivial⟩, rfl⟩
  simp only [List.take, List.drop]
  rintro _ _ rfl
  refine V_mv rfl rfl ?_
  refine V_cut 4 (fun _ : Unit => [(1, .pointer (some ⟨b3, 0, none⟩)), (27, .bool (((((decide (c.kind < 1)) || (decide ((3 : Int) < c.kind))) || (decide (c.level < 0))) || (decide ((20 : Int) ≤ c.level))) || (decide (c.minutes < 0))))]) (fun _ w' => w4 = w') ?_ ?_
  · simp only [List.take, List.drop]
    rcases Bool.eq_false_or_eq_true (((((decide (c.kind < 1)) || (decide ((3 : Int) < c.kind))) || (decide (c.level < 0))) || (decide ((20 : Int) ≤ c.level)))) with hc19 | hc19
    · refine V_gn rfl rfl rfl hc19 rfl rfl rfl ?_
      refine V_gn rfl rfl rfl hc19 rfl rfl rfl ?_
      refine V_gn rfl rfl rfl hc19 rfl rfl rfl ?_
      refine V_y (Y_pick_te rfl hc19 rfl) rfl rfl rfl ?_
      exact V_end fun a ha => ⟨(), ha.sub ⟨rfl, (by rw [hc19]; rfl), trivial⟩, rfl⟩
    · refine V_ge rfl rfl rfl hc19 ?_
      have h21 := El_level_Clock_2 h6
      refine V_y (Y_fieldAddr Tryz.underlying39 rfl Tryz.sizeOf3 (by decide) rfl) rfl rfl rfl ?_
      refine V_ge rfl rfl rfl hc19 ?_
      refine V_y (Y_load (El.int h21) Tryz.isAgg3 rfl) rfl rfl rfl ?_
      refine V_ge rfl rfl rfl hc19 ?_
      refine V_y (Y_lss rfl rfl) rfl rfl rfl ?_
      refine V_y (Y_pick_fe rfl hc19 rfl) rfl rfl rfl ?_
      exact V_end fun a ha => ⟨(), ha.sub ⟨rfl, (by rw [hc19]; rfl), trivial⟩, rfl⟩
  simp only [List.take, List.drop]
  rintro _ _ rfl
  refine V_mv rfl rfl ?_
  refine V_cut 4 (fun _ : Unit => [(1, .pointer (some ⟨b3, 0, none⟩)), (32, .bool ((((((decide (c.kind < 1)) || (decide ((3 : Int) < c.kind))) || (decide (c.level < 0))) || (decide ((20 : Int) ≤ c.level))) || (decide (c.minutes < 0))) || (decide ((100000 : Int) < c.minutes))))]) (fun _ w' => w4 = w') ?_ ?_
  · simp only [List.take, List.drop]
    rcases Bool.eq_false_or_eq_true ((((((decide (c.kind < 1)) || (decide ((3 : Int) < c.kind))) || (decide (c.level < 0))) || (decide ((20 : Int) ≤ c.level))) || (decide (c.minutes < 0)))) with hc22 | hc22
    · refine V_gn rfl rfl rfl hc22 rfl rfl rfl ?_
      refine V_gn rfl rfl rfl hc22 rfl rfl rfl ?_
      refine V_gn rfl rfl rfl hc22 rfl rfl rfl ?_
      refine V_y (Y_pick_te rfl hc22 rfl) rfl rfl rfl ?_
      exact V_end fun a ha => ⟨(), ha.sub ⟨rfl, (by rw [hc22]; rfl), trivial⟩, rfl⟩
    · refine V_ge rfl rfl rfl hc22 ?_
      have h24 := El_level_Clock_2 h6
      refine V_y (Y_fieldAddr Tryz.underlying39 rfl Tryz.sizeOf3 (by decide) rfl) rfl rfl rfl ?_
      refine V_ge rfl rfl rfl hc22 ?_
      refine V_y (Y_load (El.int h24) Tryz.isAgg3 rfl) rfl rfl rfl ?_
      refine V_ge rfl rfl rfl hc22 ?_
      refine V_y (Y_gtr rfl rfl) rfl rfl rfl ?_
      refine V_y (Y_pick_fe rfl hc22 rfl) rfl rfl rfl ?_
      exact V_end fun a ha => ⟨(), ha.sub ⟨rfl, (by rw [hc22]; rfl), trivial⟩, rfl⟩
  simp only [List.take, List.drop]
  rintro _ _ rfl
  refine V_mv rfl rfl ?_
  refine V_cut 5 (fun _ : Unit => [(1, .pointer (some ⟨b3, 0, none⟩)), (38, .bool (((((((decide (c.kind < 1)) || (decide ((3 : Int) < c.kind))) || (decide (c.level < 0))) || (decide ((20 : Int) ≤ c.level))) || (decide (c.minutes < 0))) || (decide ((100000 : Int) < c.minutes))) || (!(portref2_IsMoment c.start))))]) (fun _ w' => w4 = w') ?_ ?_
  · simp only [List.take, List.drop]
    rcases Bool.eq_false_or_eq_true (((((((decide (c.kind < 1)) || (decide ((3 : Int) < c.kind))) || (decide (c.level < 0))) || (decide ((20 : Int) ≤ c.level))) || (decide (c.minutes < 0))) || (decide ((100000 : Int) < c.minutes)))) with hc25 | hc25
    · refine V_gn rfl rfl rfl hc25 rfl rfl rfl ?_
      refine V_gn rfl rfl rfl hc25 rfl rfl rfl ?_
      refine V_gn rfl rfl rfl hc25 rfl rfl rfl ?_
      refine V_gn rfl rfl rfl hc25 rfl rfl rfl ?_
      refine V_y (Y_pick_te rfl hc25 rfl) rfl rfl rfl ?_
      exact V_end fun a ha => ⟨(), ha.sub ⟨rfl, (by rw [hc25]; rfl), trivial⟩, rfl⟩
    · refine V_ge rfl rfl rfl hc25 ?_
      have h27 := El_level_Clock_3 h6
      refine V_y (Y_fieldAddr Tryz.underlying39 rfl Tryz.sizeOf3 (by decide) rfl) rfl rfl rfl ?_
      refine V_ge rfl rfl rfl hc25 ?_
      refine V_y (Y_load (El.int h27) Tryz.isAgg3 rfl) rfl rfl rfl ?_
      refine V_ge rfl rfl rfl hc25 ?_
      refine V_call Tryz.call22 rfl rfl rfl rfl (portref2_IsMoment_c w4 c.start) ?_
      rintro _ _ ⟨rfl, rfl⟩
      refine V_ge rfl rfl rfl hc25 ?_
      refine V_y (Y_not rfl) rfl rfl rfl ?_
      refine V_y (Y_pick_fe rfl hc25 rfl) rfl rfl rfl ?_
      exact V_end fun a ha => ⟨(), ha.sub ⟨rfl, (by rw [hc25]; rfl), trivial⟩, rfl⟩
  simp only [List.take, List.drop]
  rintro _ _ rfl
  refine V_mv rfl rfl ?_
  refine V_cut 17 (fun _ : Unit => [(1, .pointer (some ⟨b3, 0, none⟩)), (56, .bool ((((((((decide (c.kind < 1)) || (decide ((3 : Int) < c.kind))) || (decide (c.level < 0))) || (decide ((20 : Int) ≤ c.level))) || (decide (c.minutes < 0))) || (decide ((100000 : Int) < c.minutes))) || (!(portref2_IsMoment c.start))) || ((c.stop != (-1)) && ((!(portref2_IsMoment c.stop)) || (decide (c.stop < c.start))))))]) (fun _ w' => w4 = w') ?_ ?_
  · simp only [List.take, List.drop]
    rcases Bool.eq_false_or_eq_true ((((((((decide (c.kind < 1)) || (decide ((3 : Int) < c.kind))) || (decide (c.level < 0))) || (decide ((20 : Int) ≤ c.level))) || (decide (c.minutes < 0))) || (decide ((100000 : Int) < c.minutes))) || (!(portref2_IsMoment c.start)))) with hc28 | hc28
    · refine V_gn rfl rfl rfl hc28 rfl rfl rfl ?_
      refine V_gn rfl rfl rfl hc28 rfl rfl rfl ?_
      refine V_gn rfl rfl rfl hc28 rfl rfl rfl ?_
      refine V_gn rfl rfl rfl hc28 rfl rfl rfl ?_
      refine V_gu rfl rfl rfl rfl rfl ?_
      refine V_gu rfl rfl rfl rfl rfl ?_
      refine V_gu rfl rfl rfl rfl rfl ?_
      refine V_gu rfl rfl rfl rfl rfl ?_
      refine V_gu rfl rfl rfl rfl rfl ?_
      refine V_gu rfl rfl rfl rfl rfl ?_
      refine V_gu rfl rfl rfl rfl rfl ?_
      refine V_gu rfl rfl rfl rfl rfl ?_
      refine V_gu rfl rfl rfl rfl rfl ?_
      refine V_gu rfl rfl rfl rfl rfl ?_
      refine V_gu rfl rfl rfl rfl rfl ?_
      refine V_gn rfl rfl rfl hc28 rfl rfl rfl ?_
      refine V_y (Y_pick_te rfl hc28 rfl) rfl rfl rfl ?_
      exact V_end fun a ha => ⟨(), ha.sub ⟨rfl, (by rw [hc28]; rfl), trivial⟩, rfl⟩
    · refine V_ge rfl rfl rfl hc28 ?_
      have h30 := El_level_Clock_4 h6
      refine V_y (Y_fieldAddr Tryz.underlying39 rfl Tryz.sizeOf3 (by decide) rfl) rfl rfl rfl ?_
      refine V_ge rfl rfl rfl hc28 ?_
      refine V_y (Y_load (El.int h30) Tryz.isAgg3 rfl) rfl rfl rfl ?_
      refine V_ge rfl rfl rfl hc28 ?_
      refine V_y (Y_neq rfl rfl) rfl rfl rfl ?_
      refine V_ge rfl rfl rfl hc28 ?_
      refine V_mv rfl rfl ?_
      refine V_cut 12 (fun _ : Unit => [(1, .pointer (some ⟨b3, 0, none⟩)), (39, .bool (((((((decide (c.kind < 1)) || (decide ((3 : Int) < c.kind))) || (decide (c.level < 0))) || (decide ((20 : Int) ≤ c.level))) || (decide (c.minutes < 0))) || (decide ((100000 : Int) < c.minutes))) || (!(portref2_IsMoment c.start)))), (55, .bool ((c.stop != (-1)) && ((!(portref2_IsMoment c.stop)) || (decide (c.stop < c.start)))))]) (fun _ w' => w4 = w') ?_ ?_
      · simp only [List.take, List.drop]
        rcases Bool.eq_false_or_eq_true (c.stop != (-1)) with hc31 | hc31
        · refine V_ge rfl rfl rfl hc31 ?_
          have h33 := El_level_Clock_4 h6
          refine V_y (Y_fieldAddr Tryz.underlying39 rfl Tryz.sizeOf3 (by decide) rfl) rfl rfl rfl ?_
          refine V_ge rfl rfl rfl hc31 ?_
          refine V_y (Y_load (El.int h33) Tryz.isAgg3 rfl) rfl rfl rfl ?_
          refine V_ge rfl rfl rfl hc31 ?_
          refine V_call Tryz.call22 rfl rfl rfl rfl (portref2_IsMoment_c w4 c.stop) ?_
          rintro _ _ ⟨rfl, rfl⟩
          refine V_ge rfl rfl rfl hc31 ?_
          refine V_y (Y_not rfl) rfl rfl rfl ?_
          refine V_ge rfl rfl rfl hc31 ?_
          refine V_mv rfl rfl ?_
          refine V_cut 6 (fun _ : Unit => [(1, .pointer (some ⟨b3, 0, none⟩)), (39, .bool (((((((decide (c.kind < 1)) || (decide ((3 : Int) < c.kind))) || (decide (c.level < 0))) || (decide ((20 : Int) ≤ c.level))) || (decide (c.minutes < 0))) || (decide ((100000 : Int) < c.minutes))) || (!(portref2_IsMoment c.start)))), (43, .bool (c.stop != (-1))), (54, .bool ((!(portref2_IsMoment c.stop)) || (decide (c.stop < c.start))))]) (fun _ w' => w4 = w') ?_ ?_
          · simp only [List.take, List.drop]
            rcases Bool.eq_false_or_eq_true (!(portref2_IsMoment c.stop)) with hc34 | hc34
            · refine V_gn rfl rfl rfl hc34 rfl rfl rfl ?_
              refine V_gn rfl rfl rfl hc34 rfl rfl rfl ?_
              refine V_gn rfl rfl rfl hc34 rfl rfl rfl ?_
              refine V_gn rfl rfl rfl hc34 rfl rfl rfl ?_
              refine V_gn rfl rfl rfl hc34 rfl rfl rfl ?_
              refine V_ge rfl rfl rfl hc31 ?_
              refine V_y (Y_pick_te rfl hc34 rfl) rfl rfl rfl ?_
              exact V_end fun a ha => ⟨(), ha.sub ⟨rfl, rfl, rfl, (by rw [hc34]; rfl), trivial⟩, rfl⟩
            · refine V_ge rfl rfl rfl hc34 ?_
              have h36 := El_level_Clock_4 h6
              refine V_y (Y_fieldAddr Tryz.underlying39 rfl Tryz.sizeOf3 (by decide) rfl) rfl rfl rfl ?_
              refine V_ge rfl rfl rfl hc34 ?_
              refine V_y (Y_load (El.int h36) Tryz.isAgg3 rfl) rfl rfl rfl ?_
              refine V_ge rfl rfl rfl hc34 ?_
              have h37 := El_level_Clock_3 h6
              refine V_y (Y_fieldAddr Tryz.underlying39 rfl Tryz.sizeOf3 (by decide) rfl) rfl rfl rfl ?_
              refine V_ge rfl rfl rfl hc34 ?_
              refine V_y (Y_load (El.int h37) Tryz.isAgg3 rfl) rfl rfl rfl ?_
              refine V_ge rfl rfl rfl hc34 ?_
              refine V_y (Y_lss rfl rfl) rfl rfl rfl ?_
              refine V_ge rfl rfl rfl hc31 ?_
              refine V_y (Y_pick_fe rfl hc34 rfl) rfl rfl rfl ?_
              exact V_end fun a ha => ⟨(), ha.sub ⟨rfl, rfl, rfl, (by rw [hc34]; rfl), trivial⟩, rfl⟩
          simp only [List.take, List.drop]
          rintro _ _ rfl
          refine V_ge rfl rfl rfl hc28 ?_
          refine V_y (Y_pick_te rfl hc31 rfl) rfl rfl rfl ?_
          exact V_end fun a ha => ⟨(), ha.sub ⟨rfl, rfl, (by rw [hc31]; rfl), trivial⟩, rfl⟩
        · refine V_gn rfl rfl rfl hc31 rfl rfl rfl ?_
          refine V_gn rfl rfl rfl hc31 rfl rfl rfl ?_
          refine V_gn rfl rfl rfl hc31 rfl rfl rfl ?_
          refine V_gn rfl rfl rfl hc31 rfl rfl rfl ?_
          refine V_gn rfl rfl rfl hc31 rfl rfl rfl ?_
          refine V_gu rfl rfl rfl rfl rfl ?_
          refine V_gu rfl rfl rfl rfl rfl ?_
          refine V_gu rfl rfl rfl rfl rfl ?_
          refine V_gu rfl rfl rfl rfl rfl ?_
          refine V_gu rfl rfl rfl rfl rfl ?_
          refine V_gn rfl rfl rfl hc31 rfl rfl rfl ?_
          refine V_ge rfl rfl rfl hc28 ?_
          refine V_y (Y_pick_fe rfl hc31 rfl) rfl rfl rfl ?_
          exact V_end fun a ha => ⟨(), ha.sub ⟨rfl, rfl, (by rw [hc31]; rfl), trivial⟩, rfl⟩
      simp only [List.take, List.drop]
      rintro _ _ rfl
      refine V_y (Y_pick_fe rfl hc28 rfl) rfl rfl rfl ?_
      exact V_end fun a ha => ⟨(), ha.sub ⟨rfl, (by rw [hc28]; rfl), trivial⟩, rfl⟩
  simp only [List.take, List.drop]
  rintro _ _ rfl
  refine V_mv rfl rfl ?_
  refine V_cut 4 (fun _ : Unit => [(1, .pointer (some ⟨b3, 0, none⟩)), (61, .bool (((((((((decide (c.kind < 1)) || (decide ((3 : Int) < c.kind))) || (decide (c.level < 0))) || (decide ((20 : Int) ≤ c.level))) || (decide (c.minutes < 0))) || (decide ((100000 : Int) < c.minutes))) || (!(portref2_IsMoment c.start))) || ((c.stop != (-1)) && ((!(portref2_IsMoment c.stop)) || (decide (c.stop < c.start))))) || (decide (c.end_ < 0))))]) (fun _ w' => w4 = w') ?_ ?_
  · simp only [List.take, List.drop]
    rcases Bool.eq_false_or_eq_true (((((((((decide (c.kind < 1)) || (decide ((3 : Int) < c.kind))) || (decide (c.level < 0))) || (decide ((20 : Int) ≤ c.level))) || (decide (c.minutes < 0))) || (decide ((100000 : Int) < c.minutes))) || (!(portref2_IsMoment c.start))) || ((c.stop != (-1)) && ((!(portref2_IsMoment c.stop)) || (decide (c.stop < c.start)))))) with hc38 | hc38
    · refine V_gn rfl rfl rfl hc38 rfl rfl rfl ?_
      refine V_gn rfl rfl rfl hc38 rfl rfl rfl ?_
      refine V_gn rfl rfl rfl hc38 rfl rfl rfl ?_
      refine V_y (Y_pick_te rfl hc38 rfl) rfl rfl rfl ?_
      exact V_end fun a ha => ⟨(), ha.sub ⟨rfl, (by rw [hc38]; rfl), trivial⟩, rfl⟩
    · refine V_ge rfl rfl rfl hc38 ?_
      have h40 := El_level_Clock_5 h6
      refine V_y (Y_fieldAddr Tryz.underlying39 rfl Tryz.sizeOf3 (by decide) rfl) rfl rfl rfl ?_
      refine V_ge rfl rfl rfl hc38 ?_
      refine V_y (Y_load (El.int h40) Tryz.isAgg3 rfl) rfl rfl rfl ?_
      refine V_ge rfl rfl rfl hc38 ?_
      refine V_y (Y_lss rfl rfl) rfl rfl rfl ?_
      refine V_y (Y_pick_fe rfl hc38 rfl) rfl rfl rfl ?_
      exact V_end fun a ha => ⟨(), ha.sub ⟨rfl, (by rw [hc38]; rfl), trivial⟩, rfl⟩
  simp only [List.take, List.drop]
  rintro _ _ rfl
  refine V_mv rfl rfl ?_
  refine V_cut 4 (fun _ : Unit => [(1, .pointer (some ⟨b3, 0, none⟩)), (66, .bool ((((((((((decide (c.kind < 1)) || (decide ((3 : Int) < c.kind))) || (decide (c.level < 0))) || (decide ((20 : Int) ≤ c.level))) || (decide (c.minutes < 0))) || (decide ((100000 : Int) < c.minutes))) || (!(portref2_IsMoment c.start))) || ((c.stop != (-1)) && ((!(portref2_IsMoment c.stop)) || (decide (c.stop < c.start))))) || (decide (c.end_ < 0))) || (decide ((2 : Int) < c.end_))))]) (fun _ w' => w4 = w') ?_ ?_
  · simp only [List.take, List.drop]
    rcases Bool.eq_false_or_eq_true ((((((((((decide (c.kind < 1)) || (decide ((3 : Int) < c.kind))) || (decide (c.level < 0))) || (decide ((20 : Int) ≤ c.level))) || (decide (c.minutes < 0))) || (decide ((100000 : Int) < c.minutes))) || (!(portref2_IsMoment c.start))) || ((c.stop != (-1)) && ((!(portref2_IsMoment c.stop)) || (decide (c.stop < c.start))))) || (decide (c.end_ < 0)))) with hc41 | hc41
    · refine V_gn rfl rfl rfl hc41 rfl rfl rfl ?_
      refine V_gn rfl rfl rfl hc41 rfl rfl rfl ?_
      refine V_gn rfl rfl rfl hc41 rfl rfl rfl ?_
      refine V_y (Y_pick_te rfl hc41 rfl) rfl rfl rfl ?_
      exact V_end fun a ha => ⟨(), ha.sub ⟨rfl, (by rw [hc41]; rfl), trivial⟩, rfl⟩
    · refine V_ge rfl rfl rfl hc41 ?_
      have h43 := El_level_Clock_5 h6
      refine V_y (Y_fieldAddr Tryz.underlying39 rfl Tryz.sizeOf3 (by decide) rfl) rfl rfl rfl ?_
      refine V_ge rfl rfl rfl hc41 ?_
      refine V_y (Y_load (El.int h43) Tryz.isAgg3 rfl) rfl rfl rfl ?_
      refine V_ge rfl rfl rfl hc41 ?_
      refine V_y (Y_gtr rfl rfl) rfl rfl rfl ?_
      refine V_y (Y_pick_fe rfl hc41 rfl) rfl rfl rfl ?_
      exact V_end fun a ha => ⟨(), ha.sub ⟨rfl, (by rw [hc41]; rfl), trivial⟩, rfl⟩
  simp only [List.take, List.drop]
  rintro _ _ rfl
  refine V_to (fun _ _ => rfl) ?_
  refine C_cond rfl (fun hc44 => ?_) (fun hc44 => ?_)
  · rw [if_pos hc44] at hm
    refine C_seq ?_
    refine C_region ?_
    refine V_as rfl rfl ?_
    refine V_to (fun _ _ => rfl) ?_
    obtain rfl := Option.some.inj hm
    refine C_ret ?_
    try simp only [↓inBlock_ret, ↓then_ret]
    exact retQ rfl (Res.one Tryz.results41 rfl) ⟨rfl, hK.kp⟩
  · rw [if_neg (nt hc44)] at hm
    refine C_skip_to (fun _ _ => rfl) ?_
    refine C_seq ?_
    refine C_seq ?_
    refine C_region ?_
    have h45 := El_level_Clock_4 h6
    refine V_y (Y_fieldAddr Tryz.underlying39 rfl Tryz.sizeOf3 (by decide) rfl) rfl rfl rfl ?_
    refine V_y (Y_load (El.int h45) Tryz.isAgg3 rfl) rfl rfl rfl ?_
    refine V_y (Y_eql rfl rfl) rfl rfl rfl ?_
    have h46 := El_level_Clock_5 h6
    refine V_y (Y_fieldAddr Tryz.underlying39 rfl Tryz.sizeOf3 (by decide) rfl) rfl rfl rfl ?_
    refine V_y (Y_load (El.int h46) Tryz.isAgg3 rfl) rfl rfl rfl ?_
    refine V_y (Y_eql rfl rfl) rfl rfl rfl ?_
    refine V_y (Y_bneq Tryz.underlying4 rfl rfl) rfl rfl rfl ?_
    refine V_to (fun _ _ => rfl) ?_
    refine C_cond rfl (fun hc47 => ?_) (fun hc47 => ?_)
    · rw [if_pos hc47] at hm
      refine C_seq ?_
      refine C_region ?_
      refine V_as rfl rfl ?_
      refine V_to (fun _ _ => rfl) ?_
      obtain rfl := Option.some.inj hm
      refine C_ret ?_
      try simp only [↓inBlock_ret, ↓then_ret]
      exact retQ rfl (Res.one Tryz.results41 rfl) ⟨rfl, hK.kp⟩
    · rw [if_neg (nt hc47)] at hm
      refine C_skip_to (fun _ _ => rfl) ?_
      refine C_seq ?_
      refine C_seq ?_
      refine C_region ?_
      have h48 := El_level_Clock_6 h6
      refine V_y (Y_fieldAddr Tryz.underlying39 rfl Tryz.sizeOf37 (by decide) rfl) rfl rfl rfl ?_
      obtain ⟨v49, h50, h51⟩ := El.list h48
      refine V_y (Y_load h50 Tryz.isAgg37 rfl) rfl rfl rfl ?_
      refine V_y (Y_lenSl h51 rfl Tryz.underlying37 rfl) rfl rfl rfl ?_
      refine V_y (Y_gtr rfl rfl) rfl rfl rfl ?_
      refine V_to (fun _ _ => rfl) ?_
      refine C_cond rfl (fun hc52 => ?_) (fun hc52 => ?_)
      · rw [if_pos hc52] at hm
        refine C_seq ?_
        refine C_region ?_
        refine V_as rfl rfl ?_
        refine V_to (fun _ _ => rfl) ?_
        obtain rfl := Option.some.inj hm
        refine C_ret ?_
        try simp only [↓inBlock_ret, ↓then_ret]
        exact retQ rfl (Res.one Tryz.results41 rfl) ⟨rfl, hK.kp⟩
      · rw [if_neg (nt hc52)] at hm
        refine C_skip_to (fun _ _ => rfl) ?_
        refine C_seq ?_
        refine C_seq ?_
        refine C_region ?_
        have h53 := El_level_Clock_6 h6
        refine V_y (Y_fieldAddr Tryz.underlying39 rfl Tryz.sizeOf37 (by decide) rfl) rfl rfl rfl ?_
        obtain ⟨v54, h55, h56⟩ := El.list h53
        refine V_y (Y_load h55 Tryz.isAgg37 rfl) rfl rfl rfl ?_
        refine V_y (Y_lenSl h56 rfl Tryz.underlying37 rfl) rfl rfl rfl ?_
        refine V_mv rfl rfl ?_
        refine V_to (fun _ _ => rfl) ?_
        have hn77 := Sl.le h56
        obtain ⟨o57, ho57, hm⟩ := Option.bind_eq_some_iff.1 hm
        refine C_cutG (ι := (Unit × (Nat → Prop))) (fun ⟨s58, A64⟩ => []) (fun ⟨s58, A64⟩ => fun w' => o57 = .fin s58 ∧ Hp w.heap.size A64 w' ([]) ∧ Tr Dw w.heap.size A w4 A64 w') ?_ ?_
        · refine C_block ?_
          refine C_range ho57 (fun k60 _ a w' => ∃ i : (Nat → Prop), Has ⟨169, [], none⟩ a ([(1, .pointer (some ⟨b3, 0, none⟩)), (79, v54), (80, .int .i64 (c.pieces.length : Int)), (81, .int .i64 (k60 : Int))]) ∧ Hp w.heap.size i w' ([]) ∧ Tr Dw w.heap.size A w4 i w') (fun a ha => ⟨A, ha.sub ⟨rfl, rfl, rfl, rfl, trivial⟩, ⟨hH, Tr.refl (Dw := Dw) hA⟩⟩) ?_
          rintro K k60 _ a w67 ⟨A68, ha157, hH69, hr59⟩ hle73 K76 h75
          refine C_of ?_ ha157
          replace h6 := El.tr h6 hr59
          replace h56 := Sl.tr h56 hr59
          replace hK := Tr.trans hK hr59
          replace hB := Nat.le_trans hB hr59.ex.size
          replace hA := hr59.new
          replace hH : Hp w.heap.size A68 w67 ([]) := hH69
          refine C_seq (C_region (V_y (Y_lss rfl rfl) rfl rfl rfl (V_to (fun _ _ => rfl) ?_)))
          refine C_seq ?_
          refine C_cond rfl (fun hc78 => ?_) (fun hc78 => ?_)
          · have hlt74 := lt_of_dec hc78
            obtain ⟨x70, h71, h72⟩ := K76 hlt74
            refine C_skip_to (fun _ _ => rfl) ?_
            refine C_seq ?_
            refine C_block ?_
            refine C_seq ?_
            refine C_region ?_
            refine V_mv rfl rfl ?_
            obtain ⟨x79, hx79, h71⟩ := Option.bind_eq_some_iff.1 h71
            refine V_indexAddr h56 hx79 Tryz.underlying37 Tryz.sizeOf70 rfl rfl rfl ?_
            intro b80 o81 h82
            obtain ⟨h83, _⟩ := El_level_Piece h82
            refine V_y (Y_loadA h83 Tryz.isAgg70 Tryz.sizeOf70 rfl) rfl rfl rfl ?_
            refine V_alloc Tryz.zeroValue70 rfl ?_
            intro b84 w85 h86
            refine V_as rfl rfl ?_
            refine V_storeNew h86 Tryz.sizeOf70 rfl rfl rfl rfl (by exact (List.forall_mem_cons.2 ⟨rfl, (List.forall_mem_cons.2 ⟨rfl, (List.forall_mem_cons.2 ⟨rfl, (fun _ h => nomatch h)⟩)⟩)⟩)) ?_
            intro w87 h88
            have hk90 := h88.kp (Dw := Dw)
            have h89 : El (α := level_Piece) A68 w87 b84 0 x79 := h88.el hA ⟨[.int .i64 x79.from_], _, rfl, rfl, ⟨[.int .i64 x79.to_], _, rfl, rfl, rfl⟩⟩
            have ht91 := Kp.tr hk90 hA hB
            replace hH := Hp.kp hH hk90
            replace h6 := El.tr h6 ht91
            replace h56 := Sl.tr h56 ht91
            replace h82 := El.tr h82 ht91
            replace hK := Tr.trans hK ht91
            replace hr59 := Tr.trans hr59 ht91
            replace hB := Nat.le_trans hB ht91.ex.size
            replace hA := ht91.new
            refine V_to (fun _ _ => rfl) ?_
            refine C_block ?_
            refine C_seq ?_
            refine C_region ?_
            have h92 := El_level_Piece_0 h89
            refine V_y (Y_fieldAddr Tryz.underlying70 rfl Tryz.sizeOf3 (by decide) rfl) rfl rfl rfl ?_
            refine V_y (Y_load (El.int h92) Tryz.isAgg3 rfl) rfl rfl rfl ?_
            have h93 := El_level_Clock_3 h6
            refine V_y (Y_fieldAddr Tryz.underlying39 rfl Tryz.sizeOf3 (by decide) rfl) rfl rfl rfl ?_
            refine V_y (Y_load (El.int h93) Tryz.isAgg3 rfl) rfl rfl rfl ?_
            refine V_y (Y_lss rfl rfl) rfl rfl rfl ?_
            refine V_mv rfl rfl ?_
            refine V_cut 5 (fun _ : Unit => [(1, .pointer (some ⟨b3, 0, none⟩)), (3, .int .i64 (k60 : Int)), (4, .pointer (some ⟨b84, 0, none⟩)), (79, v54), (80, .int .i64 (c.pieces.length : Int)), (81, .int .i64 (k60 : Int)), (97, .bool ((decide (x79.from_ < c.start)) || (!(portref2_IsMoment x79.from_))))]) (fun _ w' => w87 = w') ?_ ?_
            · simp only [List.take, List.drop]
              rcases Bool.eq_false_or_eq_true (decide (x79.from_ < c.start)) with hc94 | hc94
              · refine V_gn rfl rfl rfl hc94 rfl rfl rfl ?_
                refine V_gn rfl rfl rfl hc94 rfl rfl rfl ?_
                refine V_gn rfl rfl rfl hc94 rfl rfl rfl ?_
                refine V_gn rfl rfl rfl hc94 rfl rfl rfl ?_
                refine V_y (Y_pick_te rfl hc94 rfl) rfl rfl rfl ?_
                exact V_end fun a ha => ⟨(), ha.sub ⟨rfl, rfl, rfl, rfl, rfl, rfl, (by rw [hc94]; rfl), trivial⟩, rfl⟩
              · refine V_ge rfl rfl rfl hc94 ?_
                have h96 := El_level_Piece_0 h89
                refine V_y (Y_fieldAddr Tryz.underlying70 rfl Tryz.sizeOf3 (by decide) rfl) rfl rfl rfl ?_
                refine V_ge rfl rfl rfl hc94 ?_
                refine V_y (Y_load (El.int h96) Tryz.isAgg3 rfl) rfl rfl rfl ?_
                refine V_ge rfl rfl rfl hc94 ?_
                refine V_call Tryz.call22 rfl rfl rfl rfl (portref2_IsMoment_c w87 x79.from_) ?_
                rintro _ _ ⟨rfl, rfl⟩
                refine V_ge rfl rfl rfl hc94 ?_
                refine V_y (Y_not rfl) rfl rfl rfl ?_
                refine V_y (Y_pick_fe rfl hc94 rfl) rfl rfl rfl ?_
                exact V_end fun a ha => ⟨(), ha.sub ⟨rfl, rfl, rfl, rfl, rfl, rfl, (by rw [hc94]; rfl), trivial⟩, rfl⟩
            simp only [List.take, List.drop]
            rintro _ _ rfl
            refine V_mv rfl rfl ?_
            refine V_cut 4 (fun _ : Unit => [(1, .pointer (some ⟨b3, 0, none⟩)), (3, .int .i64 (k60 : Int)), (4, .pointer (some ⟨b84, 0, none⟩)), (79, v54), (80, .int .i64 (c.pieces.length : Int)), (81, .int .i64 (k60 : Int)), (102, .bool (((decide (x79.from_ < c.start)) || (!(portref2_IsMoment x79.from_))) || (decide (x79.calendar < 0))))]) (fun _ w' => w87 = w') ?_ ?_
            · simp only [List.take, List.drop]
              rcases Bool.eq_false_or_eq_true (((decide (x79.from_ < c.start)) || (!(portref2_IsMoment x79.from_)))) with hc97 | hc97
              · refine V_gn rfl rfl rfl hc97 rfl rfl rfl ?_
                refine V_gn rfl rfl rfl hc97 rfl rfl rfl ?_
                refine V_gn rfl rfl rfl hc97 rfl rfl rfl ?_
                refine V_y (Y_pick_te rfl hc97 rfl) rfl rfl rfl ?_
                exact V_end fun a ha => ⟨(), ha.sub ⟨rfl, rfl, rfl, rfl, rfl, rfl, (by rw [hc97]; rfl), trivial⟩, rfl⟩
              · refine V_ge rfl rfl rfl hc97 ?_
                have h99 := El_level_Piece_2 h89
                refine V_y (Y_fieldAddr Tryz.underlying70 rfl Tryz.sizeOf3 (by decide) rfl) rfl rfl rfl ?_
                refine V_ge rfl rfl rfl hc97 ?_
                refine V_y (Y_load (El.int h99) Tryz.isAgg3 rfl) rfl rfl rfl ?_
                refine V_ge rfl rfl rfl hc97 ?_
                refine V_y (Y_lss rfl rfl) rfl rfl rfl ?_
                refine V_y (Y_pick_fe rfl hc97 rfl) rfl rfl rfl ?_
                exact V_end fun a ha => ⟨(), ha.sub ⟨rfl, rfl, rfl, rfl, rfl, rfl, (by rw [hc97]; rfl), trivial⟩, rfl⟩
            simp only [List.take, List.drop]
            rintro _ _ rfl
            refine V_mv rfl rfl ?_
            refine V_cut 4 (fun _ : Unit => [(1, .pointer (some ⟨b3, 0, none⟩)), (3, .int .i64 (k60 : Int)), (4, .pointer (some ⟨b84, 0, none⟩)), (79, v54), (80, .int .i64 (c.pieces.length : Int)), (81, .int .i64 (k60 : Int)), (107, .bool ((((decide (x79.from_ < c.start)) || (!(portref2_IsMoment x79.from_))) || (decide (x79.calendar < 0))) || (decide ((20 : Int) ≤ x79.calendar))))]) (fun _ w' => w87 = w') ?_ ?_
            · simp only [List.take, List.drop]
              rcases Bool.eq_false_or_eq_true ((((decide (x79.from_ < c.start)) || (!(portref2_IsMoment x79.from_))) || (decide (x79.calendar < 0)))) with hc100 | hc100
              · refine V_gn rfl rfl rfl hc100 rfl rfl rfl ?_
                refine V_gn rfl rfl rfl hc100 rfl rfl rfl ?_
                refine V_gn rfl rfl rfl hc100 rfl rfl rfl ?_
                refine V_y (Y_pick_te rfl hc100 rfl) rfl rfl rfl ?_
                exact V_end fun a ha => ⟨(), ha.sub ⟨rfl, rfl, rfl, rfl, rfl, rfl, (by rw [hc100]; rfl), trivial⟩, rfl⟩
              · refine V_ge rfl rfl rfl hc100 ?_
                have h102 := El_level_Piece_2 h89
                refine V_y (Y_fieldAddr Tryz.underlying70 rfl Tryz.sizeOf3 (by decide) rfl) rfl rfl rfl ?_
                refine V_ge rfl rfl rfl hc100 ?_
                refine V_y (Y_load (El.int h102) Tryz.isAgg3 rfl) rfl rfl rfl ?_
                refine V_ge rfl rfl rfl hc100 ?_
                refine V_y (Y_geq rfl rfl) rfl rfl rfl ?_
                refine V_y (Y_pick_fe rfl hc100 rfl) rfl rfl rfl ?_
                exact V_end fun a ha => ⟨(), ha.sub ⟨rfl, rfl, rfl, rfl, rfl, rfl, (by rw [hc100]; rfl), trivial⟩, rfl⟩
            simp only [List.take, List.drop]
            rintro _ _ rfl
            refine V_mv rfl rfl ?_
            refine V_cut 17 (fun _ : Unit => [(1, .pointer (some ⟨b3, 0, none⟩)), (3, .int .i64 (k60 : Int)), (4, .pointer (some ⟨b84, 0, none⟩)), (79, v54), (80, .int .i64 (c.pieces.length : Int)), (81, .int .i64 (k60 : Int)), (125, .bool (((((decide (x79.from_ < c.start)) || (!(portref2_IsMoment x79.from_))) || (decide (x79.calendar < 0))) || (decide ((20 : Int) ≤ x79.calendar))) || ((x79.to_ != (-1)) && ((!(portref2_IsMoment x79.to_)) || (decide (x79.to_ ≤ x79.from_))))))]) (fun _ w' => w87 = w') ?_ ?_
            · simp only [List.take, List.drop]
              rcases Bool.eq_false_or_eq_true (((((decide (x79.from_ < c.start)) || (!(portref2_IsMoment x79.from_))) || (decide (x79.calendar < 0))) || (decide ((20 : Int) ≤ x79.calendar)))) with hc103 | hc103
              · refine V_gn rfl rfl rfl hc103 rfl rfl rfl ?_
                refine V_gn rfl rfl rfl hc103 rfl rfl rfl ?_
                refine V_gn rfl rfl rfl hc103 rfl rfl rfl ?_
                refine V_gn rfl rfl rfl hc103 rfl rfl rfl ?_
                refine V_gu rfl rfl rfl rfl rfl ?_
                refine V_gu rfl rfl rfl rfl rfl ?_
                refine V_gu rfl rfl rfl rfl rfl ?_
                refine V_gu rfl rfl rfl rfl rfl ?_
                refine V_gu rfl rfl rfl rfl rfl ?_
                refine V_gu rfl rfl rfl rfl rfl ?_
                refine V_gu rfl rfl rfl rfl rfl ?_
                refine V_gu rfl rfl rfl rfl rfl ?_
                refine V_gu rfl rfl rfl rfl rfl ?_
                refine V_gu rfl rfl rfl rfl rfl ?_
                refine V_gu rfl rfl rfl rfl rfl ?_
                refine V_gn rfl rfl rfl hc103 rfl rfl rfl ?_
                refine V_y (Y_pick_te rfl hc103 rfl) rfl rfl rfl ?_
                exact V_end fun a ha => ⟨(), ha.sub ⟨rfl, rfl, rfl, rfl, rfl, rfl, (by rw [hc103]; rfl), trivial⟩, rfl⟩
              · refine V_ge rfl rfl rfl hc103 ?_
                have h105 := El_level_Piece_1 h89
                refine V_y (Y_fieldAddr Tryz.underlying70 rfl Tryz.sizeOf3 (by decide) rfl) rfl rfl rfl ?_
                refine V_ge rfl rfl rfl hc103 ?_
                refine V_y (Y_load (El.int h105) Tryz.isAgg3 rfl) rfl rfl rfl ?_
                refine V_ge rfl rfl rfl hc103 ?_
                refine V_y (Y_neq rfl rfl) rfl rfl rfl ?_
                refine V_ge rfl rfl rfl hc103 ?_
                refine V_mv rfl rfl ?_
                refine V_cut 12 (fun _ : Unit => [(1, .pointer (some ⟨b3, 0, none⟩)), (3, .int .i64 (k60 : Int)), (4, .pointer (some ⟨b84, 0, none⟩)), (79, v54), (80, .int .i64 (c.pieces.length : Int)), (81, .int .i64 (k60 : Int)), (108, .bool ((((decide (x79.from_ < c.start)) || (!(portref2_IsMoment x79.from_))) || (decide (x79.calendar < 0))) || (decide ((20 : Int) ≤ x79.calendar)))), (124, .bool ((x79.to_ != (-1)) && ((!(portref2_IsMoment x79.to_)) || (decide (x79.to_ ≤ x79.from_)))))]) (fun _ w' => w87 = w') ?_ ?_
                · simp only [List.take, List.drop]
                  rcases Bool.eq_false_or_eq_true (x79.to_ != (-1)) with hc106 | hc106
                  · refine V_ge rfl rfl rfl hc106 ?_
                    have h108 := El_level_Piece_1 h89
                    refine V_y (Y_fieldAddr Tryz.underlying70 rfl Tryz.sizeOf3 (by decide) rfl) rfl rfl rfl ?_
                    refine V_ge rfl rfl rfl hc106 ?_
                    refine V_y (Y_load (El.int h108) Tryz.isAgg3 rfl) rfl rfl rfl ?_
                    refine V_ge rfl rfl rfl hc106 ?_
                    refine V_call Tryz.call22 rfl rfl rfl rfl (portref2_IsMoment_c w87 x79.to_) ?_
                    rintro _ _ ⟨rfl, rfl⟩
                    refine V_ge rfl rfl rfl hc106 ?_
                    refine V_y (Y_not rfl) rfl rfl rfl ?_
                    refine V_ge rfl rfl rfl hc106 ?_
                    refine V_mv rfl rfl ?_
                    refine V_cut 6 (fun _ : Unit => [(1, .pointer (some ⟨b3, 0, none⟩)), (3, .int .i64 (k60 : Int)), (4, .pointer (some ⟨b84, 0, none⟩)), (79, v54), (80, .int .i64 (c.pieces.length : Int)), (81, .int .i64 (k60 : Int)), (108, .bool ((((decide (x79.from_ < c.start)) || (!(portref2_IsMoment x79.from_))) || (decide (x79.calendar < 0))) || (decide ((20 : Int) ≤ x79.calendar)))), (112, .bool (x79.to_ != (-1))), (123, .bool ((!(portref2_IsMoment x79.to_)) || (decide (x79.to_ ≤ x79.from_))))]) (fun _ w' => w87 = w') ?_ ?_
                    · simp only [List.take, List.drop]
                      rcases Bool.eq_false_or_eq_true (!(portref2_IsMoment x79.to_)) with hc109 | hc109
                      · refine V_gn rfl rfl rfl hc109 rfl rfl rfl ?_
                        refine V_gn rfl rfl rfl hc109 rfl rfl rfl ?_
                        refine V_gn rfl rfl rfl hc109 rfl rfl rfl ?_
                        refine V_gn rfl rfl rfl hc109 rfl rfl rfl ?_
                        refine V_gn rfl rfl rfl hc109 rfl rfl rfl ?_
                        refine V_ge rfl rfl rfl hc106 ?_
                        refine V_y (Y_pick_te rfl hc109 rfl) rfl rfl rfl ?_
                        exact V_end fun a ha => ⟨(), ha.sub ⟨rfl, rfl, rfl, rfl, rfl, rfl, rfl, rfl, (by rw [hc109]; rfl), trivial⟩, rfl⟩
                      · refine V_ge rfl rfl rfl hc109 ?_
                        have h111 := El_level_Piece_1 h89
                        refine V_y (Y_fieldAddr Tryz.underlying70 rfl Tryz.sizeOf3 (by decide) rfl) rfl rfl rfl ?_
                        refine V_ge rfl rfl rfl hc109 ?_
                        refine V_y (Y_load (El.int h111) Tryz.isAgg3 rfl) rfl rfl rfl ?_
                        refine V_ge rfl rfl rfl hc109 ?_
                        have h112 := El_level_Piece_0 h89
                        refine V_y (Y_fieldAddr Tryz.underlying70 rfl Tryz.sizeOf3 (by decide) rfl) rfl rfl rfl ?_
                        refine V_ge rfl rfl rfl hc109 ?_
                        refine V_y (Y_load (El.int h112) Tryz.isAgg3 rfl) rfl rfl rfl ?_
                        refine V_ge rfl rfl rfl hc109 ?_
                        refine V_y (Y_leq rfl rfl) rfl rfl rfl ?_
                        refine V_ge rfl rfl rfl hc106 ?_
                        refine V_y (Y_pick_fe rfl hc109 rfl) rfl rfl rfl ?_
                        exact V_end fun a ha => ⟨(), ha.sub ⟨rfl, rfl, rfl, rfl, rfl, rfl, rfl, rfl, (by rw [hc109]; rfl), trivial⟩, rfl⟩
                    simp only [List.take, List.drop]
                    rintro _ _ rfl
                    refine V_ge rfl rfl rfl hc103 ?_
                    refine V_y (Y_pick_te rfl hc106 rfl) rfl rfl rfl ?_
                    exact V_end fun a ha => ⟨(), ha.sub ⟨rfl, rfl, rfl, rfl, rfl, rfl, rfl, (by rw [hc106]; rfl), trivial⟩, rfl⟩
                  · refine V_gn rfl rfl rfl hc106 rfl rfl rfl ?_
                    refine V_gn rfl rfl rfl hc106 rfl rfl rfl ?_
                    refine V_gn rfl rfl rfl hc106 rfl rfl rfl ?_
                    refine V_gn rfl rfl rfl hc106 rfl rfl rfl ?_
                    refine V_gn rfl rfl rfl hc106 rfl rfl rfl ?_
                    refine V_gu rfl rfl rfl rfl rfl ?_
                    refine V_gu rfl rfl rfl rfl rfl ?_
                    refine V_gu rfl rfl rfl rfl rfl ?_
                    refine V_gu rfl rfl rfl rfl rfl ?_
                    refine V_gu rfl rfl rfl rfl rfl ?_
                    refine V_gn rfl rfl rfl hc106 rfl rfl rfl ?_
                    refine V_ge rfl rfl rfl hc103 ?_
                    refine V_y (Y_pick_fe rfl hc106 rfl) rfl rfl rfl ?_
                    exact V_end fun a ha => ⟨(), ha.sub ⟨rfl, rfl, rfl, rfl, rfl, rfl, rfl, (by rw [hc106]; rfl), trivial⟩, rfl⟩
                simp only [List.take, List.drop]
                rintro _ _ rfl
                refine V_y (Y_pick_fe rfl hc103 rfl) rfl rfl rfl ?_
                exact V_end fun a ha => ⟨(), ha.sub ⟨rfl, rfl, rfl, rfl, rfl, rfl, (by rw [hc103]; rfl), trivial⟩, rfl⟩
            simp only [List.take, List.drop]
            rintro _ _ rfl
            refine V_as rfl rfl ?_
            refine V_to (fun _ _ => rfl) ?_
            refine C_cond rfl (fun hc113 => ?_) (fun hc113 => ?_)
            · rw [if_pos hc113] at h71
              refine C_seq ?_
              refine C_region ?_
              refine V_as rfl rfl ?_
              refine V_to (fun _ _ => rfl) ?_
              obtain rfl := Option.some.inj h71
              obtain rfl := (h72 : Lp.rt _ = _)
              rw [Lp.andThen_rt] at hm
              obtain rfl := Option.some.inj hm
              refine C_ret ?_
              try simp only [↓inBlock_ret, ↓then_ret]
              exact retQ rfl (Res.one Tryz.results41 rfl) ⟨rfl, hK.kp⟩
            · rw [if_neg (nt hc113)] at h71
              refine C_seq ?_
              refine C_seq ?_
              refine C_region ?_
              have h114 := El_level_Piece_1 h89
              refine V_y (Y_fieldAddr Tryz.underlying70 rfl Tryz.sizeOf3 (by decide) rfl) rfl rfl rfl ?_
              refine V_y (Y_load (El.int h114) Tryz.isAgg3 rfl) rfl rfl rfl ?_
              refine V_y (Y_eql rfl rfl) rfl rfl rfl ?_
              refine V_mv rfl rfl ?_
              refine V_cut 12 (fun _ : Unit => [(1, .pointer (some ⟨b3, 0, none⟩)), (3, .int .i64 (k60 : Int)), (4, .pointer (some ⟨b84, 0, none⟩)), (79, v54), (80, .int .i64 (c.pieces.length : Int)), (81, .int .i64 (k60 : Int)), (142, .bool ((x79.to_ == (-1)) && ((decide ((k60 : Int) < (w64 ((c.pieces.length : Int) - 1)))) || (c.stop != (-1)))))]) (fun _ w' => w87 = w') ?_ ?_
              · simp only [List.take, List.drop]
                rcases Bool.eq_false_or_eq_true (x79.to_ == (-1)) with hc115 | hc115
                · refine V_ge rfl rfl rfl hc115 ?_
                  refine V_mv rfl rfl ?_
                  refine V_ge rfl rfl rfl hc115 ?_
                  have h117 := El_level_Clock_6 h6
                  refine V_y (Y_fieldAddr Tryz.underlying39 rfl Tryz.sizeOf37 (by decide) rfl) rfl rfl rfl ?_
                  refine V_ge rfl rfl rfl hc115 ?_
                  obtain ⟨v118, h119, h120⟩ := El.list h117
                  refine V_y (Y_load h119 Tryz.isAgg37 rfl) rfl rfl rfl ?_
                  refine V_ge rfl rfl rfl hc115 ?_
                  refine V_y (Y_lenSl h120 rfl Tryz.underlying37 rfl) rfl rfl rfl ?_
                  refine V_ge rfl rfl rfl hc115 ?_
                  refine V_y (Y_subI rfl rfl) rfl rfl rfl ?_
                  refine V_ge rfl rfl rfl hc115 ?_
                  refine V_y (Y_lss rfl rfl) rfl rfl rfl ?_
                  refine V_ge rfl rfl rfl hc115 ?_
                  refine V_mv rfl rfl ?_
                  refine V_cut 4 (fun _ : Unit => [(1, .pointer (some ⟨b3, 0, none⟩)), (3, .int .i64 (k60 : Int)), (4, .pointer (some ⟨b84, 0, none⟩)), (79, v54), (80, .int .i64 (c.pieces.length : Int)), (81, .int .i64 (k60 : Int)), (130, .bool (x79.to_ == (-1))), (141, .bool ((decide ((k60 : Int) < (w64 ((c.pieces.length : Int) - 1)))) || (c.stop != (-1))))]) (fun _ w' => w87 = w') ?_ ?_
                  · simp only [List.take, List.drop]
                    rcases Bool.eq_false_or_eq_true (decide ((k60 : Int) < (w64 ((c.pieces.length : Int) - 1)))) with hc121 | hc121
                    · refine V_gn rfl rfl rfl hc121 rfl rfl rfl ?_
                      refine V_gn rfl rfl rfl hc121 rfl rfl rfl ?_
                      refine V_gn rfl rfl rfl hc121 rfl rfl rfl ?_
                      refine V_ge rfl rfl rfl hc115 ?_
                      refine V_y (Y_pick_te rfl hc121 rfl) rfl rfl rfl ?_
                      exact V_end fun a ha => ⟨(), ha.sub ⟨rfl, rfl, rfl, rfl, rfl, rfl, rfl, (by rw [hc121]; rfl), trivial⟩, rfl⟩
                    · refine V_ge rfl rfl rfl hc121 ?_
                      have h123 := El_level_Clock_4 h6
                      refine V_y (Y_fieldAddr Tryz.underlying39 rfl Tryz.sizeOf3 (by decide) rfl) rfl rfl rfl ?_
                      refine V_ge rfl rfl rfl hc121 ?_
                      refine V_y (Y_load (El.int h123) Tryz.isAgg3 rfl) rfl rfl rfl ?_
                      refine V_ge rfl rfl rfl hc121 ?_
                      refine V_y (Y_neq rfl rfl) rfl rfl rfl ?_
                      refine V_ge rfl rfl rfl hc115 ?_
                      refine V_y (Y_pick_fe rfl hc121 rfl) rfl rfl rfl ?_
                      exact V_end fun a ha => ⟨(), ha.sub ⟨rfl, rfl, rfl, rfl, rfl, rfl, rfl, (by rw [hc121]; rfl), trivial⟩, rfl⟩
                  simp only [List.take, List.drop]
                  rintro _ _ rfl
                  refine V_y (Y_pick_te rfl hc115 rfl) rfl rfl rfl ?_
                  exact V_end fun a ha => ⟨(), ha.sub ⟨rfl, rfl, rfl, rfl, rfl, rfl, (by rw [hc115]; rfl), trivial⟩, rfl⟩
                · refine V_gn rfl rfl rfl hc115 rfl rfl rfl ?_
                  refine V_gn rfl rfl rfl hc115 rfl rfl rfl ?_
                  refine V_gn rfl rfl rfl hc115 rfl rfl rfl ?_
                  refine V_gn rfl rfl rfl hc115 rfl rfl rfl ?_
                  refine V_gn rfl rfl rfl hc115 rfl rfl rfl ?_
                  refine V_gn rfl rfl rfl hc115 rfl rfl rfl ?_
                  refine V_gn rfl rfl rfl hc115 rfl rfl rfl ?_
                  refine V_gu rfl rfl rfl rfl rfl ?_
                  refine V_gu rfl rfl rfl rfl rfl ?_
                  refine V_gu rfl rfl rfl rfl rfl ?_
                  refine V_gn rfl rfl rfl hc115 rfl rfl rfl ?_
                  refine V_y (Y_pick_fe rfl hc115 rfl) rfl rfl rfl ?_
                  exact V_end fun a ha => ⟨(), ha.sub ⟨rfl, rfl, rfl, rfl, rfl, rfl, (by rw [hc115]; rfl), trivial⟩, rfl⟩
              simp only [List.take, List.drop]
              rintro _ _ rfl
              refine V_as rfl rfl ?_
              refine V_to (fun _ _ => rfl) ?_
              obtain ⟨s125, ho124, h71⟩ := Option.bind_eq_some_iff.1 h71
              refine C_cutG (ι := Unit) (fun (_ : Unit) => [(1, .pointer (some ⟨b3, 0, none⟩)), (3, .int .i64 (k60 : Int)), (4, .pointer (some ⟨b84, 0, none⟩)), (79, v54), (80, .int .i64 (c.pieces.length : Int)), (81, .int .i64 (k60 : Int)), (126, .bool s125)]) (fun (_ : Unit) => fun w' => w87 = w') ?_ ?_
              · refine C_cond rfl (fun hc130 => ?_) (fun hc130 => ?_)
                · rw [if_pos hc130] at ho124
                  obtain rfl := Option.some.inj ho124
                  refine C_skip (fun a ha131 => ?_)
                  exact ⟨(), ha131.sub ⟨rfl, rfl, rfl, rfl, rfl, rfl, rfl, trivial⟩, rfl⟩
                · rw [if_neg (nt hc130)] at ho124
                  refine C_region ?_
                  have h132 := El_level_Clock_4 h6
                  refine V_y (Y_fieldAddr Tryz.underlying39 rfl Tryz.sizeOf3 (by decide) rfl) rfl rfl rfl ?_
                  refine V_y (Y_load (El.int h132) Tryz.isAgg3 rfl) rfl rfl rfl ?_
                  refine V_y (Y_neq rfl rfl) rfl rfl rfl ?_
                  refine V_mv rfl rfl ?_
                  refine V_cut 6 (fun _ : Unit => [(1, .pointer (some ⟨b3, 0, none⟩)), (3, .int .i64 (k60 : Int)), (4, .pointer (some ⟨b84, 0, none⟩)), (79, v54), (80, .int .i64 (c.pieces.length : Int)), (81, .int .i64 (k60 : Int)), (152, .bool ((c.stop != (-1)) && (decide (c.stop < x79.to_))))]) (fun _ w' => w87 = w') ?_ ?_
                  · simp only [List.take, List.drop]
                    rcases Bool.eq_false_or_eq_true (c.stop != (-1)) with hc133 | hc133
                    · refine V_ge rfl rfl rfl hc133 ?_
                      have h135 := El_level_Piece_1 h89
                      refine V_y (Y_fieldAddr Tryz.underlying70 rfl Tryz.sizeOf3 (by decide) rfl) rfl rfl rfl ?_
                      refine V_ge rfl rfl rfl hc133 ?_
                      refine V_y (Y_load (El.int h135) Tryz.isAgg3 rfl) rfl rfl rfl ?_
                      refine V_ge rfl rfl rfl hc133 ?_
                      have h136 := El_level_Clock_4 h6
                      refine V_y (Y_fieldAddr Tryz.underlying39 rfl Tryz.sizeOf3 (by decide) rfl) rfl rfl rfl ?_
                      refine V_ge rfl rfl rfl hc133 ?_
                      refine V_y (Y_load (El.int h136) Tryz.isAgg3 rfl) rfl rfl rfl ?_
                      refine V_ge rfl rfl rfl hc133 ?_
                      refine V_y (Y_gtr rfl rfl) rfl rfl rfl ?_
                      refine V_y (Y_pick_te rfl hc133 rfl) rfl rfl rfl ?_
                      exact V_end fun a ha => ⟨(), ha.sub ⟨rfl, rfl, rfl, rfl, rfl, rfl, (by rw [hc133]; rfl), trivial⟩, rfl⟩
                    · refine V_gn rfl rfl rfl hc133 rfl rfl rfl ?_
                      refine V_gn rfl rfl rfl hc133 rfl rfl rfl ?_
                      refine V_gn rfl rfl rfl hc133 rfl rfl rfl ?_
                      refine V_gn rfl rfl rfl hc133 rfl rfl rfl ?_
                      refine V_gn rfl rfl rfl hc133 rfl rfl rfl ?_
                      refine V_y (Y_pick_fe rfl hc133 rfl) rfl rfl rfl ?_
                      exact V_end fun a ha => ⟨(), ha.sub ⟨rfl, rfl, rfl, rfl, rfl, rfl, (by rw [hc133]; rfl), trivial⟩, rfl⟩
                  simp only [List.take, List.drop]
                  rintro _ _ rfl
                  refine V_as rfl rfl ?_
                  obtain rfl := Option.some.inj ho124
                  refine V_end (fun a ha137 => ?_)
                  exact ⟨(), ha137.sub ⟨rfl, rfl, rfl, rfl, rfl, rfl, rfl, trivial⟩, rfl⟩
              rintro _ _ rfl a ha129
              refine C_at (n := ⟨169, [], none⟩) (fun _ _ => rfl) ?_ ha129
              refine C_cond rfl (fun hc138 => ?_) (fun hc138 => ?_)
              · rw [if_pos hc138] at h71
                refine C_seq ?_
                refine C_region ?_
                refine V_as rfl rfl ?_
                refine V_to (fun _ _ => rfl) ?_
                obtain rfl := Option.some.inj h71
                obtain rfl := (h72 : Lp.rt _ = _)
                rw [Lp.andThen_rt] at hm
                obtain rfl := Option.some.inj hm
                refine C_ret ?_
                try simp only [↓inBlock_ret, ↓then_ret]
                exact retQ rfl (Res.one Tryz.results41 rfl) ⟨rfl, hK.kp⟩
              · rw [if_neg (nt hc138)] at h71
                refine C_seq ?_
                refine C_region_q (Dw := Dw) Tryz_mixed (by kernel_rfl) ?_
                refine VQ_y (fun w' hw' => Y_move rfl) rfl rfl rfl ?_
                refine VQ_y (fun w' hw' => Y_gtr rfl rfl) rfl rfl rfl ?_
                refine VQ_y (fun w' hw' => Y_move rfl) rfl rfl rfl ?_
                obtain ⟨s140, hs140, h71⟩ := Option.bind_eq_some_iff.1 h71
                refine VQ_cut 11 (fun _ : Unit => [(1, .pointer (some ⟨b3, 0, none⟩)), (79, v54), (80, .int .i64 (c.pieces.length : Int)), (81, .int .i64 (k60 : Int)), (167, .bool s140)]) (fun _ => True) ?_ ?_
                · simp only [List.take, List.drop]
                  rcases Bool.eq_false_or_eq_true (decide ((0 : Int) < (k60 : Int))) with hc139 | hc139
                  · rw [if_pos hc139] at hs140
                    refine VQ_ge rfl rfl rfl hc139 ?_
                    have h141 := El_level_Piece_0 h89
                    refine VQ_y (fun w' hw' => Y_fieldAddr Tryz.underlying70 rfl Tryz.sizeOf3 (by decide) rfl) rfl rfl rfl ?_
                    refine VQ_ge rfl rfl rfl hc139 ?_
                    refine VQ_y (fun w' hw' => Y_load (El.int (El.kp (Dw := Dw) h141 hw')) Tryz.isAgg3 rfl) rfl rfl rfl ?_
                    refine VQ_ge rfl rfl rfl hc139 ?_
                    have h142 := El_level_Clock_6 h6
                    refine VQ_y (fun w' hw' => Y_fieldAddr Tryz.underlying39 rfl Tryz.sizeOf37 (by decide) rfl) rfl rfl rfl ?_
                    refine VQ_ge rfl rfl rfl hc139 ?_
                    obtain ⟨v143, h144, h145⟩ := El.list h142
                    refine VQ_y (fun w' hw' => Y_load ((World.cell?_of_block (hw'.block _ (World.block_lt_of_cell? _ _ h144))).trans h144) Tryz.isAgg37 rfl) rfl rfl rfl ?_
                    refine VQ_ge rfl rfl rfl hc139 ?_
                    refine VQ_y (fun w' hw' => Y_move rfl) rfl rfl rfl ?_
                    refine VQ_ge rfl rfl rfl hc139 ?_
                    refine VQ_y (fun w' hw' => Y_subI rfl rfl) rfl rfl rfl ?_
                    refine VQ_ge rfl rfl rfl hc139 ?_
                    obtain ⟨x146, hx146, hs140⟩ := Option.bind_eq_some_iff.1 hs140
                    refine VQ_indexAddr h145 hx146 Tryz.underlying37 Tryz.sizeOf70 rfl rfl rfl ?_
                    intro b147 o148 h149
                    refine VQ_ge rfl rfl rfl hc139 ?_
                    have h150 := El_level_Piece_1 h149
                    refine VQ_y (fun w' hw' => Y_fieldAddr Tryz.underlying70 rfl Tryz.sizeOf3 (by decide) rfl) rfl rfl rfl ?_
                    refine VQ_ge rfl rfl rfl hc139 ?_
                    refine VQ_y (fun w' hw' => Y_load (El.int (El.kp (Dw := Dw) h150 hw')) Tryz.isAgg3 rfl) rfl rfl rfl ?_
                    refine VQ_ge rfl rfl rfl hc139 ?_
                    refine VQ_y (fun w' hw' => Y_lss rfl rfl) rfl rfl rfl ?_
                    refine VQ_y (fun _ _ => Y_pick_te rfl hc139 rfl) rfl rfl rfl ?_
                    obtain rfl := Option.some.inj hs140
                    exact VQ_end fun a ha => ⟨(), ha.sub ⟨rfl, rfl, rfl, rfl, rfl, trivial⟩, trivial⟩
                  · rw [if_neg (nt hc139)] at hs140
                    refine VQ_gn rfl rfl rfl hc139 rfl rfl rfl ?_
                    refine VQ_gn rfl rfl rfl hc139 rfl rfl rfl ?_
                    refine VQ_gn rfl rfl rfl hc139 rfl rfl rfl ?_
                    refine VQ_gn rfl rfl rfl hc139 rfl rfl rfl ?_
                    refine VQ_gn rfl rfl rfl hc139 rfl rfl rfl ?_
                    refine VQ_gn rfl rfl rfl hc139 rfl rfl rfl ?_
                    refine VQ_gn rfl rfl rfl hc139 rfl rfl rfl ?_
                    refine VQ_gn rfl rfl rfl hc139 rfl rfl rfl ?_
                    refine VQ_gn rfl rfl rfl hc139 rfl rfl rfl ?_
                    refine VQ_gn rfl rfl rfl hc139 rfl rfl rfl ?_
                    refine VQ_y (fun _ _ => Y_pick_fe rfl hc139 rfl) rfl rfl rfl ?_
                    obtain rfl := Option.some.inj hs140
                    exact VQ_end fun a ha => ⟨(), ha.sub ⟨rfl, rfl, rfl, rfl, rfl, trivial⟩, trivial⟩
                simp only [List.take, List.drop]
                rintro _ _
                refine VQ_y (fun w' hw' => Y_assign rfl) rfl rfl rfl ?_
                refine VQ_to (fun _ _ => rfl) (fun w151 hk152 => ?_)
                have ht153 := Kp.tr hk152 hA hB
                replace hH := Hp.kp hH hk152
                replace h6 := El.tr h6 ht153
                replace h56 := Sl.tr h56 ht153
                replace hK := Tr.trans hK ht153
                replace hr59 := Tr.trans hr59 ht153
                replace hB := Nat.le_trans hB ht153.ex.size
                replace hA := ht153.new
                refine C_cond rfl (fun hc154 => ?_) (fun hc154 => ?_)
                · rw [if_pos hc154] at h71
                  refine C_seq ?_
                  refine C_region ?_
                  refine V_as rfl rfl ?_
                  refine V_to (fun _ _ => rfl) ?_
                  obtain rfl := Option.some.inj h71
                  obtain rfl := (h72 : Lp.rt _ = _)
                  rw [Lp.andThen_rt] at hm
                  obtain rfl := Option.some.inj hm
                  refine C_ret ?_
                  try simp only [↓inBlock_ret, ↓then_ret]
                  exact retQ rfl (Res.one Tryz.results41 rfl) ⟨rfl, hK.kp⟩
                · rw [if_neg (nt hc154)] at h71
                  refine C_skip_to (fun _ _ => rfl) ?_
                  refine C_region ?_
                  refine V_y (Y_addI rfl rfl) rfl rfl rfl ?_
                  refine V_mv rfl rfl ?_
                  obtain rfl := Option.some.inj h71
                  refine V_end (fun a ha155 => ?_)
                  exact ⟨(), hlt74, h72, ⟨A68, ha155.sub ⟨rfl, rfl, rfl, (congrArg (fun z => some (Value.int .i64 z)) (w64_succ hlt74 hn77)), trivial⟩, ⟨hH, hr59⟩⟩⟩
          · refine C_exit (fun a ha156 => ?_)
            exact ⟨((), A68), ha156.sub trivial, ⟨(h75 (eq_of_dec hle73 hc78)).symm, hH, hr59⟩⟩
        rintro ⟨s58, A64⟩ w61 ⟨rfl, hH65, hk62⟩ a ha63
        rw [Lp.andThen_fin] at hm
        replace hK := Tr.trans hK hk62
        replace hB := Nat.le_trans hB hk62.ex.size
        replace hA := hk62.new
        replace hH : Hp w.heap.size A64 w61 ([]) := hH65
        refine C_at (n := ⟨169, [], none⟩) (fun _ _ => rfl) ?_ ha63
        refine C_seq ?_
        refine C_region ?_
        refine V_as rfl rfl ?_
        refine V_to (fun _ _ => rfl) ?_
        obtain rfl := Option.some.inj hm
        refine C_ret ?_
        try simp only [↓inBlock_ret, ↓then_ret]
        exact retQ rfl (Res.one Tryz.results41 rfl) ⟨rfl, hK.kp⟩

set_option maxRecDepth 4000 in
set_option maxHeartbeats 4000000 in
theorem portref2_ZoneFault_1_c (w : World) (n : Int) : Ret Tryz.prog 99 #[.int .i64 n] w fun v w' => v = .bool (portref2_ZoneFault_1 n) ∧ w = w' := by
  generalize hm : portref2_ZoneFault_1 n = r
  unfold portref2_ZoneFault_1 at hm
  refine enter Tryz.func99 rfl Tryz.ntmps99 rfl ?_
  refine C_seq ?_
  refine C_region ?_
  refine V_as rfl rfl ?_
  refine V_to (fun _ _ => rfl) ?_
  refine C_seq ?_
  refine C_region ?_
  refine V_mv rfl rfl ?_
  refine V_y (Y_lss rfl rfl) rfl rfl rfl ?_
  refine V_mv rfl rfl ?_
  refine V_cut 3 (fun _ : Unit => [(8, .bool ((decide (n < (-1440))) || (decide ((1440 : Int) < n))))]) (fun _ w' => w = w') ?_ ?_
  · simp only [List.take, List.drop]
    rcases Bool.eq_false_or_eq_true (decide (n < (-1440))) with hc1 | hc1
    · refine V_gn rfl rfl rfl hc1 rfl rfl rfl ?_
      refine V_gn rfl rfl rfl hc1 rfl rfl rfl ?_
      refine V_y (Y_pick_te rfl hc1 rfl) rfl rfl rfl ?_
      exact V_end fun a ha => ⟨(), ha.sub ⟨(by rw [hc1]; rfl), trivial⟩, rfl⟩
    · refine V_ge rfl rfl rfl hc1 ?_
      refine V_mv rfl rfl ?_
      refine V_ge rfl rfl rfl hc1 ?_
      refine V_y (Y_gtr rfl rfl) rfl rfl rfl ?_
      refine V_y (Y_pick_fe rfl hc1 rfl) rfl rfl rfl ?_
      exact V_end fun a ha => ⟨(), ha.sub ⟨(by rw [hc1]; rfl), trivial⟩, rfl⟩
  simp only [List.take, List.drop]
  rintro _ _ rfl
  refine V_as rfl rfl ?_
  refine V_to (fun _ _ => rfl) ?_
  obtain rfl := hm
  refine C_ret ?_
  try simp only [↓inBlock_ret, ↓then_ret]
  exact retQ rfl (Res.one Tryz.results99 rfl) ⟨rfl, rfl⟩

set_option maxRecDepth 4000 in
set_option maxHeartbeats 4000000 in
theorem portref2_ZoneFault_c (w : World) {A : Nat → Prop} (hA : ∀ b, w.heap.size ≤ b → A b) (z : cal_Zone) (v_z : Value) (h_z : Sl A w v_z z.changes) {r : Int} (hm : portref2_ZoneFault z = some r) : Ret Tryz.prog 86 #[.agg #[.int .i64 z.offset, v_z]] w fun v w' => v = .int .i64 r ∧ Kp Dw w w' := by
  unfold portref2_ZoneFault at hm
  refine enter Tryz.func86 rfl Tryz.ntmps86 rfl ?_
  have hA0 := hA
  have hB := Nat.le_refl w.heap.size
  have hK : Tr Dw w.heap.size A w A w := Tr.refl (Dw := Dw) hA
  have hH : Hp w.heap.size A w [] := Hp.nil
  refine C_seq ?_
  refine C_region ?_
  refine V_box rfl rfl ?_
  intro b3 w4 h5
  have hk7 := h5.kp (Dw := Dw)
  have h6 : El (α := cal_Zone) A w4 b3 0 z := h5.el hA ⟨[.int .i64 z.offset], _, rfl, rfl, ⟨_, rfl, h_z⟩⟩
  have ht8 := Kp.tr hk7 hA hB
  replace hH := Hp.kp hH hk7
  replace h_z := Sl.tr h_z ht8
  replace hK := Tr.trans hK ht8
  replace hB := Nat.le_trans hB ht8.ex.size
  replace hA := ht8.new
  refine V_as rfl rfl ?_
  refine V_to (fun _ _ => rfl) ?_
  refine C_seq ?_
  refine C_region ?_
  refine V_as rfl rfl ?_
  refine V_to (fun _ _ => rfl) ?_
  refine C_seq ?_
  refine C_seq ?_
  refine C_region ?_
  refine V_mv rfl rfl ?_
  have h9 := El_cal_Zone_0 h6
  refine V_y (Y_fieldAddr Tryz.underlying62 rfl Tryz.sizeOf3 (by decide) rfl) rfl rfl rfl ?_
  refine V_y (Y_load (El.int h9) Tryz.isAgg3 rfl) rfl rfl rfl ?_
  refine V_call Tryz.call99 rfl rfl rfl rfl (portref2_ZoneFault_1_c w4 z.offset) ?_
  rintro _ _ ⟨rfl, rfl⟩
  refine V_to (fun _ _ => rfl) ?_
  refine C_cond rfl (fun hc10 => ?_) (fun hc10 => ?_)
  · rw [if_pos hc10] at hm
    refine C_seq ?_
    refine C_region ?_
    refine V_as rfl rfl ?_
    refine V_to (fun _ _ => rfl) ?_
    obtain rfl := Option.some.inj hm
    refine C_ret ?_
    try simp only [↓inBlock_ret, ↓then_ret]
    exact retQ rfl (Res.one Tryz.results86 rfl) ⟨rfl, hK.kp⟩
  · rw [if_neg (nt hc10)] at hm
    refine C_skip_to (fun _ _ => rfl) ?_
    refine C_seq ?_
    refine C_seq ?_
    refine C_region ?_
    have h11 := El_cal_Zone_1 h6
    refine V_y (Y_fieldAddr Tryz.underlying62 rfl Tryz.sizeOf60 (by decide) rfl) rfl rfl rfl ?_
    obtain ⟨v12, h13, h14⟩ := El.list h11
    refine V_y (Y_load h13 Tryz.isAgg60 rfl) rfl rfl rfl ?_
    refine V_y (Y_lenSl h14 rfl Tryz.underlying60 rfl) rfl rfl rfl ?_
    refine V_y (Y_gtr rfl rfl) rfl rfl rfl ?_
    refine V_to (fun _ _ => rfl) ?_
    refine C_cond rfl (fun hc15 => ?_) (fun hc15 => ?_)
    · rw [if_pos hc15] at hm
      refine C_seq ?_
      refine C_region ?_
      refine V_as rfl rfl ?_
      refine V_to (fun _ _ => rfl) ?_
      obtain rfl := Option.some.inj hm
      refine C_ret ?_
      try simp only [↓inBlock_ret, ↓then_ret]
      exact retQ rfl (Res.one Tryz.results86 rfl) ⟨rfl, hK.kp⟩
    · rw [if_neg (nt hc15)] at hm
      refine C_skip_to (fun _ _ => rfl) ?_
      refine C_seq ?_
      refine C_region ?_
      have h16 := El_cal_Zone_0 h6
      refine V_y (Y_fieldAddr Tryz.underlying62 rfl Tryz.sizeOf3 (by decide) rfl) rfl rfl rfl ?_
      refine V_y (Y_load (El.int h16) Tryz.isAgg3 rfl) rfl rfl rfl ?_
      refine V_as rfl rfl ?_
      refine V_to (fun _ _ => rfl) ?_
      refine C_seq ?_
      refine C_seq ?_
      refine C_region ?_
      have h17 := El_cal_Zone_1 h6
      refine V_y (Y_fieldAddr Tryz.underlying62 rfl Tryz.sizeOf60 (by decide) rfl) rfl rfl rfl ?_
      obtain ⟨v18, h19, h20⟩ := El.list h17
      refine V_y (Y_load h19 Tryz.isAgg60 rfl) rfl rfl rfl ?_
      refine V_y (Y_lenSl h20 rfl Tryz.underlying60 rfl) rfl rfl rfl ?_
      refine V_mv rfl rfl ?_
      refine V_to (fun _ _ => rfl) ?_
      have hn41 := Sl.le h20
      obtain ⟨o21, ho21, hm⟩ := Option.bind_eq_some_iff.1 hm
      refine C_cutG (ι := (Int × (Nat → Prop))) (fun ⟨s22, A28⟩ => []) (fun ⟨s22, A28⟩ => fun w' => o21 = .fin s22 ∧ Hp w.heap.size A28 w' ([]) ∧ Tr Dw w.heap.size A w4 A28 w') ?_ ?_
      · refine C_block ?_
        refine C_range ho21 (fun k24 s30 a w' => ∃ i : (Nat → Prop), Has ⟨63, [], none⟩ a ([(1, .pointer (some ⟨b3, 0, none⟩)), (3, .func (.func 99) #[] #[]), (4, .int .i64 s30), (18, v18), (19, .int .i64 (z.changes.length : Int)), (20, .int .i64 (k24 : Int))]) ∧ Hp w.heap.size i w' ([]) ∧ Tr Dw w.heap.size A w4 i w') (fun a ha => ⟨A, ha.sub ⟨rfl, rfl, rfl, rfl, rfl, rfl, trivial⟩, ⟨hH, Tr.refl (Dw := Dw) hA⟩⟩) ?_
        rintro K k24 s30 a w31 ⟨A32, ha97, hH33, hr23⟩ hle37 K40 h39
        refine C_of ?_ ha97
        replace h6 := El.tr h6 hr23
        replace h20 := Sl.tr h20 hr23
        replace hK := Tr.trans hK hr23
        replace hB := Nat.le_trans hB hr23.ex.size
        replace hA := hr23.new
        replace hH : Hp w.heap.size A32 w31 ([]) := hH33
        refine C_seq (C_region (V_y (Y_lss rfl rfl) rfl rfl rfl (V_to (fun _ _ => rfl) ?_)))
        refine C_seq ?_
        refine C_cond rfl (fun hc42 => ?_) (fun hc42 => ?_)
        · have hlt38 := lt_of_dec hc42
          obtain ⟨x34, h35, h36⟩ := K40 hlt38
          refine C_skip_to (fun _ _ => rfl) ?_
          refine C_seq ?_
          refine C_block ?_
          refine C_seq ?_
          refine C_region ?_
          refine V_mv rfl rfl ?_
          obtain ⟨x43, hx43, h35⟩ := Option.bind_eq_some_iff.1 h35
          refine V_indexAddr h20 hx43 Tryz.underlying60 Tryz.sizeOf116 rfl rfl rfl ?_
          intro b44 o45 h46
          obtain ⟨h47, _⟩ := El_cal_Change h46
          refine V_y (Y_loadA h47 Tryz.isAgg116 Tryz.sizeOf116 rfl) rfl rfl rfl ?_
          refine V_alloc Tryz.zeroValue116 rfl ?_
          intro b48 w49 h50
          refine V_as rfl rfl ?_
          refine V_storeNew h50 Tryz.sizeOf116 rfl rfl rfl rfl (by exact (List.forall_mem_cons.2 ⟨rfl, (List.forall_mem_cons.2 ⟨rfl, (fun _ h => nomatch h)⟩)⟩)) ?_
          intro w51 h52
          have hk54 := h52.kp (Dw := Dw)
          have h53 : El (α := cal_Change) A32 w51 b48 0 x43 := h52.el hA ⟨[.int .i64 x43.at_], _, rfl, rfl, rfl⟩
          have ht55 := Kp.tr hk54 hA hB
          replace hH := Hp.kp hH hk54
          replace h6 := El.tr h6 ht55
          replace h20 := Sl.tr h20 ht55
          replace h46 := El.tr h46 ht55
          replace hK := Tr.trans hK ht55
          replace hr23 := Tr.trans hr23 ht55
          replace hB := Nat.le_trans hB ht55.ex.size
          replace hA := ht55.new
          refine V_to (fun _ _ => rfl) ?_
          refine C_seq ?_
          refine C_block ?_
          refine C_seq ?_
          obtain ⟨s57, ho56, h35⟩ := Option.bind_eq_some_iff.1 h35
          refine C_cutG (ι := (Nat → Prop)) (fun (A62 : (Nat → Prop)) => [(1, .pointer (some ⟨b3, 0, none⟩)), (3, .func (.func 99) #[] #[]), (4, .int .i64 s30), (5, .int .i64 (k24 : Int)), (6, .pointer (some ⟨b48, 0, none⟩)), (18, v18), (19, .int .i64 (z.changes.length : Int)), (20, .int .i64 (k24 : Int)), (25, .bool s57)]) (fun (A62 : (Nat → Prop)) => fun w' => Hp w.heap.size A62 w' ([]) ∧ Tr Dw w.heap.size A32 w51 A62 w') ?_ ?_
          · have hr58 : Tr Dw w.heap.size A32 w51 A32 w51 := Tr.refl (Dw := Dw) hA
            refine C_region ?_
            have h64 := El_cal_Change_0 h53
            refine V_y (Y_fieldAddr Tryz.underlying116 rfl Tryz.sizeOf3 (by decide) rfl) rfl rfl rfl ?_
            refine V_y (Y_load (El.int h64) Tryz.isAgg3 rfl) rfl rfl rfl ?_
            refine V_y (Y_lss rfl rfl) rfl rfl rfl ?_
            refine V_mv rfl rfl ?_
            rcases Bool.eq_false_or_eq_true (decide (x43.at_ < 1)) with hc65 | hc65
            · rw [if_pos hc65] at ho56
              refine V_gn rfl rfl rfl hc65 rfl rfl rfl ?_
              refine V_gn rfl rfl rfl hc65 rfl rfl rfl ?_
              refine V_gn rfl rfl rfl hc65 rfl rfl rfl ?_
              refine V_y (Y_pick_te rfl hc65 rfl) rfl rfl rfl ?_
              refine V_mv rfl rfl ?_
              rcases Bool.eq_false_or_eq_true (true) with hc66 | hc66
              · rw [if_pos hc66] at ho56
                refine V_gn rfl rfl rfl hc66 rfl rfl rfl ?_
                refine V_gn rfl rfl rfl hc66 rfl rfl rfl ?_
                refine V_gn rfl rfl rfl hc66 rfl rfl rfl ?_
                refine V_gn rfl rfl rfl hc66 rfl rfl rfl ?_
                refine V_y (Y_pick_te rfl hc66 rfl) rfl rfl rfl ?_
                refine V_as rfl rfl ?_
                obtain rfl := Option.some.inj ho56
                refine V_end (fun a ha67 => ?_)
                exact ⟨A32, ha67.sub ⟨rfl, rfl, rfl, rfl, rfl, rfl, rfl, rfl, rfl, trivial⟩, ⟨hH, hr58⟩⟩
              · rw [if_neg (nt hc66)] at ho56
                refine V_ge rfl rfl rfl hc66 ?_
                refine V_mv rfl rfl ?_
                refine V_ge rfl rfl rfl hc66 ?_
                have h68 := El_cal_Change_1 h53
                refine V_y (Y_fieldAddr Tryz.underlying116 rfl Tryz.sizeOf3 (by decide) rfl) rfl rfl rfl ?_
                refine V_ge rfl rfl rfl hc66 ?_
                refine V_y (Y_load (El.int h68) Tryz.isAgg3 rfl) rfl rfl rfl ?_
                refine V_ge rfl rfl rfl hc66 ?_
                refine V_call Tryz.call99 rfl rfl rfl rfl (portref2_ZoneFault_1_c w51 x43.offset) ?_
                rintro _ _ ⟨rfl, rfl⟩
                refine V_y (Y_pick_fe rfl hc66 rfl) rfl rfl rfl ?_
                refine V_as rfl rfl ?_
                obtain rfl := Option.some.inj ho56
                refine V_end (fun a ha69 => ?_)
                exact ⟨A32, ha69.sub ⟨rfl, rfl, rfl, rfl, rfl, rfl, rfl, rfl, rfl, trivial⟩, ⟨hH, hr58⟩⟩
            · rw [if_neg (nt hc65)] at ho56
              refine V_ge rfl rfl rfl hc65 ?_
              have h70 := El_cal_Change_0 h53
              refine V_y (Y_fieldAddr Tryz.underlying116 rfl Tryz.sizeOf3 (by decide) rfl) rfl rfl rfl ?_
              refine V_ge rfl rfl rfl hc65 ?_
              refine V_y (Y_load (El.int h70) Tryz.isAgg3 rfl) rfl rfl rfl ?_
              refine V_ge rfl rfl rfl hc65 ?_
              refine V_y (Y_gtr rfl rfl) rfl rfl rfl ?_
              refine V_y (Y_pick_fe rfl hc65 rfl) rfl rfl rfl ?_
              refine V_mv rfl rfl ?_
              rcases Bool.eq_false_or_eq_true (decide ((3000000 : Int) < x43.at_)) with hc71 | hc71
              · rw [if_pos hc71] at ho56
                refine V_gn rfl rfl rfl hc71 rfl rfl rfl ?_
                refine V_gn rfl rfl rfl hc71 rfl rfl rfl ?_
                refine V_gn rfl rfl rfl hc71 rfl rfl rfl ?_
                refine V_gn rfl rfl rfl hc71 rfl rfl rfl ?_
                refine V_y (Y_pick_te rfl hc71 rfl) rfl rfl rfl ?_
                refine V_as rfl rfl ?_
                obtain rfl := Option.some.inj ho56
                refine V_end (fun a ha72 => ?_)
                exact ⟨A32, ha72.sub ⟨rfl, rfl, rfl, rfl, rfl, rfl, rfl, rfl, rfl, trivial⟩, ⟨hH, hr58⟩⟩
              · rw [if_neg (nt hc71)] at ho56
                refine V_ge rfl rfl rfl hc71 ?_
                refine V_mv rfl rfl ?_
                refine V_ge rfl rfl rfl hc71 ?_
                have h73 := El_cal_Change_1 h53
                refine V_y (Y_fieldAddr Tryz.underlying116 rfl Tryz.sizeOf3 (by decide) rfl) rfl rfl rfl ?_
                refine V_ge rfl rfl rfl hc71 ?_
                refine V_y (Y_load (El.int h73) Tryz.isAgg3 rfl) rfl rfl rfl ?_
                refine V_ge rfl rfl rfl hc71 ?_
                refine V_call Tryz.call99 rfl rfl rfl rfl (portref2_ZoneFault_1_c w51 x43.offset) ?_
                rintro _ _ ⟨rfl, rfl⟩
                refine V_y (Y_pick_fe rfl hc71 rfl) rfl rfl rfl ?_
                refine V_as rfl rfl ?_
                obtain rfl := Option.some.inj ho56
                refine V_end (fun a ha74 => ?_)
                exact ⟨A32, ha74.sub ⟨rfl, rfl, rfl, rfl, rfl, rfl, rfl, rfl, rfl, trivial⟩, ⟨hH, hr58⟩⟩
          rintro A62 w59 ⟨hH63, hk60⟩ a ha61
          replace h6 := El.tr h6 hk60
          replace h20 := Sl.tr h20 hk60
          replace h53 := El.tr h53 hk60
          replace hK := Tr.trans hK hk60
          replace hr23 := Tr.trans hr23 hk60
          replace hB := Nat.le_trans hB hk60.ex.size
          replace hA := hk60.new
          replace hH : Hp w.heap.size A62 w59 ([]) := hH63
          refine C_at (n := ⟨63, [], none⟩) (fun _ _ => rfl) ?_ ha61
          refine C_cond rfl (fun hc75 => ?_) (fun hc75 => ?_)
          · rw [if_pos hc75] at h35
            refine C_seq ?_
            refine C_region ?_
            refine V_as rfl rfl ?_
            refine V_to (fun _ _ => rfl) ?_
            obtain rfl := Option.some.inj h35
            obtain rfl := (h36 : Lp.rt _ = _)
            rw [Lp.andThen_rt] at hm
            obtain rfl := Option.some.inj hm
            refine C_ret ?_
            try simp only [↓inBlock_ret, ↓then_ret]
            exact retQ rfl (Res.one Tryz.results86 rfl) ⟨rfl, hK.kp⟩
          · rw [if_neg (nt hc75)] at h35
            refine C_seq ?_
            refine C_region_q (Dw := Dw) Tryz_mixed (by kernel_rfl) ?_
            refine VQ_y (fun w' hw' => Y_move rfl) rfl rfl rfl ?_
            refine VQ_y (fun w' hw' => Y_gtr rfl rfl) rfl rfl rfl ?_
            refine VQ_y (fun w' hw' => Y_move rfl) rfl rfl rfl ?_
            obtain ⟨s77, hs77, h35⟩ := Option.bind_eq_some_iff.1 h35
            refine VQ_cut 11 (fun _ : Unit => [(1, .pointer (some ⟨b3, 0, none⟩)), (3, .func (.func 99) #[] #[]), (4, .int .i64 s30), (6, .pointer (some ⟨b48, 0, none⟩)), (18, v18), (19, .int .i64 (z.changes.length : Int)), (20, .int .i64 (k24 : Int)), (54, .bool s77)]) (fun _ => True) ?_ ?_
            · simp only [List.take, List.drop]
              rcases Bool.eq_false_or_eq_true (decide ((0 : Int) < (k24 : Int))) with hc76 | hc76
              · rw [if_pos hc76] at hs77
                refine VQ_ge rfl rfl rfl hc76 ?_
                have h78 := El_cal_Change_0 h53
                refine VQ_y (fun w' hw' => Y_fieldAddr Tryz.underlying116 rfl Tryz.sizeOf3 (by decide) rfl) rfl rfl rfl ?_
                refine VQ_ge rfl rfl rfl hc76 ?_
                refine VQ_y (fun w' hw' => Y_load (El.int (El.kp (Dw := Dw) h78 hw')) Tryz.isAgg3 rfl) rfl rfl rfl ?_
                refine VQ_ge rfl rfl rfl hc76 ?_
                have h79 := El_cal_Zone_1 h6
                refine VQ_y (fun w' hw' => Y_fieldAddr Tryz.underlying62 rfl Tryz.sizeOf60 (by decide) rfl) rfl rfl rfl ?_
                refine VQ_ge rfl rfl rfl hc76 ?_
                obtain ⟨v80, h81, h82⟩ := El.list h79
                refine VQ_y (fun w' hw' => Y_load ((World.cell?_of_block (hw'.block _ (World.block_lt_of_cell? _ _ h81))).trans h81) Tryz.isAgg60 rfl) rfl rfl rfl ?_
                refine VQ_ge rfl rfl rfl hc76 ?_
                refine VQ_y (fun w' hw' => Y_move rfl) rfl rfl rfl ?_
                refine VQ_ge rfl rfl rfl hc76 ?_
                refine VQ_y (fun w' hw' => Y_subI rfl rfl) rfl rfl rfl ?_
                refine VQ_ge rfl rfl rfl hc76 ?_
                obtain ⟨x83, hx83, hs77⟩ := Option.bind_eq_some_iff.1 hs77
                refine VQ_indexAddr h82 hx83 Tryz.underlying60 Tryz.sizeOf116 rfl rfl rfl ?_
                intro b84 o85 h86
                refine VQ_ge rfl rfl rfl hc76 ?_
                have h87 := El_cal_Change_0 h86
                refine VQ_y (fun w' hw' => Y_fieldAddr Tryz.underlying116 rfl Tryz.sizeOf3 (by decide) rfl) rfl rfl rfl ?_
                refine VQ_ge rfl rfl rfl hc76 ?_
                refine VQ_y (fun w' hw' => Y_load (El.int (El.kp (Dw := Dw) h87 hw')) Tryz.isAgg3 rfl) rfl rfl rfl ?_
                refine VQ_ge rfl rfl rfl hc76 ?_
                refine VQ_y (fun w' hw' => Y_leq rfl rfl) rfl rfl rfl ?_
                refine VQ_y (fun _ _ => Y_pick_te rfl hc76 rfl) rfl rfl rfl ?_
                obtain rfl := Option.some.inj hs77
                exact VQ_end fun a ha => ⟨(), ha.sub ⟨rfl, rfl, rfl, rfl, rfl, rfl, rfl, rfl, trivial⟩, trivial⟩
              · rw [if_neg (nt hc76)] at hs77
                refine VQ_gn rfl rfl rfl hc76 rfl rfl rfl ?_
                refine VQ_gn rfl rfl rfl hc76 rfl rfl rfl ?_
                refine VQ_gn rfl rfl rfl hc76 rfl rfl rfl ?_
                refine VQ_gn rfl rfl rfl hc76 rfl rfl rfl ?_
                refine VQ_gn rfl rfl rfl hc76 rfl rfl rfl ?_
                refine VQ_gn rfl rfl rfl hc76 rfl rfl rfl ?_
                refine VQ_gn rfl rfl rfl hc76 rfl rfl rfl ?_
                refine VQ_gn rfl rfl rfl hc76 rfl rfl rfl ?_
                refine VQ_gn rfl rfl rfl hc76 rfl rfl rfl ?_
                refine VQ_gn rfl rfl rfl hc76 rfl rfl rfl ?_
                refine VQ_y (fun _ _ => Y_pick_fe rfl hc76 rfl) rfl rfl rfl ?_
                obtain rfl := Option.some.inj hs77
                exact VQ_end fun a ha => ⟨(), ha.sub ⟨rfl, rfl, rfl, rfl, rfl, rfl, rfl, rfl, trivial⟩, trivial⟩
            simp only [List.take, List.drop]
            rintro _ _
            refine VQ_y (fun w' hw' => Y_assign rfl) rfl rfl rfl ?_
            refine VQ_to (fun _ _ => rfl) (fun w88 hk89 => ?_)
            have ht90 := Kp.tr hk89 hA hB
            replace hH := Hp.kp hH hk89
            replace h6 := El.tr h6 ht90
            replace h20 := Sl.tr h20 ht90
            replace h53 := El.tr h53 ht90
            replace hK := Tr.trans hK ht90
            replace hr23 := Tr.trans hr23 ht90
            replace hB := Nat.le_trans hB ht90.ex.size
            replace hA := ht90.new
            refine C_cond rfl (fun hc91 => ?_) (fun hc91 => ?_)
            · rw [if_pos hc91] at h35
              refine C_seq ?_
              refine C_region ?_
              refine V_as rfl rfl ?_
              refine V_to (fun _ _ => rfl) ?_
              obtain rfl := Option.some.inj h35
              obtain rfl := (h36 : Lp.rt _ = _)
              rw [Lp.andThen_rt] at hm
              obtain rfl := Option.some.inj hm
              refine C_ret ?_
              try simp only [↓inBlock_ret, ↓then_ret]
              exact retQ rfl (Res.one Tryz.results86 rfl) ⟨rfl, hK.kp⟩
            · rw [if_neg (nt hc91)] at h35
              refine C_seq ?_
              refine C_region ?_
              have h92 := El_cal_Change_1 h53
              refine V_y (Y_fieldAddr Tryz.underlying116 rfl Tryz.sizeOf3 (by decide) rfl) rfl rfl rfl ?_
              refine V_y (Y_load (El.int h92) Tryz.isAgg3 rfl) rfl rfl rfl ?_
              refine V_mv rfl rfl ?_
              refine V_y (Y_eql rfl rfl) rfl rfl rfl ?_
              refine V_as rfl rfl ?_
              refine V_to (fun _ _ => rfl) ?_
              refine C_cond rfl (fun hc93 => ?_) (fun hc93 => ?_)
              · rw [if_pos hc93] at h35
                refine C_seq ?_
                refine C_region ?_
                refine V_as rfl rfl ?_
                refine V_to (fun _ _ => rfl) ?_
                obtain rfl := Option.some.inj h35
                obtain rfl := (h36 : Lp.rt _ = _)
                rw [Lp.andThen_rt] at hm
                obtain rfl := Option.some.inj hm
                refine C_ret ?_
                try simp only [↓inBlock_ret, ↓then_ret]
                exact retQ rfl (Res.one Tryz.results86 rfl) ⟨rfl, hK.kp⟩
              · rw [if_neg (nt hc93)] at h35
                refine C_skip_to (fun _ _ => rfl) ?_
                refine C_region ?_
                have h94 := El_cal_Change_1 h53
                refine V_y (Y_fieldAddr Tryz.underlying116 rfl Tryz.sizeOf3 (by decide) rfl) rfl rfl rfl ?_
                refine V_y (Y_load (El.int h94) Tryz.isAgg3 rfl) rfl rfl rfl ?_
                refine V_as rfl rfl ?_
                refine V_to (fun _ _ => rfl) ?_
                refine C_region ?_
                refine V_y (Y_addI rfl rfl) rfl rfl rfl ?_
                refine V_mv rfl rfl ?_
                obtain rfl := Option.some.inj h35
                refine V_end (fun a ha95 => ?_)
                exact ⟨x43.offset, hlt38, h36, ⟨A62, ha95.sub ⟨rfl, rfl, rfl, rfl, rfl, (congrArg (fun z => some (Value.int .i64 z)) (w64_succ hlt38 hn41)), trivial⟩, ⟨hH, hr23⟩⟩⟩
        · refine C_exit (fun a ha96 => ?_)
          exact ⟨(s30, A32), ha96.sub trivial, ⟨(h39 (eq_of_dec hle37 hc42)).symm, hH, hr23⟩⟩
      rintro ⟨s22, A28⟩ w25 ⟨rfl, hH29, hk26⟩ a ha27
      rw [Lp.andThen_fin] at hm
      replace hK := Tr.trans hK hk26
      replace hB := Nat.le_trans hB hk26.ex.size
      replace hA := hk26.new
      replace hH : Hp w.heap.size A28 w25 ([]) := hH29
      refine C_at (n := ⟨63, [], none⟩) (fun _ _ => rfl) ?_ ha27
      refine C_seq ?_
      refine C_region ?_
      refine V_as rfl rfl ?_
      refine V_to (fun _ _ => rfl) ?_
      obtain rfl := Option.some.inj hm
      refine C_ret ?_
      try simp only [↓inBlock_ret, ↓then_ret]
      exact retQ rfl (Res.one Tryz.results86 rfl) ⟨rfl, hK.kp⟩

set_option maxRecDepth 4000 in
set_option maxHeartbeats 4000000 in
theorem portref2_shiftFault_c (w : World) {A : Nat → Prop} (hA : ∀ b, w.heap.size ≤ b → A b) (l : (List cal_Shift)) (v_l : Value) (h_l : Sl A w v_l l) (week : Bool) {r : Int} (hm : portref2_shiftFault l week = some r) : Ret Tryz.prog 87 #[v_l, .bool week] w fun v w' => v = .int .i64 r ∧ Kp Dw w w' := by
  unfold portref2_shiftFault at hm
  refine enter Tryz.func87 rfl Tryz.ntmps87 rfl ?_
  have hA0 := hA
  have hB := Nat.le_refl w.heap.size
  have hK : Tr Dw w.heap.size A w A w := Tr.refl (Dw := Dw) hA
  have hH : Hp w.heap.size A w [] := Hp.nil
  refine C_seq ?_
  refine C_region ?_
  refine V_as rfl rfl ?_
  refine V_to (fun _ _ => rfl) ?_
  refine C_seq ?_
  refine C_seq ?_
  refine C_region ?_
  refine V_mv rfl rfl ?_
  refine V_y (Y_lenSl h_l rfl Tryz.underlying63 rfl) rfl rfl rfl ?_
  refine V_mv rfl rfl ?_
  refine V_to (fun _ _ => rfl) ?_
  have hn23 := Sl.le h_l
  obtain ⟨o3, ho3, hm⟩ := Option.bind_eq_some_iff.1 hm
  refine C_cutG (ι := (Unit × (Nat → Prop))) (fun ⟨s4, A10⟩ => []) (fun ⟨s4, A10⟩ => fun w' => o3 = .fin s4 ∧ Hp w.heap.size A10 w' ([]) ∧ Tr Dw w.heap.size A w A10 w') ?_ ?_
  · refine C_block ?_
    refine C_range ho3 (fun k6 _ a w' => ∃ i : (Nat → Prop), Has ⟨81, [], none⟩ a ([(0, v_l), (1, .bool week), (8, v_l), (9, .int .i64 (l.length : Int)), (10, .int .i64 (k6 : Int))]) ∧ Hp w.heap.size i w' ([]) ∧ Tr Dw w.heap.size A w i w') (fun a ha => ⟨A, ha.sub ⟨rfl, rfl, rfl, rfl, rfl, trivial⟩, ⟨hH, Tr.refl (Dw := Dw) hA⟩⟩) ?_
    rintro K k6 _ a w13 ⟨A14, ha115, hH15, hr5⟩ hle19 K22 h21
    refine C_of ?_ ha115
    replace h_l := Sl.tr h_l hr5
    replace hK := Tr.trans hK hr5
    replace hB := Nat.le_trans hB hr5.ex.size
    replace hA := hr5.new
    replace hH : Hp w.heap.size A14 w13 ([]) := hH15
    refine C_seq (C_region (V_y (Y_lss rfl rfl) rfl rfl rfl (V_to (fun _ _ => rfl) ?_)))
    refine C_seq ?_
    refine C_cond rfl (fun hc24 => ?_) (fun hc24 => ?_)
    · have hlt20 := lt_of_dec hc24
      obtain ⟨x16, h17, h18⟩ := K22 hlt20
      refine C_skip_to (fun _ _ => rfl) ?_
      refine C_seq ?_
      obtain ⟨o25, ho25, h17⟩ := Option.bind_eq_some_iff.1 h17
      refine C_cutG (ι := (Unit × (Nat → Prop))) (fun ⟨s26, A31⟩ => [(0, v_l), (1, .bool week), (8, v_l), (9, .int .i64 (l.length : Int)), (10, .int .i64 (k6 : Int))]) (fun ⟨s26, A31⟩ => fun w' => o25 = .fin s26 ∧ Hp w.heap.size A31 w' ([]) ∧ Tr Dw w.heap.size A14 w13 A31 w') ?_ ?_
      · have hr27 : Tr Dw w.heap.size A14 w13 A14 w13 := Tr.refl (Dw := Dw) hA
        refine C_block ?_
        refine C_seq ?_
        refine C_region ?_
        refine V_mv rfl rfl ?_
        obtain ⟨x33, hx33, ho25⟩ := Option.bind_eq_some_iff.1 ho25
        refine V_indexAddr h_l hx33 Tryz.underlying63 Tryz.sizeOf118 rfl rfl rfl ?_
        intro b34 o35 h36
        obtain ⟨h37, _⟩ := El_cal_Shift h36
        refine V_y (Y_loadA h37 Tryz.isAgg118 Tryz.sizeOf118 rfl) rfl rfl rfl ?_
        refine V_alloc Tryz.zeroValue118 rfl ?_
        intro b38 w39 h40
        refine V_as rfl rfl ?_
        refine V_storeNew h40 Tryz.sizeOf118 rfl rfl rfl rfl (by exact (List.forall_mem_cons.2 ⟨rfl, (List.forall_mem_cons.2 ⟨rfl, (List.forall_mem_cons.2 ⟨rfl, (fun _ h => nomatch h)⟩)⟩)⟩)) ?_
        intro w41 h42
        have hk44 := h42.kp (Dw := Dw)
        have h43 : El (α := cal_Shift) A14 w41 b38 0 x33 := h42.el hA ⟨[.int .i64 x33.day], _, rfl, rfl, ⟨[.int .i64 x33.from_], _, rfl, rfl, rfl⟩⟩
        have ht45 := Kp.tr hk44 hA hB
        replace hH := Hp.kp hH hk44
        replace h_l := Sl.tr h_l ht45
        replace h36 := El.tr h36 ht45
        replace hK := Tr.trans hK ht45
        replace hr5 := Tr.trans hr5 ht45
        replace hr27 := Tr.trans hr27 ht45
        replace hB := Nat.le_trans hB ht45.ex.size
        replace hA := ht45.new
        refine V_to (fun _ _ => rfl) ?_
        refine C_seq ?_
        refine C_seq ?_
        refine C_region ?_
        refine V_mv rfl rfl ?_
        refine V_y (Y_not rfl) rfl rfl rfl ?_
        refine V_mv rfl rfl ?_
        refine V_cut 4 (fun _ : Unit => [(0, v_l), (1, .bool week), (5, .int .i64 (k6 : Int)), (6, .pointer (some ⟨b38, 0, none⟩)), (8, v_l), (9, .int .i64 (l.length : Int)), (10, .int .i64 (k6 : Int)), (21, .bool ((!week) && (x33.day != 0)))]) (fun _ w' => w41 = w') ?_ ?_
        · simp only [List.take, List.drop]
          rcases Bool.eq_false_or_eq_true (!week) with hc46 | hc46
          · refine V_ge rfl rfl rfl hc46 ?_
            have h48 := El_cal_Shift_0 h43
            refine V_y (Y_fieldAddr Tryz.underlying118 rfl Tryz.sizeOf3 (by decide) rfl) rfl rfl rfl ?_
            refine V_ge rfl rfl rfl hc46 ?_
            refine V_y (Y_load (El.int h48) Tryz.isAgg3 rfl) rfl rfl rfl ?_
            refine V_ge rfl rfl rfl hc46 ?_
            refine V_y (Y_neq rfl rfl) rfl rfl rfl ?_
            refine V_y (Y_pick_te rfl hc46 rfl) rfl rfl rfl ?_
            exact V_end fun a ha => ⟨(), ha.sub ⟨rfl, rfl, rfl, rfl, rfl, rfl, rfl, (by rw [hc46]; rfl), trivial⟩, rfl⟩
          · refine V_gn rfl rfl rfl hc46 rfl rfl rfl ?_
            refine V_gn rfl rfl rfl hc46 rfl rfl rfl ?_
            refine V_gn rfl rfl rfl hc46 rfl rfl rfl ?_
            refine V_y (Y_pick_fe rfl hc46 rfl) rfl rfl rfl ?_
            exact V_end fun a ha => ⟨(), ha.sub ⟨rfl, rfl, rfl, rfl, rfl, rfl, rfl, (by rw [hc46]; rfl), trivial⟩, rfl⟩
        simp only [List.take, List.drop]
        rintro _ _ rfl
        refine V_to (fun _ _ => rfl) ?_
        refine C_cond rfl (fun hc49 => ?_) (fun hc49 => ?_)
        · rw [if_pos hc49] at ho25
          refine C_seq ?_
          refine C_region ?_
          refine V_as rfl rfl ?_
          refine V_to (fun _ _ => rfl) ?_
          obtain rfl := Option.some.inj ho25
          rw [Lp.andThen_rt] at h17
          obtain rfl := Option.some.inj h17
          obtain rfl := (h18 : Lp.rt _ = _)
          rw [Lp.andThen_rt] at hm
          obtain rfl := Option.some.inj hm
          refine C_ret ?_
          try simp only [↓inBlock_ret, ↓then_ret]
          exact retQ rfl (Res.one Tryz.results87 rfl) ⟨rfl, hK.kp⟩
        · rw [if_neg (nt hc49)] at ho25
          refine C_skip_to (fun _ _ => rfl) ?_
          refine C_seq ?_
          refine C_seq ?_
          refine C_region ?_
          have h50 := El_cal_Shift_0 h43
          refine V_y (Y_fieldAddr Tryz.underlying118 rfl Tryz.sizeOf3 (by decide) rfl) rfl rfl rfl ?_
          refine V_y (Y_load (El.int h50) Tryz.isAgg3 rfl) rfl rfl rfl ?_
          refine V_y (Y_lss rfl rfl) rfl rfl rfl ?_
          refine V_mv rfl rfl ?_
          refine V_cut 4 (fun _ : Unit => [(0, v_l), (1, .bool week), (5, .int .i64 (k6 : Int)), (6, .pointer (some ⟨b38, 0, none⟩)), (8, v_l), (9, .int .i64 (l.length : Int)), (10, .int .i64 (k6 : Int)), (29, .bool ((decide (x33.day < 0)) || (decide ((6 : Int) < x33.day))))]) (fun _ w' => w41 = w') ?_ ?_
          · simp only [List.take, List.drop]
            rcases Bool.eq_false_or_eq_true (decide (x33.day < 0)) with hc51 | hc51
            · refine V_gn rfl rfl rfl hc51 rfl rfl rfl ?_
              refine V_gn rfl rfl rfl hc51 rfl rfl rfl ?_
              refine V_gn rfl rfl rfl hc51 rfl rfl rfl ?_
              refine V_y (Y_pick_te rfl hc51 rfl) rfl rfl rfl ?_
              exact V_end fun a ha => ⟨(), ha.sub ⟨rfl, rfl, rfl, rfl, rfl, rfl, rfl, (by rw [hc51]; rfl), trivial⟩, rfl⟩
            · refine V_ge rfl rfl rfl hc51 ?_
              have h53 := El_cal_Shift_0 h43
              refine V_y (Y_fieldAddr Tryz.underlying118 rfl Tryz.sizeOf3 (by decide) rfl) rfl rfl rfl ?_
              refine V_ge rfl rfl rfl hc51 ?_
              refine V_y (Y_load (El.int h53) Tryz.isAgg3 rfl) rfl rfl rfl ?_
              refine V_ge rfl rfl rfl hc51 ?_
              refine V_y (Y_gtr rfl rfl) rfl rfl rfl ?_
              refine V_y (Y_pick_fe rfl hc51 rfl) rfl rfl rfl ?_
              exact V_end fun a ha => ⟨(), ha.sub ⟨rfl, rfl, rfl, rfl, rfl, rfl, rfl, (by rw [hc51]; rfl), trivial⟩, rfl⟩
          simp only [List.take, List.drop]
          rintro _ _ rfl
          refine V_mv rfl rfl ?_
          refine V_cut 4 (fun _ : Unit => [(0, v_l), (1, .bool week), (5, .int .i64 (k6 : Int)), (6, .pointer (some ⟨b38, 0, none⟩)), (8, v_l), (9, .int .i64 (l.length : Int)), (10, .int .i64 (k6 : Int)), (34, .bool (((decide (x33.day < 0)) || (decide ((6 : Int) < x33.day))) || (decide (x33.from_ < 0))))]) (fun _ w' => w41 = w') ?_ ?_
          · simp only [List.take, List.drop]
            rcases Bool.eq_false_or_eq_true (((decide (x33.day < 0)) || (decide ((6 : Int) < x33.day)))) with hc54 | hc54
            · refine V_gn rfl rfl rfl hc54 rfl rfl rfl ?_
              refine V_gn rfl rfl rfl hc54 rfl rfl rfl ?_
              refine V_gn rfl rfl rfl hc54 rfl rfl rfl ?_
              refine V_y (Y_pick_te rfl hc54 rfl) rfl rfl rfl ?_
              exact V_end fun a ha => ⟨(), ha.sub ⟨rfl, rfl, rfl, rfl, rfl, rfl, rfl, (by rw [hc54]; rfl), trivial⟩, rfl⟩
            · refine V_ge rfl rfl rfl hc54 ?_
              have h56 := El_cal_Shift_1 h43
              refine V_y (Y_fieldAddr Tryz.underlying118 rfl Tryz.sizeOf3 (by decide) rfl) rfl rfl rfl ?_
              refine V_ge rfl rfl rfl hc54 ?_
              refine V_y (Y_load (El.int h56) Tryz.isAgg3 rfl) rfl rfl rfl ?_
              refine V_ge rfl rfl rfl hc54 ?_
              refine V_y (Y_lss rfl rfl) rfl rfl rfl ?_
              refine V_y (Y_pick_fe rfl hc54 rfl) rfl rfl rfl ?_
              exact V_end fun a ha => ⟨(), ha.sub ⟨rfl, rfl, rfl, rfl, rfl, rfl, rfl, (by rw [hc54]; rfl), trivial⟩, rfl⟩
          simp only [List.take, List.drop]
          rintro _ _ rfl
          refine V_mv rfl rfl ?_
          refine V_cut 4 (fun _ : Unit => [(0, v_l), (1, .bool week), (5, .int .i64 (k6 : Int)), (6, .pointer (some ⟨b38, 0, none⟩)), (8, v_l), (9, .int .i64 (l.length : Int)), (10, .int .i64 (k6 : Int)), (39, .bool ((((decide (x33.day < 0)) || (decide ((6 : Int) < x33.day))) || (decide (x33.from_ < 0))) || (decide ((1440 : Int) ≤ x33.from_))))]) (fun _ w' => w41 = w') ?_ ?_
          · simp only [List.take, List.drop]
            rcases Bool.eq_false_or_eq_true ((((decide (x33.day < 0)) || (decide ((6 : Int) < x33.day))) || (decide (x33.from_ < 0)))) with hc57 | hc57
            · refine V_gn rfl rfl rfl hc57 rfl rfl rfl ?_
              refine V_gn rfl rfl rfl hc57 rfl rfl rfl ?_
              refine V_gn rfl rfl rfl hc57 rfl rfl rfl ?_
              refine V_y (Y_pick_te rfl hc57 rfl) rfl rfl rfl ?_
              exact V_end fun a ha => ⟨(), ha.sub ⟨rfl, rfl, rfl, rfl, rfl, rfl, rfl, (by rw [hc57]; rfl), trivial⟩, rfl⟩
            · refine V_ge rfl rfl rfl hc57 ?_
              have h59 := El_cal_Shift_1 h43
              refine V_y (Y_fieldAddr Tryz.underlying118 rfl Tryz.sizeOf3 (by decide) rfl) rfl rfl rfl ?_
              refine V_ge rfl rfl rfl hc57 ?_
              refine V_y (Y_load (El.int h59) Tryz.isAgg3 rfl) rfl rfl rfl ?_
              refine V_ge rfl rfl rfl hc57 ?_
              refine V_y (Y_geq rfl rfl) rfl rfl rfl ?_
              refine V_y (Y_pick_fe rfl hc57 rfl) rfl rfl rfl ?_
              exact V_end fun a ha => ⟨(), ha.sub ⟨rfl, rfl, rfl, rfl, rfl, rfl, rfl, (by rw [hc57]; rfl), trivial⟩, rfl⟩
          simp only [List.take, List.drop]
          rintro _ _ rfl
          refine V_mv rfl rfl ?_
          refine V_cut 6 (fun _ : Unit => [(0, v_l), (1, .bool week), (5, .int .i64 (k6 : Int)), (6, .pointer (some ⟨b38, 0, none⟩)), (8, v_l), (9, .int .i64 (l.length : Int)), (10, .int .i64 (k6 : Int)), (46, .bool (((((decide (x33.day < 0)) || (decide ((6 : Int) < x33.day))) || (decide (x33.from_ < 0))) || (decide ((1440 : Int) ≤ x33.from_))) || (decide (x33.to_ ≤ x33.from_))))]) (fun _ w' => w41 = w') ?_ ?_
          · simp only [List.take, List.drop]
            rcases Bool.eq_false_or_eq_true (((((decide (x33.day < 0)) || (decide ((6 : Int) < x33.day))) || (decide (x33.from_ < 0))) || (decide ((1440 : Int) ≤ x33.from_)))) with hc60 | hc60
            · refine V_gn rfl rfl rfl hc60 rfl rfl rfl ?_
              refine V_gn rfl rfl rfl hc60 rfl rfl rfl ?_
              refine V_gn rfl rfl rfl hc60 rfl rfl rfl ?_
              refine V_gn rfl rfl rfl hc60 rfl rfl rfl ?_
              refine V_gn rfl rfl rfl hc60 rfl rfl rfl ?_
              refine V_y (Y_pick_te rfl hc60 rfl) rfl rfl rfl ?_
              exact V_end fun a ha => ⟨(), ha.sub ⟨rfl, rfl, rfl, rfl, rfl, rfl, rfl, (by rw [hc60]; rfl), trivial⟩, rfl⟩
            · refine V_ge rfl rfl rfl hc60 ?_
              have h62 := El_cal_Shift_2 h43
              refine V_y (Y_fieldAddr Tryz.underlying118 rfl Tryz.sizeOf3 (by decide) rfl) rfl rfl rfl ?_
              refine V_ge rfl rfl rfl hc60 ?_
              refine V_y (Y_load (El.int h62) Tryz.isAgg3 rfl) rfl rfl rfl ?_
              refine V_ge rfl rfl rfl hc60 ?_
              have h63 := El_cal_Shift_1 h43
              refine V_y (Y_fieldAddr Tryz.underlying118 rfl Tryz.sizeOf3 (by decide) rfl) rfl rfl rfl ?_
              refine V_ge rfl rfl rfl hc60 ?_
              refine V_y (Y_load (El.int h63) Tryz.isAgg3 rfl) rfl rfl rfl ?_
              refine V_ge rfl rfl rfl hc60 ?_
              refine V_y (Y_leq rfl rfl) rfl rfl rfl ?_
              refine V_y (Y_pick_fe rfl hc60 rfl) rfl rfl rfl ?_
              exact V_end fun a ha => ⟨(), ha.sub ⟨rfl, rfl, rfl, rfl, rfl, rfl, rfl, (by rw [hc60]; rfl), trivial⟩, rfl⟩
          simp only [List.take, List.drop]
          rintro _ _ rfl
          refine V_mv rfl rfl ?_
          refine V_cut 7 (fun _ : Unit => [(0, v_l), (1, .bool week), (5, .int .i64 (k6 : Int)), (6, .pointer (some ⟨b38, 0, none⟩)), (8, v_l), (9, .int .i64 (l.length : Int)), (10, .int .i64 (k6 : Int)), (54, .bool ((((((decide (x33.day < 0)) || (decide ((6 : Int) < x33.day))) || (decide (x33.from_ < 0))) || (decide ((1440 : Int) ≤ x33.from_))) || (decide (x33.to_ ≤ x33.from_))) || (decide ((w64 (x33.from_ + 1440)) < x33.to_))))]) (fun _ w' => w41 = w') ?_ ?_
          · simp only [List.take, List.drop]
            rcases Bool.eq_false_or_eq_true ((((((decide (x33.day < 0)) || (decide ((6 : Int) < x33.day))) || (decide (x33.from_ < 0))) || (decide ((1440 : Int) ≤ x33.from_))) || (decide (x33.to_ ≤ x33.from_)))) with hc64 | hc64
            · refine V_gn rfl rfl rfl hc64 rfl rfl rfl ?_
              refine V_gn rfl rfl rfl hc64 rfl rfl rfl ?_
              refine V_gn rfl rfl rfl hc64 rfl rfl rfl ?_
              refine V_gn rfl rfl rfl hc64 rfl rfl rfl ?_
              refine V_gn rfl rfl rfl hc64 rfl rfl rfl ?_
              refine V_gn rfl rfl rfl hc64 rfl rfl rfl ?_
              refine V_y (Y_pick_te rfl hc64 rfl) rfl rfl rfl ?_
              exact V_end fun a ha => ⟨(), ha.sub ⟨rfl, rfl, rfl, rfl, rfl, rfl, rfl, (by rw [hc64]; rfl), trivial⟩, rfl⟩
            · refine V_ge rfl rfl rfl hc64 ?_
              have h66 := El_cal_Shift_2 h43
              refine V_y (Y_fieldAddr Tryz.underlying118 rfl Tryz.sizeOf3 (by decide) rfl) rfl rfl rfl ?_
              refine V_ge rfl rfl rfl hc64 ?_
              refine V_y (Y_load (El.int h66) Tryz.isAgg3 rfl) rfl rfl rfl ?_
              refine V_ge rfl rfl rfl hc64 ?_
              have h67 := El_cal_Shift_1 h43
              refine V_y (Y_fieldAddr Tryz.underlying118 rfl Tryz.sizeOf3 (by decide) rfl) rfl rfl rfl ?_
              refine V_ge rfl rfl rfl hc64 ?_
              refine V_y (Y_load (El.int h67) Tryz.isAgg3 rfl) rfl rfl rfl ?_
              refine V_ge rfl rfl rfl hc64 ?_
              refine V_y (Y_addI rfl rfl) rfl rfl rfl ?_
              refine V_ge rfl rfl rfl hc64 ?_
              refine V_y (Y_gtr rfl rfl) rfl rfl rfl ?_
              refine V_y (Y_pick_fe rfl hc64 rfl) rfl rfl rfl ?_
              exact V_end fun a ha => ⟨(), ha.sub ⟨rfl, rfl, rfl, rfl, rfl, rfl, rfl, (by rw [hc64]; rfl), trivial⟩, rfl⟩
          simp only [List.take, List.drop]
          rintro _ _ rfl
          refine V_to (fun _ _ => rfl) ?_
          refine C_cond rfl (fun hc68 => ?_) (fun hc68 => ?_)
          · rw [if_pos hc68] at ho25
            refine C_seq ?_
            refine C_region ?_
            refine V_as rfl rfl ?_
            refine V_to (fun _ _ => rfl) ?_
            obtain rfl := Option.some.inj ho25
            rw [Lp.andThen_rt] at h17
            obtain rfl := Option.some.inj h17
            obtain rfl := (h18 : Lp.rt _ = _)
            rw [Lp.andThen_rt] at hm
            obtain rfl := Option.some.inj hm
            refine C_ret ?_
            try simp only [↓inBlock_ret, ↓then_ret]
            exact retQ rfl (Res.one Tryz.results87 rfl) ⟨rfl, hK.kp⟩
          · rw [if_neg (nt hc68)] at ho25
            refine C_skip_to (fun _ _ => rfl) ?_
            refine C_seq ?_
            refine C_region ?_
            refine V_mv rfl rfl ?_
            refine V_y (Y_gtr rfl rfl) rfl rfl rfl ?_
            refine V_to (fun _ _ => rfl) ?_
            obtain ⟨o69, ho69, ho25⟩ := Option.bind_eq_some_iff.1 ho25
            refine C_cutG (ι := (Unit × (Nat → Prop))) (fun ⟨s70, A75⟩ => [(0, v_l), (1, .bool week), (8, v_l), (9, .int .i64 (l.length : Int)), (10, .int .i64 (k6 : Int))]) (fun ⟨s70, A75⟩ => fun w' => o69 = .fin s70 ∧ Hp w.heap.size A75 w' ([]) ∧ Tr Dw w.heap.size A14 w41 A75 w') ?_ ?_
            · have hr71 : Tr Dw w.heap.size A14 w41 A14 w41 := Tr.refl (Dw := Dw) hA
              refine C_cond rfl (fun hc77 => ?_) (fun hc77 => ?_)
              · rw [if_pos hc77] at ho69
                refine C_seq ?_
                refine C_region ?_
                refine V_mv rfl rfl ?_
                refine V_mv rfl rfl ?_
                refine V_y (Y_subI rfl rfl) rfl rfl rfl ?_
                obtain ⟨x78, hx78, ho69⟩ := Option.bind_eq_some_iff.1 ho69
                refine V_indexAddr h_l hx78 Tryz.underlying63 Tryz.sizeOf118 rfl rfl rfl ?_
                intro b79 o80 h81
                obtain ⟨h82, _⟩ := El_cal_Shift h81
                refine V_y (Y_loadA h82 Tryz.isAgg118 Tryz.sizeOf118 rfl) rfl rfl rfl ?_
                refine V_alloc Tryz.zeroValue118 rfl ?_
                intro b83 w84 h85
                refine V_storeNew h85 Tryz.sizeOf118 rfl rfl rfl rfl (by exact (List.forall_mem_cons.2 ⟨rfl, (List.forall_mem_cons.2 ⟨rfl, (List.forall_mem_cons.2 ⟨rfl, (fun _ h => nomatch h)⟩)⟩)⟩)) ?_
                intro w86 h87
                have hk89 := h87.kp (Dw := Dw)
                have h88 : El (α := cal_Shift) A14 w86 b83 0 x78 := h87.el hA ⟨[.int .i64 x78.day], _, rfl, rfl, ⟨[.int .i64 x78.from_], _, rfl, rfl, rfl⟩⟩
                have ht90 := Kp.tr hk89 hA hB
                replace hH := Hp.kp hH hk89
                replace h_l := Sl.tr h_l ht90
                replace h43 := El.tr h43 ht90
                replace h81 := El.tr h81 ht90
                replace hK := Tr.trans hK ht90
                replace hr5 := Tr.trans hr5 ht90
                replace hr27 := Tr.trans hr27 ht90
                replace hr71 := Tr.trans hr71 ht90
                replace hB := Nat.le_trans hB ht90.ex.size
                replace hA := ht90.new
                refine V_to (fun _ _ => rfl) ?_
                refine C_seq ?_
                refine C_region_qt (Dw := Dw) 15 Tryz_mixed (by kernel_rfl) ?_
                simp only [List.take, List.drop]
                have h91 := El_cal_Shift_0 h88
                refine VQ_y (fun w' hw' => Y_fieldAddr Tryz.underlying118 rfl Tryz.sizeOf3 (by decide) rfl) rfl rfl rfl ?_
                refine VQ_y (fun w' hw' => Y_load (El.int (El.kp (Dw := Dw) h91 hw')) Tryz.isAgg3 rfl) rfl rfl rfl ?_
                have h92 := El_cal_Shift_0 h43
                refine VQ_y (fun w' hw' => Y_fieldAddr Tryz.underlying118 rfl Tryz.sizeOf3 (by decide) rfl) rfl rfl rfl ?_
                refine VQ_y (fun w' hw' => Y_load (El.int (El.kp (Dw := Dw) h92 hw')) Tryz.isAgg3 rfl) rfl rfl rfl ?_
                refine VQ_call (.int .i64 (cmp_Compare_int x78.day x33.day)) Tryz.call15 rfl rfl rfl rfl (fun w' hw' => (cmp_Compare_int_c w' x78.day x33.day).mono (fun _ _ h => ⟨h.1, h.2 ▸ hw'⟩)) ?_
                have h93 := El_cal_Shift_1 h88
                refine VQ_y (fun w' hw' => Y_fieldAddr Tryz.underlying118 rfl Tryz.sizeOf3 (by decide) rfl) rfl rfl rfl ?_
                refine VQ_y (fun w' hw' => Y_load (El.int (El.kp (Dw := Dw) h93 hw')) Tryz.isAgg3 rfl) rfl rfl rfl ?_
                have h94 := El_cal_Shift_1 h43
                refine VQ_y (fun w' hw' => Y_fieldAddr Tryz.underlying118 rfl Tryz.sizeOf3 (by decide) rfl) rfl rfl rfl ?_
                refine VQ_y (fun w' hw' => Y_load (El.int (El.kp (Dw := Dw) h94 hw')) Tryz.isAgg3 rfl) rfl rfl rfl ?_
                refine VQ_call (.int .i64 (cmp_Compare_int x78.from_ x33.from_)) Tryz.call15 rfl rfl rfl rfl (fun w' hw' => (cmp_Compare_int_c w' x78.from_ x33.from_).mono (fun _ _ h => ⟨h.1, h.2 ▸ hw'⟩)) ?_
                have h95 := El_cal_Shift_2 h88
                refine VQ_y (fun w' hw' => Y_fieldAddr Tryz.underlying118 rfl Tryz.sizeOf3 (by decide) rfl) rfl rfl rfl ?_
                refine VQ_y (fun w' hw' => Y_load (El.int (El.kp (Dw := Dw) h95 hw')) Tryz.isAgg3 rfl) rfl rfl rfl ?_
                have h96 := El_cal_Shift_2 h43
                refine VQ_y (fun w' hw' => Y_fieldAddr Tryz.underlying118 rfl Tryz.sizeOf3 (by decide) rfl) rfl rfl rfl ?_
                refine VQ_y (fun w' hw' => Y_load (El.int (El.kp (Dw := Dw) h96 hw')) Tryz.isAgg3 rfl) rfl rfl rfl ?_
                refine VQ_call (.int .i64 (cmp_Compare_int x78.to_ x33.to_)) Tryz.call15 rfl rfl rfl rfl (fun w' hw' => (cmp_Compare_int_c w' x78.to_ x33.to_).mono (fun _ _ h => ⟨h.1, h.2 ▸ hw'⟩)) ?_
                refine VQ_tail (fun w97 hk98 => ?_)
                try simp only [List.take, List.drop]
                have ht99 := Kp.tr hk98 hA hB
                replace hH := Hp.kp hH hk98
                replace h_l := Sl.tr h_l ht99
                replace h43 := El.tr h43 ht99
                replace h88 := El.tr h88 ht99
                replace h91 := El.tr h91 ht99
                replace h92 := El.tr h92 ht99
                replace h93 := El.tr h93 ht99
                replace h94 := El.tr h94 ht99
                replace h95 := El.tr h95 ht99
                replace h96 := El.tr h96 ht99
                replace hK := Tr.trans hK ht99
                replace hr5 := Tr.trans hr5 ht99
                replace hr27 := Tr.trans hr27 ht99
                replace hr71 := Tr.trans hr71 ht99
                replace hB := Nat.le_trans hB ht99.ex.size
                replace hA := ht99.new
                refine V_buildSlice (Dw := Dw) (cells := #[.int .i64 (cmp_Compare_int x78.day x33.day), .int .i64 (cmp_Compare_int x78.from_ x33.from_), .int .i64 (cmp_Compare_int x78.to_ x33.to_)]) (l := ([(cmp_Compare_int x78.day x33.day), (cmp_Compare_int x78.from_ x33.from_), (cmp_Compare_int x78.to_ x33.to_)] : List Int)) (len := 3) Tryz.underlying48 Tryz.sizeOf3 Tryz.zeroValue3 rfl (by generalize ((cmp_Compare_int x78.from_ x33.from_) : Int) = z104; generalize ((cmp_Compare_int x78.day x33.day) : Int) = z105; generalize ((cmp_Compare_int x78.to_ x33.to_) : Int) = z106; kernel_rfl) (show (3 * 1 : Nat) ≠ 0 by decide) (show (3 * 1 : Nat) ≤ 2 ^ 24 by decide) hA ⟨[.int .i64 (cmp_Compare_int x78.day x33.day)], _, rfl, rfl, ⟨[.int .i64 (cmp_Compare_int x78.from_ x33.from_)], _, rfl, rfl, ⟨[.int .i64 (cmp_Compare_int x78.to_ x33.to_)], _, rfl, rfl, rfl⟩⟩⟩ rfl rfl ?_
                intro v100 w101 hk103 h102
                have ht107 := Kp.tr hk103 hA hB
                replace hH := Hp.kp hH hk103
                replace h_l := Sl.tr h_l ht107
                replace h43 := El.tr h43 ht107
                replace h88 := El.tr h88 ht107
                replace h91 := El.tr h91 ht107
                replace h92 := El.tr h92 ht107
                replace h93 := El.tr h93 ht107
                replace h94 := El.tr h94 ht107
                replace h95 := El.tr h95 ht107
                replace h96 := El.tr h96 ht107
                replace hK := Tr.trans hK ht107
                replace hr5 := Tr.trans hr5 ht107
                replace hr27 := Tr.trans hr27 ht107
                replace hr71 := Tr.trans hr71 ht107
                replace hB := Nat.le_trans hB ht107.ex.size
                replace hA := ht107.new
                obtain ⟨x108, hx108, ho69⟩ := Option.bind_eq_some_iff.1 ho69
                refine V_call Tryz.call14 rfl rfl rfl rfl (cmp_Or_int_c w101 ([(cmp_Compare_int x78.day x33.day), (cmp_Compare_int x78.from_ x33.from_), (cmp_Compare_int x78.to_ x33.to_)] : List Int) v100 h102 hx108) ?_
                rintro _ _ ⟨rfl, rfl⟩
                refine V_y (Y_geq rfl rfl) rfl rfl rfl ?_
                refine V_to (fun _ _ => rfl) ?_
                refine C_cond rfl (fun hc109 => ?_) (fun hc109 => ?_)
                · rw [if_pos hc109] at ho69
                  refine C_seq ?_
                  refine C_region ?_
                  refine V_as rfl rfl ?_
                  refine V_to (fun _ _ => rfl) ?_
                  obtain rfl := Option.some.inj ho69
                  rw [Lp.andThen_rt] at ho25
                  obtain rfl := Option.some.inj ho25
                  rw [Lp.andThen_rt] at h17
                  obtain rfl := Option.some.inj h17
                  obtain rfl := (h18 : Lp.rt _ = _)
                  rw [Lp.andThen_rt] at hm
                  obtain rfl := Option.some.inj hm
                  refine C_ret ?_
                  try simp only [↓inBlock_ret, ↓then_ret]
                  exact retQ rfl (Res.one Tryz.results87 rfl) ⟨rfl, hK.kp⟩
                · rw [if_neg (nt hc109)] at ho69
                  obtain rfl := Option.some.inj ho69
                  refine C_skip (fun a ha110 => ?_)
                  exact ⟨((), A14), ha110.sub ⟨rfl, rfl, rfl, rfl, rfl, trivial⟩, ⟨rfl, hH, hr71⟩⟩
              · rw [if_neg (nt hc77)] at ho69
                obtain rfl := Option.some.inj ho69
                refine C_skip (fun a ha111 => ?_)
                exact ⟨((), A14), ha111.sub ⟨rfl, rfl, rfl, rfl, rfl, trivial⟩, ⟨rfl, hH, hr71⟩⟩
            rintro ⟨s70, A75⟩ w72 ⟨rfl, hH76, hk73⟩ a ha74
            rw [Lp.andThen_fin] at ho25
            replace h_l := Sl.tr h_l hk73
            replace hK := Tr.trans hK hk73
            replace hr5 := Tr.trans hr5 hk73
            replace hr27 := Tr.trans hr27 hk73
            replace hB := Nat.le_trans hB hk73.ex.size
            replace hA := hk73.new
            replace hH : Hp w.heap.size A75 w72 ([]) := hH76
            obtain rfl := Option.some.inj ho25
            exact ⟨((), A75), ha74.sub ⟨rfl, rfl, rfl, rfl, rfl, trivial⟩, ⟨rfl, hH, hr27⟩⟩
      rintro ⟨s26, A31⟩ w28 ⟨rfl, hH32, hk29⟩ a ha30
      rw [Lp.andThen_fin] at h17
      replace h_l := Sl.tr h_l hk29
      replace hK := Tr.trans hK hk29
      replace hr5 := Tr.trans hr5 hk29
      replace hB := Nat.le_trans hB hk29.ex.size
      replace hA := hk29.new
      replace hH : Hp w.heap.size A31 w28 ([]) := hH32
      refine C_at (n := ⟨81, [], none⟩) (fun _ _ => rfl) ?_ ha30
      refine C_region ?_
      refine V_y (Y_addI rfl rfl) rfl rfl rfl ?_
      refine V_mv rfl rfl ?_
      obtain rfl := Option.some.inj h17
      refine V_end (fun a ha113 => ?_)
      exact ⟨(), hlt20, h18, ⟨A31, ha113.sub ⟨rfl, rfl, rfl, rfl, (congrArg (fun z => some (Value.int .i64 z)) (w64_succ hlt20 hn23)), trivial⟩, ⟨hH, hr5⟩⟩⟩
    · refine C_exit (fun a ha114 => ?_)
      exact ⟨((), A14), ha114.sub trivial, ⟨(h21 (eq_of_dec hle19 hc24)).symm, hH, hr5⟩⟩
  rintro ⟨s4, A10⟩ w7 ⟨rfl, hH11, hk8⟩ a ha9
  rw [Lp.andThen_fin] at hm
  replace hK := Tr.trans hK hk8
  replace hB := Nat.le_trans hB hk8.ex.size
  replace hA := hk8.new
  replace hH : Hp w.heap.size A10 w7 ([]) := hH11
  refine C_at (n := ⟨81, [], none⟩) (fun _ _ => rfl) ?_ ha9
  refine C_seq ?_
  refine C_region ?_
  refine V_as rfl rfl ?_
  refine V_to (fun _ _ => rfl) ?_
  obtain rfl := Option.some.inj hm
  refine C_ret ?_
  try simp only [↓inBlock_ret, ↓then_ret]
  exact retQ rfl (Res.one Tryz.results87 rfl) ⟨rfl, hK.kp⟩

set_option maxRecDepth 4000 in
set_option maxHeartbeats 4000000 in
theorem portref2_CalendarFault_c (w : World) {A : Nat → Prop} (hA : ∀ b, w.heap.size ≤ b → A b) (c : cal_Calendar) (v_c0 : Value) (h_c0 : Sl A w v_c0 c.zone.changes) (v_c1 : Value) (h_c1 : Sl A w v_c1 c.week) (v_c2 : Value) (h_c2 : Sl A w v_c2 c.specials) {r : Int} (hm : portref2_CalendarFault c = some r) : Ret Tryz.prog 67 #[.agg #[.int .i64 c.zone.offset, v_c0, v_c1, v_c2]] w fun v w' => v = .int .i64 r ∧ Kp Dw w w' := by
  unfold portref2_CalendarFault at hm
  refine enter Tryz.func67 rfl Tryz.ntmps67 rfl ?_
  have hA0 := hA
  have hB := Nat.le_refl w.heap.size
  have hK : Tr Dw w.heap.size A w A w := Tr.refl (Dw := Dw) hA
  have hH : Hp w.heap.size A w [] := Hp.nil
  refine C_seq ?_
  refine C_region ?_
  refine V_box rfl rfl ?_
  intro b7 w9 h10
  have hk12 := h10.kp (Dw := Dw)
  have h11 : El (α := cal_Calendar) A w9 b7 0 c := h10.el hA ⟨[.int .i64 c.zone.offset, v_c0], _, rfl, ⟨[.int .i64 c.zone.offset], _, rfl, rfl, ⟨_, rfl, h_c0⟩⟩, ⟨[v_c1], _, rfl, ⟨_, rfl, h_c1⟩, ⟨_, rfl, h_c2⟩⟩⟩
  have ht13 := Kp.tr hk12 hA hB
  replace hH := Hp.kp hH hk12
  replace h_c0 := Sl.tr h_c0 ht13
  replace h_c1 := Sl.tr h_c1 ht13
  replace h_c2 := Sl.tr h_c2 ht13
  replace hK := Tr.trans hK ht13
  replace hB := Nat.le_trans hB ht13.ex.size
  replace hA := ht13.new
  refine V_as rfl rfl ?_
  refine V_to (fun _ _ => rfl) ?_
  refine C_seq ?_
  refine C_seq ?_
  refine C_region ?_
  have h14 := El_cal_Calendar_0 h11
  refine V_y (Y_fieldAddr Tryz.underlying66 rfl Tryz.sizeOf62 (by decide) rfl) rfl rfl rfl ?_
  obtain ⟨v15, h17, h16⟩ := El_cal_Zone h14
  refine V_y (Y_loadA h17 Tryz.isAgg62 Tryz.sizeOf62 rfl) rfl rfl rfl ?_
  obtain ⟨x18, hx18, hm⟩ := Option.bind_eq_some_iff.1 hm
  refine V_call Tryz.call86 rfl rfl rfl rfl (portref2_ZoneFault_c (Dw := Dw) w9 hA c.zone v15 h16 hx18) ?_
  rintro _ w19 ⟨rfl, hk20⟩
  have ht21 := Kp.tr hk20 hA hB
  replace hH := Hp.kp hH hk20
  replace h11 := El.tr h11 ht21
  replace h14 := El.tr h14 ht21
  replace h16 := Sl.tr h16 ht21
  replace hK := Tr.trans hK ht21
  replace hB := Nat.le_trans hB ht21.ex.size
  replace hA := ht21.new
  refine V_as rfl rfl ?_
  refine V_to (fun _ _ => rfl) ?_
  refine C_seq ?_
  refine C_region ?_
  refine V_mv rfl rfl ?_
  refine V_y (Y_neq rfl rfl) rfl rfl rfl ?_
  refine V_to (fun _ _ => rfl) ?_
  refine C_cond rfl (fun hc22 => ?_) (fun hc22 => ?_)
  · rw [if_pos hc22] at hm
    refine C_seq ?_
    refine C_region ?_
    refine V_mv rfl rfl ?_
    refine V_as rfl rfl ?_
    refine V_to (fun _ _ => rfl) ?_
    obtain rfl := Option.some.inj hm
    refine C_ret ?_
    try simp only [↓inBlock_ret, ↓then_ret]
    exact retQ rfl (Res.one Tryz.results67 rfl) ⟨rfl, hK.kp⟩
  · rw [if_neg (nt hc22)] at hm
    refine C_skip_to (fun _ _ => rfl) ?_
    refine C_seq ?_
    refine C_seq ?_
    refine C_region ?_
    have h23 := El_cal_Calendar_1 h11
    refine V_y (Y_fieldAddr Tryz.underlying66 rfl Tryz.sizeOf63 (by decide) rfl) rfl rfl rfl ?_
    obtain ⟨v24, h25, h26⟩ := El.list h23
    refine V_y (Y_load h25 Tryz.isAgg63 rfl) rfl rfl rfl ?_
    refine V_y (Y_lenSl h26 rfl Tryz.underlying63 rfl) rfl rfl rfl ?_
    refine V_y (Y_gtr rfl rfl) rfl rfl rfl ?_
    refine V_mv rfl rfl ?_
    refine V_cut 5 (fun _ : Unit => [(1, .pointer (some ⟨b7, 0, none⟩)), (23, .bool ((decide ((60 : Int) < (c.week.length : Int))) || (decide ((200 : Int) < (c.specials.length : Int)))))]) (fun _ w' => w19 = w') ?_ ?_
    · simp only [List.take, List.drop]
      rcases Bool.eq_false_or_eq_true (decide ((60 : Int) < (c.week.length : Int))) with hc27 | hc27
      · refine V_gn rfl rfl rfl hc27 rfl rfl rfl ?_
        refine V_gn rfl rfl rfl hc27 rfl rfl rfl ?_
        refine V_gn rfl rfl rfl hc27 rfl rfl rfl ?_
        refine V_gn rfl rfl rfl hc27 rfl rfl rfl ?_
        refine V_y (Y_pick_te rfl hc27 rfl) rfl rfl rfl ?_
        exact V_end fun a ha => ⟨(), ha.sub ⟨rfl, (by rw [hc27]; rfl), trivial⟩, rfl⟩
      · refine V_ge rfl rfl rfl hc27 ?_
        have h29 := El_cal_Calendar_2 h11
        refine V_y (Y_fieldAddr Tryz.underlying66 rfl Tryz.sizeOf64 (by decide) rfl) rfl rfl rfl ?_
        refine V_ge rfl rfl rfl hc27 ?_
        obtain ⟨v30, h31, h32⟩ := El.list h29
        refine V_y (Y_load h31 Tryz.isAgg64 rfl) rfl rfl rfl ?_
        refine V_ge rfl rfl rfl hc27 ?_
        refine V_y (Y_lenSl h32 rfl Tryz.underlying64 rfl) rfl rfl rfl ?_
        refine V_ge rfl rfl rfl hc27 ?_
        refine V_y (Y_gtr rfl rfl) rfl rfl rfl ?_
        refine V_y (Y_pick_fe rfl hc27 rfl) rfl rfl rfl ?_
        exact V_end fun a ha => ⟨(), ha.sub ⟨rfl, (by rw [hc27]; rfl), trivial⟩, rfl⟩
    simp only [List.take, List.drop]
    rintro _ _ rfl
    refine V_to (fun _ _ => rfl) ?_
    refine C_cond rfl (fun hc33 => ?_) (fun hc33 => ?_)
    · rw [if_pos hc33] at hm
      refine C_seq ?_
      refine C_region ?_
      refine V_as rfl rfl ?_
      refine V_to (fun _ _ => rfl) ?_
      obtain rfl := Option.some.inj hm
      refine C_ret ?_
      try simp only [↓inBlock_ret, ↓then_ret]
      exact retQ rfl (Res.one Tryz.results67 rfl) ⟨rfl, hK.kp⟩
    · rw [if_neg (nt hc33)] at hm
      refine C_skip_to (fun _ _ => rfl) ?_
      refine C_seq ?_
      refine C_seq ?_
      refine C_region ?_
      have h34 := El_cal_Calendar_1 h11
      refine V_y (Y_fieldAddr Tryz.underlying66 rfl Tryz.sizeOf63 (by decide) rfl) rfl rfl rfl ?_
      obtain ⟨v35, h36, h37⟩ := El.list h34
      refine V_y (Y_load h36 Tryz.isAgg63 rfl) rfl rfl rfl ?_
      obtain ⟨x38, hx38, hm⟩ := Option.bind_eq_some_iff.1 hm
      refine V_call Tryz.call87 rfl rfl rfl rfl (portref2_shiftFault_c (Dw := Dw) w19 hA c.week v35 h37 true hx38) ?_
      rintro _ w39 ⟨rfl, hk40⟩
      have ht41 := Kp.tr hk40 hA hB
      replace hH := Hp.kp hH hk40
      replace h11 := El.tr h11 ht41
      replace h34 := El.tr h34 ht41
      replace h37 := Sl.tr h37 ht41
      replace hK := Tr.trans hK ht41
      replace hB := Nat.le_trans hB ht41.ex.size
      replace hA := ht41.new
      refine V_as rfl rfl ?_
      refine V_to (fun _ _ => rfl) ?_
      refine C_seq ?_
      refine C_region ?_
      refine V_mv rfl rfl ?_
      refine V_y (Y_neq rfl rfl) rfl rfl rfl ?_
      refine V_to (fun _ _ => rfl) ?_
      refine C_cond rfl (fun hc42 => ?_) (fun hc42 => ?_)
      · rw [if_pos hc42] at hm
        refine C_seq ?_
        refine C_region ?_
        refine V_mv rfl rfl ?_
        refine V_as rfl rfl ?_
        refine V_to (fun _ _ => rfl) ?_
        obtain rfl := Option.some.inj hm
        refine C_ret ?_
        try simp only [↓inBlock_ret, ↓then_ret]
        exact retQ rfl (Res.one Tryz.results67 rfl) ⟨rfl, hK.kp⟩
      · rw [if_neg (nt hc42)] at hm
        refine C_skip_to (fun _ _ => rfl) ?_
        refine C_seq ?_
        refine C_seq ?_
        refine C_region ?_
        have h43 := El_cal_Calendar_2 h11
        refine V_y (Y_fieldAddr Tryz.underlying66 rfl Tryz.sizeOf64 (by decide) rfl) rfl rfl rfl ?_
        obtain ⟨v44, h45, h46⟩ := El.list h43
        refine V_y (Y_load h45 Tryz.isAgg64 rfl) rfl rfl rfl ?_
        refine V_y (Y_lenSl h46 rfl Tryz.underlying64 rfl) rfl rfl rfl ?_
        refine V_mv rfl rfl ?_
        refine V_to (fun _ _ => rfl) ?_
        have hn67 := Sl.le h46
        obtain ⟨o47, ho47, hm⟩ := Option.bind_eq_some_iff.1 hm
        refine C_cutG (ι := (Unit × (Nat → Prop))) (fun ⟨s48, A54⟩ => []) (fun ⟨s48, A54⟩ => fun w' => o47 = .fin s48 ∧ Hp w.heap.size A54 w' ([]) ∧ Tr Dw w.heap.size A w39 A54 w') ?_ ?_
        · refine C_block ?_
          refine C_range ho47 (fun k50 _ a w' => ∃ i : (Nat → Prop), Has ⟨74, [], none⟩ a ([(1, .pointer (some ⟨b7, 0, none⟩)), (31, v44), (32, .int .i64 (c.specials.length : Int)), (33, .int .i64 (k50 : Int))]) ∧ Hp w.heap.size i w' ([]) ∧ Tr Dw w.heap.size A w39 i w') (fun a ha => ⟨A, ha.sub ⟨rfl, rfl, rfl, rfl, trivial⟩, ⟨hH, Tr.refl (Dw := Dw) hA⟩⟩) ?_
          rintro K k50 _ a w57 ⟨A58, ha124, hH59, hr49⟩ hle63 K66 h65
          refine C_of ?_ ha124
          replace h11 := El.tr h11 hr49
          replace h46 := Sl.tr h46 hr49
          replace hK := Tr.trans hK hr49
          replace hB := Nat.le_trans hB hr49.ex.size
          replace hA := hr49.new
          replace hH : Hp w.heap.size A58 w57 ([]) := hH59
          refine C_seq (C_region (V_y (Y_lss rfl rfl) rfl rfl rfl (V_to (fun _ _ => rfl) ?_)))
          refine C_seq ?_
          refine C_cond rfl (fun hc68 => ?_) (fun hc68 => ?_)
          · have hlt64 := lt_of_dec hc68
            obtain ⟨x60, h61, h62⟩ := K66 hlt64
            refine C_skip_to (fun _ _ => rfl) ?_
            refine C_seq ?_
            refine C_block ?_
            refine C_seq ?_
            refine C_region ?_
            refine V_mv rfl rfl ?_
            obtain ⟨x69, hx69, h61⟩ := Option.bind_eq_some_iff.1 h61
            refine V_indexAddr h46 hx69 Tryz.underlying64 Tryz.sizeOf88 rfl rfl rfl ?_
            intro b70 o71 h72
            obtain ⟨v73, h75, h74⟩ := El_cal_Special h72
            refine V_y (Y_loadA h75 Tryz.isAgg88 Tryz.sizeOf88 rfl) rfl rfl rfl ?_
            refine V_alloc Tryz.zeroValue88 rfl ?_
            intro b76 w77 h78
            refine V_as rfl rfl ?_
            have h83 : (v73).oneCell' = true := by obtain ⟨_, _, e, _⟩ := Sl.form h74; rw [e]; rfl
            refine V_storeNew h78 Tryz.sizeOf88 rfl rfl rfl rfl (by exact (List.forall_mem_cons.2 ⟨rfl, (List.forall_mem_cons.2 ⟨h83, (fun _ h => nomatch h)⟩)⟩)) ?_
            intro w79 h80
            have hk85 := h80.kp (Dw := Dw)
            have h84 : El (α := cal_Special) A58 w79 b76 0 x69 := h80.el hA ⟨[.int .i64 x69.day], _, rfl, rfl, ⟨_, rfl, h74⟩⟩
            have ht86 := Kp.tr hk85 hA hB
            replace hH := Hp.kp hH hk85
            replace h11 := El.tr h11 ht86
            replace h46 := Sl.tr h46 ht86
            replace h72 := El.tr h72 ht86
            replace h74 := Sl.tr h74 ht86
            replace hK := Tr.trans hK ht86
            replace hr49 := Tr.trans hr49 ht86
            replace hB := Nat.le_trans hB ht86.ex.size
            replace hA := ht86.new
            refine V_to (fun _ _ => rfl) ?_
            refine C_seq ?_
            refine C_block ?_
            refine C_seq ?_
            refine C_region ?_
            have h87 := El_cal_Special_0 h84
            refine V_y (Y_fieldAddr Tryz.underlying88 rfl Tryz.sizeOf3 (by decide) rfl) rfl rfl rfl ?_
            refine V_y (Y_load (El.int h87) Tryz.isAgg3 rfl) rfl rfl rfl ?_
            refine V_y (Y_lss rfl rfl) rfl rfl rfl ?_
            refine V_mv rfl rfl ?_
            refine V_cut 4 (fun _ : Unit => [(1, .pointer (some ⟨b7, 0, none⟩)), (5, .int .i64 (k50 : Int)), (6, .pointer (some ⟨b76, 0, none⟩)), (31, v44), (32, .int .i64 (c.specials.length : Int)), (33, .int .i64 (k50 : Int)), (46, .bool ((decide (x69.day < (-1))) || (decide ((2084 : Int) < x69.day))))]) (fun _ w' => w79 = w') ?_ ?_
            · simp only [List.take, List.drop]
              rcases Bool.eq_false_or_eq_true (decide (x69.day < (-1))) with hc88 | hc88
              · refine V_gn rfl rfl rfl hc88 rfl rfl rfl ?_
                refine V_gn rfl rfl rfl hc88 rfl rfl rfl ?_
                refine V_gn rfl rfl rfl hc88 rfl rfl rfl ?_
                refine V_y (Y_pick_te rfl hc88 rfl) rfl rfl rfl ?_
                exact V_end fun a ha => ⟨(), ha.sub ⟨rfl, rfl, rfl, rfl, rfl, rfl, (by rw [hc88]; rfl), trivial⟩, rfl⟩
              · refine V_ge rfl rfl rfl hc88 ?_
                have h90 := El_cal_Special_0 h84
                refine V_y (Y_fieldAddr Tryz.underlying88 rfl Tryz.sizeOf3 (by decide) rfl) rfl rfl rfl ?_
                refine V_ge rfl rfl rfl hc88 ?_
                refine V_y (Y_load (El.int h90) Tryz.isAgg3 rfl) rfl rfl rfl ?_
                refine V_ge rfl rfl rfl hc88 ?_
                refine V_y (Y_gtr rfl rfl) rfl rfl rfl ?_
                refine V_y (Y_pick_fe rfl hc88 rfl) rfl rfl rfl ?_
                exact V_end fun a ha => ⟨(), ha.sub ⟨rfl, rfl, rfl, rfl, rfl, rfl, (by rw [hc88]; rfl), trivial⟩, rfl⟩
            simp only [List.take, List.drop]
            rintro _ _ rfl
            refine V_as rfl rfl ?_
            refine V_to (fun _ _ => rfl) ?_
            refine C_cond rfl (fun hc91 => ?_) (fun hc91 => ?_)
            · rw [if_pos hc91] at h61
              refine C_seq ?_
              refine C_region ?_
              refine V_as rfl rfl ?_
              refine V_to (fun _ _ => rfl) ?_
              obtain rfl := Option.some.inj h61
              obtain rfl := (h62 : Lp.rt _ = _)
              rw [Lp.andThen_rt] at hm
              obtain rfl := Option.some.inj hm
              refine C_ret ?_
              try simp only [↓inBlock_ret, ↓then_ret]
              exact retQ rfl (Res.one Tryz.results67 rfl) ⟨rfl, hK.kp⟩
            · rw [if_neg (nt hc91)] at h61
              refine C_seq ?_
              refine C_region_q (Dw := Dw) Tryz_mixed (by kernel_rfl) ?_
              refine VQ_y (fun w' hw' => Y_move rfl) rfl rfl rfl ?_
              refine VQ_y (fun w' hw' => Y_gtr rfl rfl) rfl rfl rfl ?_
              refine VQ_y (fun w' hw' => Y_move rfl) rfl rfl rfl ?_
              obtain ⟨s93, hs93, h61⟩ := Option.bind_eq_some_iff.1 h61
              refine VQ_cut 11 (fun _ : Unit => [(1, .pointer (some ⟨b7, 0, none⟩)), (6, .pointer (some ⟨b76, 0, none⟩)), (31, v44), (32, .int .i64 (c.specials.length : Int)), (33, .int .i64 (k50 : Int)), (61, .bool s93)]) (fun _ => True) ?_ ?_
              · simp only [List.take, List.drop]
                rcases Bool.eq_false_or_eq_true (decide ((0 : Int) < (k50 : Int))) with hc92 | hc92
                · rw [if_pos hc92] at hs93
                  refine VQ_ge rfl rfl rfl hc92 ?_
                  have h94 := El_cal_Special_0 h84
                  refine VQ_y (fun w' hw' => Y_fieldAddr Tryz.underlying88 rfl Tryz.sizeOf3 (by decide) rfl) rfl rfl rfl ?_
                  refine VQ_ge rfl rfl rfl hc92 ?_
                  refine VQ_y (fun w' hw' => Y_load (El.int (El.kp (Dw := Dw) h94 hw')) Tryz.isAgg3 rfl) rfl rfl rfl ?_
                  refine VQ_ge rfl rfl rfl hc92 ?_
                  have h95 := El_cal_Calendar_2 h11
                  refine VQ_y (fun w' hw' => Y_fieldAddr Tryz.underlying66 rfl Tryz.sizeOf64 (by decide) rfl) rfl rfl rfl ?_
                  refine VQ_ge rfl rfl rfl hc92 ?_
                  obtain ⟨v96, h97, h98⟩ := El.list h95
                  refine VQ_y (fun w' hw' => Y_load ((World.cell?_of_block (hw'.block _ (World.block_lt_of_cell? _ _ h97))).trans h97) Tryz.isAgg64 rfl) rfl rfl rfl ?_
                  refine VQ_ge rfl rfl rfl hc92 ?_
                  refine VQ_y (fun w' hw' => Y_move rfl) rfl rfl rfl ?_
                  refine VQ_ge rfl rfl rfl hc92 ?_
                  refine VQ_y (fun w' hw' => Y_subI rfl rfl) rfl rfl rfl ?_
                  refine VQ_ge rfl rfl rfl hc92 ?_
                  obtain ⟨x99, hx99, hs93⟩ := Option.bind_eq_some_iff.1 hs93
                  refine VQ_indexAddr h98 hx99 Tryz.underlying64 Tryz.sizeOf88 rfl rfl rfl ?_
                  intro b100 o101 h102
                  refine VQ_ge rfl rfl rfl hc92 ?_
                  have h103 := El_cal_Special_0 h102
                  refine VQ_y (fun w' hw' => Y_fieldAddr Tryz.underlying88 rfl Tryz.sizeOf3 (by decide) rfl) rfl rfl rfl ?_
                  refine VQ_ge rfl rfl rfl hc92 ?_
                  refine VQ_y (fun w' hw' => Y_load (El.int (El.kp (Dw := Dw) h103 hw')) Tryz.isAgg3 rfl) rfl rfl rfl ?_
                  refine VQ_ge rfl rfl rfl hc92 ?_
                  refine VQ_y (fun w' hw' => Y_leq rfl rfl) rfl rfl rfl ?_
                  refine VQ_y (fun _ _ => Y_pick_te rfl hc92 rfl) rfl rfl rfl ?_
                  obtain rfl := Option.some.inj hs93
                  exact VQ_end fun a ha => ⟨(), ha.sub ⟨rfl, rfl, rfl, rfl, rfl, rfl, trivial⟩, trivial⟩
                · rw [if_neg (nt hc92)] at hs93
                  refine VQ_gn rfl rfl rfl hc92 rfl rfl rfl ?_
                  refine VQ_gn rfl rfl rfl hc92 rfl rfl rfl ?_
                  refine VQ_gn rfl rfl rfl hc92 rfl rfl rfl ?_
                  refine VQ_gn rfl rfl rfl hc92 rfl rfl rfl ?_
                  refine VQ_gn rfl rfl rfl hc92 rfl rfl rfl ?_
                  refine VQ_gn rfl rfl rfl hc92 rfl rfl rfl ?_
                  refine VQ_gn rfl rfl rfl hc92 rfl rfl rfl ?_
                  refine VQ_gn rfl rfl rfl hc92 rfl rfl rfl ?_
                  refine VQ_gn rfl rfl rfl hc92 rfl rfl rfl ?_
                  refine VQ_gn rfl rfl rfl hc92 rfl rfl rfl ?_
                  refine VQ_y (fun _ _ => Y_pick_fe rfl hc92 rfl) rfl rfl rfl ?_
                  obtain rfl := Option.some.inj hs93
                  exact VQ_end fun a ha => ⟨(), ha.sub ⟨rfl, rfl, rfl, rfl, rfl, rfl, trivial⟩, trivial⟩
              simp only [List.take, List.drop]
              rintro _ _
              refine VQ_y (fun w' hw' => Y_assign rfl) rfl rfl rfl ?_
              refine VQ_to (fun _ _ => rfl) (fun w104 hk105 => ?_)
              have ht106 := Kp.tr hk105 hA hB
              replace hH := Hp.kp hH hk105
              replace h11 := El.tr h11 ht106
              replace h46 := Sl.tr h46 ht106
              replace h84 := El.tr h84 ht106
              replace hK := Tr.trans hK ht106
              replace hr49 := Tr.trans hr49 ht106
              replace hB := Nat.le_trans hB ht106.ex.size
              replace hA := ht106.new
              refine C_cond rfl (fun hc107 => ?_) (fun hc107 => ?_)
              · rw [if_pos hc107] at h61
                refine C_seq ?_
                refine C_region ?_
                refine V_as rfl rfl ?_
                refine V_to (fun _ _ => rfl) ?_
                obtain rfl := Option.some.inj h61
                obtain rfl := (h62 : Lp.rt _ = _)
                rw [Lp.andThen_rt] at hm
                obtain rfl := Option.some.inj hm
                refine C_ret ?_
                try simp only [↓inBlock_ret, ↓then_ret]
                exact retQ rfl (Res.one Tryz.results67 rfl) ⟨rfl, hK.kp⟩
              · rw [if_neg (nt hc107)] at h61
                refine C_seq ?_
                refine C_region ?_
                have h108 := El_cal_Special_1 h84
                refine V_y (Y_fieldAddr Tryz.underlying88 rfl Tryz.sizeOf63 (by decide) rfl) rfl rfl rfl ?_
                obtain ⟨v109, h110, h111⟩ := El.list h108
                refine V_y (Y_load h110 Tryz.isAgg63 rfl) rfl rfl rfl ?_
                refine V_y (Y_lenSl h111 rfl Tryz.underlying63 rfl) rfl rfl rfl ?_
                refine V_y (Y_gtr rfl rfl) rfl rfl rfl ?_
                refine V_as rfl rfl ?_
                refine V_to (fun _ _ => rfl) ?_
                refine C_cond rfl (fun hc112 => ?_) (fun hc112 => ?_)
                · rw [if_pos hc112] at h61
                  refine C_seq ?_
                  refine C_region ?_
                  refine V_as rfl rfl ?_
                  refine V_to (fun _ _ => rfl) ?_
                  obtain rfl := Option.some.inj h61
                  obtain rfl := (h62 : Lp.rt _ = _)
                  rw [Lp.andThen_rt] at hm
                  obtain rfl := Option.some.inj hm
                  refine C_ret ?_
                  try simp only [↓inBlock_ret, ↓then_ret]
                  exact retQ rfl (Res.one Tryz.results67 rfl) ⟨rfl, hK.kp⟩
                · rw [if_neg (nt hc112)] at h61
                  refine C_skip_to (fun _ _ => rfl) ?_
                  refine C_seq ?_
                  refine C_region ?_
                  have h113 := El_cal_Special_1 h84
                  refine V_y (Y_fieldAddr Tryz.underlying88 rfl Tryz.sizeOf63 (by decide) rfl) rfl rfl rfl ?_
                  obtain ⟨v114, h115, h116⟩ := El.list h113
                  refine V_y (Y_load h115 Tryz.isAgg63 rfl) rfl rfl rfl ?_
                  obtain ⟨x117, hx117, h61⟩ := Option.bind_eq_some_iff.1 h61
                  refine V_call Tryz.call87 rfl rfl rfl rfl (portref2_shiftFault_c (Dw := Dw) w104 hA x69.shifts v114 h116 false hx117) ?_
                  rintro _ w118 ⟨rfl, hk119⟩
                  have ht120 := Kp.tr hk119 hA hB
                  replace hH := Hp.kp hH hk119
                  replace h11 := El.tr h11 ht120
                  replace h46 := Sl.tr h46 ht120
                  replace h84 := El.tr h84 ht120
                  replace h113 := El.tr h113 ht120
                  replace h116 := Sl.tr h116 ht120
                  replace hK := Tr.trans hK ht120
                  replace hr49 := Tr.trans hr49 ht120
                  replace hB := Nat.le_trans hB ht120.ex.size
                  replace hA := ht120.new
                  refine V_as rfl rfl ?_
                  refine V_to (fun _ _ => rfl) ?_
                  refine C_seq ?_
                  refine C_region ?_
                  refine V_mv rfl rfl ?_
                  refine V_y (Y_neq rfl rfl) rfl rfl rfl ?_
                  refine V_to (fun _ _ => rfl) ?_
                  refine C_cond rfl (fun hc121 => ?_) (fun hc121 => ?_)
                  · rw [if_pos hc121] at h61
                    refine C_seq ?_
                    refine C_region ?_
                    refine V_mv rfl rfl ?_
                    refine V_as rfl rfl ?_
                    refine V_to (fun _ _ => rfl) ?_
                    obtain rfl := Option.some.inj h61
                    obtain rfl := (h62 : Lp.rt _ = _)
                    rw [Lp.andThen_rt] at hm
                    obtain rfl := Option.some.inj hm
                    refine C_ret ?_
                    try simp only [↓inBlock_ret, ↓then_ret]
                    exact retQ rfl (Res.one Tryz.results67 rfl) ⟨rfl, hK.kp⟩
                  · rw [if_neg (nt hc121)] at h61
                    refine C_skip_to (fun _ _ => rfl) ?_
                    refine C_region ?_
                    refine V_y (Y_addI rfl rfl) rfl rfl rfl ?_
                    refine V_mv rfl rfl ?_
                    obtain rfl := Option.some.inj h61
                    refine V_end (fun a ha122 => ?_)
                    exact ⟨(), hlt64, h62, ⟨A58, ha122.sub ⟨rfl, rfl, rfl, (congrArg (fun z => some (Value.int .i64 z)) (w64_succ hlt64 hn67)), trivial⟩, ⟨hH, hr49⟩⟩⟩
          · refine C_exit (fun a ha123 => ?_)
            exact ⟨((), A58), ha123.sub trivial, ⟨(h65 (eq_of_dec hle63 hc68)).symm, hH, hr49⟩⟩
        rintro ⟨s48, A54⟩ w51 ⟨rfl, hH55, hk52⟩ a ha53
        rw [Lp.andThen_fin] at hm
        replace hK := Tr.trans hK hk52
        replace hB := Nat.le_trans hB hk52.ex.size
        replace hA := hk52.new
        replace hH : Hp w.heap.size A54 w51 ([]) := hH55
        refine C_at (n := ⟨74, [], none⟩) (fun _ _ => rfl) ?_ ha53
        refine C_seq ?_
        refine C_region ?_
        refine V_as rfl rfl ?_
        refine V_to (fun _ _ => rfl) ?_
        obtain rfl := Option.some.inj hm
        refine C_ret ?_
        try simp only [↓inBlock_ret, ↓then_ret]
        exact retQ rfl (Res.one Tryz.results67 rfl) ⟨rfl, hK.kp⟩

set_option maxRecDepth 4000 in
set_option maxHeartbeats 4000000 in
theorem portref2_CalsFault_c (w : World) {A : Nat → Prop} (hA : ∀ b, w.heap.size ≤ b → A b) (cals : (List cal_Calendar)) (v_cals : Value) (h_cals : Sl A w v_cals cals) (most : Int) {r : Int} (hm : portref2_CalsFault cals most = some r) : Ret Tryz.prog 42 #[v_cals, .int .i64 most] w fun v w' => v = .int .i64 r ∧ Kp Dw w w' := by
  unfold portref2_CalsFault at hm
  refine enter Tryz.func42 rfl Tryz.ntmps42 rfl ?_
  have hA0 := hA
  have hB := Nat.le_refl w.heap.size
  have hK : Tr Dw w.heap.size A w A w := Tr.refl (Dw := Dw) hA
  have hH : Hp w.heap.size A w [] := Hp.nil
  refine C_seq ?_
  refine C_region ?_
  refine V_as rfl rfl ?_
  refine V_to (fun _ _ => rfl) ?_
  refine C_seq ?_
  refine C_seq ?_
  refine C_region ?_
  refine V_mv rfl rfl ?_
  refine V_y (Y_lenSl h_cals rfl Tryz.underlying23 rfl) rfl rfl rfl ?_
  refine V_mv rfl rfl ?_
  refine V_y (Y_gtr rfl rfl) rfl rfl rfl ?_
  refine V_to (fun _ _ => rfl) ?_
  refine C_cond rfl (fun hc3 => ?_) (fun hc3 => ?_)
  · rw [if_pos hc3] at hm
    refine C_seq ?_
    refine C_region ?_
    refine V_as rfl rfl ?_
    refine V_to (fun _ _ => rfl) ?_
    obtain rfl := Option.some.inj hm
    refine C_ret ?_
    try simp only [↓inBlock_ret, ↓then_ret]
    exact retQ rfl (Res.one Tryz.results42 rfl) ⟨rfl, hK.kp⟩
  · rw [if_neg (nt hc3)] at hm
    refine C_skip_to (fun _ _ => rfl) ?_
    refine C_seq ?_
    refine C_seq ?_
    refine C_region ?_
    refine V_mv rfl rfl ?_
    refine V_y (Y_lenSl h_cals rfl Tryz.underlying23 rfl) rfl rfl rfl ?_
    refine V_mv rfl rfl ?_
    refine V_to (fun _ _ => rfl) ?_
    have hn25 := Sl.le h_cals
    obtain ⟨o4, ho4, hm⟩ := Option.bind_eq_some_iff.1 hm
    refine C_cutG (ι := (Unit × (Nat → Prop))) (fun ⟨s5, A12⟩ => []) (fun ⟨s5, A12⟩ => fun w' => o4 = .fin s5 ∧ Hp w.heap.size A12 w' ([]) ∧ Tr Dw w.heap.size A w A12 w') ?_ ?_
    · refine C_block ?_
      refine C_range ho4 (fun k7 _ a w' => ∃ i : (Nat → Prop), Has ⟨24, [], none⟩ a ([(12, v_cals), (13, .int .i64 (cals.length : Int)), (14, .int .i64 (k7 : Int))]) ∧ Hp w.heap.size i w' ([]) ∧ Tr Dw w.heap.size A w i w') (fun a ha => ⟨A, ha.sub ⟨rfl, rfl, rfl, trivial⟩, ⟨hH, Tr.refl (Dw := Dw) hA⟩⟩) ?_
      rintro K k7 _ a w15 ⟨A16, ha69, hH17, hr6⟩ hle21 K24 h23
      refine C_of ?_ ha69
      replace h_cals := Sl.tr h_cals hr6
      replace hK := Tr.trans hK hr6
      replace hB := Nat.le_trans hB hr6.ex.size
      replace hA := hr6.new
      replace hH : Hp w.heap.size A16 w15 ([]) := hH17
      refine C_seq (C_region (V_y (Y_lss rfl rfl) rfl rfl rfl (V_to (fun _ _ => rfl) ?_)))
      refine C_seq ?_
      refine C_cond rfl (fun hc26 => ?_) (fun hc26 => ?_)
      · have hlt22 := lt_of_dec hc26
        obtain ⟨x18, h19, h20⟩ := K24 hlt22
        refine C_skip_to (fun _ _ => rfl) ?_
        refine C_seq ?_
        refine C_block ?_
        refine C_seq ?_
        refine C_region ?_
        obtain ⟨x27, hx27, h19⟩ := Option.bind_eq_some_iff.1 h19
        refine V_indexAddr h_cals hx27 Tryz.underlying23 Tryz.sizeOf66 rfl rfl rfl ?_
        intro b28 o29 h30
        obtain ⟨v31, v33, v35, h37, h32, h34, h36⟩ := El_cal_Calendar h30
        refine V_y (Y_loadA h37 Tryz.isAgg66 Tryz.sizeOf66 rfl) rfl rfl rfl ?_
        refine V_alloc Tryz.zeroValue66 rfl ?_
        intro b38 w39 h40
        have h45 : (v31).oneCell' = true := by obtain ⟨_, _, e, _⟩ := Sl.form h32; rw [e]; rfl
        have h48 : (v33).oneCell' = true := by obtain ⟨_, _, e, _⟩ := Sl.form h34; rw [e]; rfl
        have h51 : (v35).oneCell' = true := by obtain ⟨_, _, e, _⟩ := Sl.form h36; rw [e]; rfl
        refine V_storeNew h40 Tryz.sizeOf66 rfl rfl rfl rfl (by exact (List.forall_mem_cons.2 ⟨rfl, (List.forall_mem_cons.2 ⟨h45, (List.forall_mem_cons.2 ⟨h48, (List.forall_mem_cons.2 ⟨h51, (fun _ h => nomatch h)⟩)⟩)⟩)⟩)) ?_
        intro w41 h42
        have hk53 := h42.kp (Dw := Dw)
        have h52 : El (α := cal_Calendar) A16 w41 b38 0 x27 := h42.el hA ⟨[.int .i64 x27.zone.offset, v31], _, rfl, ⟨[.int .i64 x27.zone.offset], _, rfl, rfl, ⟨_, rfl, h32⟩⟩, ⟨[v33], _, rfl, ⟨_, rfl, h34⟩, ⟨_, rfl, h36⟩⟩⟩
        have ht54 := Kp.tr hk53 hA hB
        replace hH := Hp.kp hH hk53
        replace h_cals := Sl.tr h_cals ht54
        replace h30 := El.tr h30 ht54
        replace h32 := Sl.tr h32 ht54
        replace h34 := Sl.tr h34 ht54
        replace h36 := Sl.tr h36 ht54
        replace hK := Tr.trans hK ht54
        replace hr6 := Tr.trans hr6 ht54
        replace hB := Nat.le_trans hB ht54.ex.size
        replace hA := ht54.new
        refine V_to (fun _ _ => rfl) ?_
        refine C_seq ?_
        refine C_region ?_
        obtain ⟨v55, v57, v59, h61, h56, h58, h60⟩ := El_cal_Calendar h52
        refine V_y (Y_loadA h61 Tryz.isAgg66 Tryz.sizeOf66 rfl) rfl rfl rfl ?_
        obtain ⟨x62, hx62, h19⟩ := Option.bind_eq_some_iff.1 h19
        refine V_call Tryz.call67 rfl rfl rfl rfl (portref2_CalendarFault_c (Dw := Dw) w41 hA x27 v55 h56 v57 h58 v59 h60 hx62) ?_
        rintro _ w63 ⟨rfl, hk64⟩
        have ht65 := Kp.tr hk64 hA hB
        replace hH := Hp.kp hH hk64
        replace h_cals := Sl.tr h_cals ht65
        replace h52 := El.tr h52 ht65
        replace h56 := Sl.tr h56 ht65
        replace h58 := Sl.tr h58 ht65
        replace h60 := Sl.tr h60 ht65
        replace hK := Tr.trans hK ht65
        replace hr6 := Tr.trans hr6 ht65
        replace hB := Nat.le_trans hB ht65.ex.size
        replace hA := ht65.new
        refine V_as rfl rfl ?_
        refine V_to (fun _ _ => rfl) ?_
        refine C_seq ?_
        refine C_region ?_
        refine V_mv rfl rfl ?_
        refine V_y (Y_neq rfl rfl) rfl rfl rfl ?_
        refine V_to (fun _ _ => rfl) ?_
        refine C_cond rfl (fun hc66 => ?_) (fun hc66 => ?_)
        · rw [if_pos hc66] at h19
          refine C_seq ?_
          refine C_region ?_
          refine V_mv rfl rfl ?_
          refine V_as rfl rfl ?_
          refine V_to (fun _ _ => rfl) ?_
          obtain rfl := Option.some.inj h19
          obtain rfl := (h20 : Lp.rt _ = _)
          rw [Lp.andThen_rt] at hm
          obtain rfl := Option.some.inj hm
          refine C_ret ?_
          try simp only [↓inBlock_ret, ↓then_ret]
          exact retQ rfl (Res.one Tryz.results42 rfl) ⟨rfl, hK.kp⟩
        · rw [if_neg (nt hc66)] at h19
          refine C_skip_to (fun _ _ => rfl) ?_
          refine C_region ?_
          refine V_y (Y_addI rfl rfl) rfl rfl rfl ?_
          refine V_mv rfl rfl ?_
          obtain rfl := Option.some.inj h19
          refine V_end (fun a ha67 => ?_)
          exact ⟨(), hlt22, h20, ⟨A16, ha67.sub ⟨rfl, rfl, (congrArg (fun z => some (Value.int .i64 z)) (w64_succ hlt22 hn25)), trivial⟩, ⟨hH, hr6⟩⟩⟩
      · refine C_exit (fun a ha68 => ?_)
        exact ⟨((), A16), ha68.sub trivial, ⟨(h23 (eq_of_dec hle21 hc26)).symm, hH, hr6⟩⟩
    rintro ⟨s5, A12⟩ w9 ⟨rfl, hH13, hk10⟩ a ha11
    rw [Lp.andThen_fin] at hm
    replace hK := Tr.trans hK hk10
    replace hB := Nat.le_trans hB hk10.ex.size
    replace hA := hk10.new
    replace hH : Hp w.heap.size A12 w9 ([]) := hH13
    refine C_at (n := ⟨24, [], none⟩) (fun _ _ => rfl) ?_ ha11
    refine C_seq ?_
    refine C_region ?_
    refine V_as rfl rfl ?_
    refine V_to (fun _ _ => rfl) ?_
    obtain rfl := Option.some.inj hm
    refine C_ret ?_
    try simp only [↓inBlock_ret, ↓then_ret]
    exact retQ rfl (Res.one Tryz.results42 rfl) ⟨rfl, hK.kp⟩

set_option maxRecDepth 4000 in
set_option maxHeartbeats 4000000 in
theorem portref2_clocksFault_1_c (w : World) {A : Nat → Prop} (hA : ∀ b, w.heap.size ≤ b → A b) (p : level_Piece) (p1 : (List cal_Calendar)) (b_p1 : Nat) (h_p1 : El A w b_p1 0 p1) {r : Bool} (hm : portref2_clocksFault_1 p p1 = some r) : Ret Tryz.prog 43 #[.agg #[.int .i64 p.from_, .int .i64 p.to_, .int .i64 p.calendar], .pointer (some ⟨b_p1, 0, none⟩)] w fun v w' => v = .bool r ∧ Kp Dw w w' := by
  unfold portref2_clocksFault_1 at hm
  refine enter Tryz.func43 rfl Tryz.ntmps43 rfl ?_
  have hA0 := hA
  have hB := Nat.le_refl w.heap.size
  have hK : Tr Dw w.heap.size A w A w := Tr.refl (Dw := Dw) hA
  have hH : Hp w.heap.size A w [] := Hp.nil
  refine C_seq ?_
  refine C_region ?_
  refine V_box rfl rfl ?_
  intro b1 w2 h3
  have hk5 := h3.kp (Dw := Dw)
  have h4 : El (α := level_Piece) A w2 b1 0 p := h3.el hA ⟨[.int .i64 p.from_], _, rfl, rfl, ⟨[.int .i64 p.to_], _, rfl, rfl, rfl⟩⟩
  have ht6 := Kp.tr hk5 hA hB
  replace hH := Hp.kp hH hk5
  replace h_p1 := El.tr h_p1 ht6
  replace hK := Tr.trans hK ht6
  replace hB := Nat.le_trans hB ht6.ex.size
  replace hA := ht6.new
  refine V_as rfl rfl ?_
  refine V_to (fun _ _ => rfl) ?_
  refine C_seq ?_
  refine C_region ?_
  have h7 := El_level_Piece_2 h4
  refine V_y (Y_fieldAddr Tryz.underlying70 rfl Tryz.sizeOf3 (by decide) rfl) rfl rfl rfl ?_
  refine V_y (Y_load (El.int h7) Tryz.isAgg3 rfl) rfl rfl rfl ?_
  obtain ⟨v8, h9, h10⟩ := El.list h_p1
  refine V_y (Y_load h9 Tryz.isAgg23 rfl) rfl rfl rfl ?_
  refine V_y (Y_lenSl h10 rfl Tryz.underlying23 rfl) rfl rfl rfl ?_
  refine V_y (Y_geq rfl rfl) rfl rfl rfl ?_
  refine V_as rfl rfl ?_
  refine V_to (fun _ _ => rfl) ?_
  obtain rfl := Option.some.inj hm
  refine C_ret ?_
  try simp only [↓inBlock_ret, ↓then_ret]
  exact retQ rfl (Res.one Tryz.results43 rfl) ⟨rfl, hK.kp⟩

end Go.Proofs.YtnjlojicebcikaaGreat.W
