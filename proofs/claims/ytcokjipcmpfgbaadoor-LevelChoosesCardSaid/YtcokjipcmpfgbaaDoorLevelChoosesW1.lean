/-
  Written by program (gen.py) from the IR of the dump: each function computes its model.
-/
import Derived.Test.YtcokjipcmpfgbaaDoorLevelChoosesW0
namespace Go.Proofs.YtcokjipcmpfgbaaDoor.W
open Go Go.RowKit Go.Pu Go.Gw Go.Proofs Go.Proofs.YtcokjipcmpfgbaaDoor.M
set_option linter.unusedVariables false
set_option linter.unusedSimpArgs false

set_option maxRecDepth 4000 in
set_option maxHeartbeats 4000000 in
theorem portref2_testFault_c (w : World) {A : Nat → Prop} (hA : ∀ b, w.heap.size ≤ b → A b) (t : level_Test) {r : Int} (hm : portref2_testFault t = some r) : Ret Tryd.prog 92 #[.agg #[.int .i64 t.field, .int .i64 t.value.kind, .int .i64 t.value.int, .string t.value.text]] w fun v w' => v = .int .i64 r ∧ Kp w w' := by
  unfold portref2_testFault at hm
  refine enter Tryd.func92 rfl Tryd.ntmps92 rfl ?_
  have hA0 := hA
  have hB := Nat.le_refl w.heap.size
  have hK : Tr w.heap.size A w A w := Tr.refl hA
  have hH : Hp w.heap.size A w [] := Hp.nil
  refine C_seq ?_
  refine C_region ?_
  refine V_box rfl rfl ?_
  intro b1 w2 h3
  have hk5 := h3.kp
  have h4 : El (α := level_Test) A w2 b1 0 t := h3.el hA ⟨[.int .i64 t.field], _, rfl, rfl, ⟨[.int .i64 t.value.kind], _, rfl, rfl, ⟨[.int .i64 t.value.int], _, rfl, rfl, rfl⟩⟩⟩
  have ht6 := Kp.tr hk5 hA hB
  replace hH := Hp.kp hH hk5
  replace hK := Tr.trans hK ht6
  replace hB := Nat.le_trans hB ht6.ex.size
  replace hA := ht6.new
  refine V_y (Y_assign rfl) rfl rfl rfl ?_
  refine V_to (fun _ _ => rfl) ?_
  refine C_seq ?_
  refine C_region ?_
  have h7 := El_level_Test_1 h4
  refine V_y (Y_fieldAddr Tryd.underlying97 rfl Tryd.sizeOf95 (by decide) rfl) rfl rfl rfl ?_
  obtain ⟨h8, _⟩ := El_api_Value h7
  refine V_y (Y_loadA h8 Tryd.isAgg95 Tryd.sizeOf95 rfl) rfl rfl rfl ?_
  refine V_alloc Tryd.zeroValue95 rfl ?_
  intro b9 w10 h11
  refine V_storeNew h11 Tryd.sizeOf95 rfl rfl rfl rfl (by exact (List.forall_mem_cons.2 ⟨rfl, (List.forall_mem_cons.2 ⟨rfl, (List.forall_mem_cons.2 ⟨rfl, (fun _ h => nomatch h)⟩)⟩)⟩)) ?_
  intro w12 h13
  have hk15 := h13.kp
  have h14 : El (α := api_Value) A w12 b9 0 t.value := h13.el hA ⟨[.int .i64 t.value.kind], _, rfl, rfl, ⟨[.int .i64 t.value.int], _, rfl, rfl, rfl⟩⟩
  have ht16 := Kp.tr hk15 hA hB
  replace hH := Hp.kp hH hk15
  replace h4 := El.tr h4 ht16
  replace h7 := El.tr h7 ht16
  replace hK := Tr.trans hK ht16
  replace hB := Nat.le_trans hB ht16.ex.size
  replace hA := ht16.new
  refine V_to (fun _ _ => rfl) ?_
  refine C_seq ?_
  refine C_block ?_
  refine C_seq ?_
  refine C_region ?_
  have h17 := El_api_Value_0 h14
  refine V_y (Y_fieldAddr Tryd.underlying95 rfl Tryd.sizeOf3 (by decide) rfl) rfl rfl rfl ?_
  refine V_y (Y_load (El.int h17) Tryd.isAgg3 rfl) rfl rfl rfl ?_
  refine V_y (Y_lss rfl rfl) rfl rfl rfl ?_
  refine V_y (Y_move rfl) rfl rfl rfl ?_
  refine V_cut 4 (fun _ : Unit => [(1, .pointer (some ⟨b1, 0, none⟩)), (3, .pointer (some ⟨b9, 0, none⟩)), (14, .bool ((decide (t.value.kind < 0)) || (decide ((6 : Int) < t.value.kind))))]) (fun _ w' => w12 = w') ?_ ?_
  · simp only [List.take, List.drop]
    rcases Bool.eq_false_or_eq_true (decide (t.value.kind < 0)) with hc18 | hc18
    · refine V_gn rfl rfl rfl hc18 rfl rfl rfl ?_
      refine V_gn rfl rfl rfl hc18 rfl rfl rfl ?_
      refine V_gn rfl rfl rfl hc18 rfl rfl rfl ?_
      refine V_y (Y_pick_te rfl hc18 rfl) rfl rfl rfl ?_
      exact V_end fun a ha => ⟨(), ha.sub ⟨rfl, rfl, (by rw [hc18]; rfl), trivial⟩, rfl⟩
    · refine V_ge rfl rfl rfl hc18 ?_
      have h20 := El_api_Value_0 h14
      refine V_y (Y_fieldAddr Tryd.underlying95 rfl Tryd.sizeOf3 (by decide) rfl) rfl rfl rfl ?_
      refine V_ge rfl rfl rfl hc18 ?_
      refine V_y (Y_load (El.int h20) Tryd.isAgg3 rfl) rfl rfl rfl ?_
      refine V_ge rfl rfl rfl hc18 ?_
      refine V_y (Y_gtr rfl rfl) rfl rfl rfl ?_
      refine V_y (Y_pick_fe rfl hc18 rfl) rfl rfl rfl ?_
      exact V_end fun a ha => ⟨(), ha.sub ⟨rfl, rfl, (by rw [hc18]; rfl), trivial⟩, rfl⟩
  simp only [List.take, List.drop]
  rintro _ _ rfl
  refine V_y (Y_move rfl) rfl rfl rfl ?_
  refine V_cut 9 (fun _ : Unit => [(3, .pointer (some ⟨b9, 0, none⟩)), (24, .bool (((decide (t.value.kind < 0)) || (decide ((6 : Int) < t.value.kind))) || ((decide (t.field < 0)) && (t.value.kind != 2))))]) (fun _ w' => w12 = w') ?_ ?_
  · simp only [List.take, List.drop]
    rcases Bool.eq_false_or_eq_true (((decide (t.value.kind < 0)) || (decide ((6 : Int) < t.value.kind)))) with hc21 | hc21
    · refine V_gn rfl rfl rfl hc21 rfl rfl rfl ?_
      refine V_gn rfl rfl rfl hc21 rfl rfl rfl ?_
      refine V_gn rfl rfl rfl hc21 rfl rfl rfl ?_
      refine V_gn rfl rfl rfl hc21 rfl rfl rfl ?_
      refine V_gu rfl rfl rfl rfl rfl ?_
      refine V_gu rfl rfl rfl rfl rfl ?_
      refine V_gu rfl rfl rfl rfl rfl ?_
      refine V_gn rfl rfl rfl hc21 rfl rfl rfl ?_
      refine V_y (Y_pick_te rfl hc21 rfl) rfl rfl rfl ?_
      exact V_end fun a ha => ⟨(), ha.sub ⟨rfl, (by rw [hc21]; rfl), trivial⟩, rfl⟩
    · refine V_ge rfl rfl rfl hc21 ?_
      have h23 := El_level_Test_0 h4
      refine V_y (Y_fieldAddr Tryd.underlying97 rfl Tryd.sizeOf3 (by decide) rfl) rfl rfl rfl ?_
      refine V_ge rfl rfl rfl hc21 ?_
      refine V_y (Y_load (El.int h23) Tryd.isAgg3 rfl) rfl rfl rfl ?_
      refine V_ge rfl rfl rfl hc21 ?_
      refine V_y (Y_lss rfl rfl) rfl rfl rfl ?_
      refine V_ge rfl rfl rfl hc21 ?_
      refine V_y (Y_move rfl) rfl rfl rfl ?_
      refine V_cut 4 (fun _ : Unit => [(3, .pointer (some ⟨b9, 0, none⟩)), (15, .bool ((decide (t.value.kind < 0)) || (decide ((6 : Int) < t.value.kind)))), (23, .bool ((decide (t.field < 0)) && (t.value.kind != 2)))]) (fun _ w' => w12 = w') ?_ ?_
      · simp only [List.take, List.drop]
        rcases Bool.eq_false_or_eq_true (decide (t.field < 0)) with hc24 | hc24
        · refine V_ge rfl rfl rfl hc24 ?_
          have h26 := El_api_Value_0 h14
          refine V_y (Y_fieldAddr Tryd.underlying95 rfl Tryd.sizeOf3 (by decide) rfl) rfl rfl rfl ?_
          refine V_ge rfl rfl rfl hc24 ?_
          refine V_y (Y_load (El.int h26) Tryd.isAgg3 rfl) rfl rfl rfl ?_
          refine V_ge rfl rfl rfl hc24 ?_
          refine V_y (Y_neq rfl rfl) rfl rfl rfl ?_
          refine V_ge rfl rfl rfl hc21 ?_
          refine V_y (Y_pick_te rfl hc24 rfl) rfl rfl rfl ?_
          exact V_end fun a ha => ⟨(), ha.sub ⟨rfl, rfl, (by rw [hc24]; rfl), trivial⟩, rfl⟩
        · refine V_gn rfl rfl rfl hc24 rfl rfl rfl ?_
          refine V_gn rfl rfl rfl hc24 rfl rfl rfl ?_
          refine V_gn rfl rfl rfl hc24 rfl rfl rfl ?_
          refine V_ge rfl rfl rfl hc21 ?_
          refine V_y (Y_pick_fe rfl hc24 rfl) rfl rfl rfl ?_
          exact V_end fun a ha => ⟨(), ha.sub ⟨rfl, rfl, (by rw [hc24]; rfl), trivial⟩, rfl⟩
      simp only [List.take, List.drop]
      rintro _ _ rfl
      refine V_y (Y_pick_fe rfl hc21 rfl) rfl rfl rfl ?_
      exact V_end fun a ha => ⟨(), ha.sub ⟨rfl, (by rw [hc21]; rfl), trivial⟩, rfl⟩
  simp only [List.take, List.drop]
  rintro _ _ rfl
  refine V_y (Y_assign rfl) rfl rfl rfl ?_
  refine V_to (fun _ _ => rfl) ?_
  refine C_cond rfl (fun hc27 => ?_) (fun hc27 => ?_)
  · rw [if_pos hc27] at hm
    refine C_seq ?_
    refine C_region ?_
    refine V_y (Y_assign rfl) rfl rfl rfl ?_
    refine V_to (fun _ _ => rfl) ?_
    obtain rfl := Option.some.inj hm
    refine C_ret ?_
    try simp only [↓inBlock_ret, ↓then_ret]
    exact retQ rfl (Res.one Tryd.results92 rfl) ⟨rfl, hK.kp⟩
  · rw [if_neg (nt hc27)] at hm
    refine C_seq ?_
    refine C_seq ?_
    refine C_region ?_
    have h28 := El_api_Value_2 h14
    refine V_y (Y_fieldAddr Tryd.underlying95 rfl Tryd.sizeOf9 (by decide) rfl) rfl rfl rfl ?_
    refine V_y (Y_load (El.str h28) Tryd.isAgg9 rfl) rfl rfl rfl ?_
    refine V_y (Y_sneq rfl rfl) rfl rfl rfl ?_
    refine V_y (Y_move rfl) rfl rfl rfl ?_
    refine V_cut 4 (fun _ : Unit => [(3, .pointer (some ⟨b9, 0, none⟩)), (33, .bool ((!(strEq t.value.text (⟨#[]⟩ : ByteArray))) && (t.value.kind != 3)))]) (fun _ w' => w12 = w') ?_ ?_
    · simp only [List.take, List.drop]
      rcases Bool.eq_false_or_eq_true (!(strEq t.value.text (⟨#[]⟩ : ByteArray))) with hc29 | hc29
      · refine V_ge rfl rfl rfl hc29 ?_
        have h31 := El_api_Value_0 h14
        refine V_y (Y_fieldAddr Tryd.underlying95 rfl Tryd.sizeOf3 (by decide) rfl) rfl rfl rfl ?_
        refine V_ge rfl rfl rfl hc29 ?_
        refine V_y (Y_load (El.int h31) Tryd.isAgg3 rfl) rfl rfl rfl ?_
        refine V_ge rfl rfl rfl hc29 ?_
        refine V_y (Y_neq rfl rfl) rfl rfl rfl ?_
        refine V_y (Y_pick_te rfl hc29 rfl) rfl rfl rfl ?_
        exact V_end fun a ha => ⟨(), ha.sub ⟨rfl, (by rw [hc29]; rfl), trivial⟩, rfl⟩
      · refine V_gn rfl rfl rfl hc29 rfl rfl rfl ?_
        refine V_gn rfl rfl rfl hc29 rfl rfl rfl ?_
        refine V_gn rfl rfl rfl hc29 rfl rfl rfl ?_
        refine V_y (Y_pick_fe rfl hc29 rfl) rfl rfl rfl ?_
        exact V_end fun a ha => ⟨(), ha.sub ⟨rfl, (by rw [hc29]; rfl), trivial⟩, rfl⟩
    simp only [List.take, List.drop]
    rintro _ _ rfl
    refine V_y (Y_assign rfl) rfl rfl rfl ?_
    refine V_to (fun _ _ => rfl) ?_
    obtain ⟨s33, ho32, hm⟩ := Option.bind_eq_some_iff.1 hm
    refine C_cutG (ι := Unit) (fun (_ : Unit) => [(3, .pointer (some ⟨b9, 0, none⟩)), (25, .bool s33)]) (fun (_ : Unit) => fun w' => w12 = w') ?_ ?_
    · refine C_cond rfl (fun hc38 => ?_) (fun hc38 => ?_)
      · rw [if_pos hc38] at ho32
        obtain rfl := Option.some.inj ho32
        refine C_skip (fun a ha39 => ?_)
        exact ⟨(), ha39.sub ⟨rfl, rfl, trivial⟩, rfl⟩
      · rw [if_neg (nt hc38)] at ho32
        refine C_region ?_
        have h40 := El_api_Value_1 h14
        refine V_y (Y_fieldAddr Tryd.underlying95 rfl Tryd.sizeOf3 (by decide) rfl) rfl rfl rfl ?_
        refine V_y (Y_load (El.int h40) Tryd.isAgg3 rfl) rfl rfl rfl ?_
        refine V_y (Y_neq rfl rfl) rfl rfl rfl ?_
        refine V_y (Y_move rfl) rfl rfl rfl ?_
        refine V_cut 9 (fun _ : Unit => [(3, .pointer (some ⟨b9, 0, none⟩)), (46, .bool ((t.value.int != 0) && ((t.value.kind == 3) || (t.value.kind == 0))))]) (fun _ w' => w12 = w') ?_ ?_
        · simp only [List.take, List.drop]
          rcases Bool.eq_false_or_eq_true (t.value.int != 0) with hc41 | hc41
          · refine V_ge rfl rfl rfl hc41 ?_
            have h43 := El_api_Value_0 h14
            refine V_y (Y_fieldAddr Tryd.underlying95 rfl Tryd.sizeOf3 (by decide) rfl) rfl rfl rfl ?_
            refine V_ge rfl rfl rfl hc41 ?_
            refine V_y (Y_load (El.int h43) Tryd.isAgg3 rfl) rfl rfl rfl ?_
            refine V_ge rfl rfl rfl hc41 ?_
            refine V_y (Y_eql rfl rfl) rfl rfl rfl ?_
            refine V_ge rfl rfl rfl hc41 ?_
            refine V_y (Y_move rfl) rfl rfl rfl ?_
            refine V_cut 4 (fun _ : Unit => [(3, .pointer (some ⟨b9, 0, none⟩)), (37, .bool (t.value.int != 0)), (45, .bool ((t.value.kind == 3) || (t.value.kind == 0)))]) (fun _ w' => w12 = w') ?_ ?_
            · simp only [List.take, List.drop]
              rcases Bool.eq_false_or_eq_true (t.value.kind == 3) with hc44 | hc44
              · refine V_gn rfl rfl rfl hc44 rfl rfl rfl ?_
                refine V_gn rfl rfl rfl hc44 rfl rfl rfl ?_
                refine V_gn rfl rfl rfl hc44 rfl rfl rfl ?_
                refine V_ge rfl rfl rfl hc41 ?_
                refine V_y (Y_pick_te rfl hc44 rfl) rfl rfl rfl ?_
                exact V_end fun a ha => ⟨(), ha.sub ⟨rfl, rfl, (by rw [hc44]; rfl), trivial⟩, rfl⟩
              · refine V_ge rfl rfl rfl hc44 ?_
                have h46 := El_api_Value_0 h14
                refine V_y (Y_fieldAddr Tryd.underlying95 rfl Tryd.sizeOf3 (by decide) rfl) rfl rfl rfl ?_
                refine V_ge rfl rfl rfl hc44 ?_
                refine V_y (Y_load (El.int h46) Tryd.isAgg3 rfl) rfl rfl rfl ?_
                refine V_ge rfl rfl rfl hc44 ?_
                refine V_y (Y_eql rfl rfl) rfl rfl rfl ?_
                refine V_ge rfl rfl rfl hc41 ?_
                refine V_y (Y_pick_fe rfl hc44 rfl) rfl rfl rfl ?_
                exact V_end fun a ha => ⟨(), ha.sub ⟨rfl, rfl, (by rw [hc44]; rfl), trivial⟩, rfl⟩
            simp only [List.take, List.drop]
            rintro _ _ rfl
            refine V_y (Y_pick_te rfl hc41 rfl) rfl rfl rfl ?_
            exact V_end fun a ha => ⟨(), ha.sub ⟨rfl, (by rw [hc41]; rfl), trivial⟩, rfl⟩
          · refine V_gn rfl rfl rfl hc41 rfl rfl rfl ?_
            refine V_gn rfl rfl rfl hc41 rfl rfl rfl ?_
            refine V_gn rfl rfl rfl hc41 rfl rfl rfl ?_
            refine V_gn rfl rfl rfl hc41 rfl rfl rfl ?_
            refine V_gu rfl rfl rfl rfl rfl ?_
            refine V_gu rfl rfl rfl rfl rfl ?_
            refine V_gu rfl rfl rfl rfl rfl ?_
            refine V_gn rfl rfl rfl hc41 rfl rfl rfl ?_
            refine V_y (Y_pick_fe rfl hc41 rfl) rfl rfl rfl ?_
            exact V_end fun a ha => ⟨(), ha.sub ⟨rfl, (by rw [hc41]; rfl), trivial⟩, rfl⟩
        simp only [List.take, List.drop]
        rintro _ _ rfl
        refine V_y (Y_assign rfl) rfl rfl rfl ?_
        obtain rfl := Option.some.inj ho32
        refine V_end (fun a ha47 => ?_)
        exact ⟨(), ha47.sub ⟨rfl, rfl, trivial⟩, rfl⟩
    rintro _ _ rfl a ha37
    refine C_at (n := ⟨105, [], none⟩) (fun _ _ => rfl) ?_ ha37
    refine C_cond rfl (fun hc48 => ?_) (fun hc48 => ?_)
    · rw [if_pos hc48] at hm
      refine C_seq ?_
      refine C_region ?_
      refine V_y (Y_assign rfl) rfl rfl rfl ?_
      refine V_to (fun _ _ => rfl) ?_
      obtain rfl := Option.some.inj hm
      refine C_ret ?_
      try simp only [↓inBlock_ret, ↓then_ret]
      exact retQ rfl (Res.one Tryd.results92 rfl) ⟨rfl, hK.kp⟩
    · rw [if_neg (nt hc48)] at hm
      refine C_seq ?_
      refine C_seq ?_
      refine C_region ?_
      have h49 := El_api_Value_0 h14
      refine V_y (Y_fieldAddr Tryd.underlying95 rfl Tryd.sizeOf3 (by decide) rfl) rfl rfl rfl ?_
      refine V_y (Y_load (El.int h49) Tryd.isAgg3 rfl) rfl rfl rfl ?_
      refine V_y (Y_eql rfl rfl) rfl rfl rfl ?_
      refine V_y (Y_move rfl) rfl rfl rfl ?_
      refine V_cut 4 (fun _ : Unit => [(3, .pointer (some ⟨b9, 0, none⟩)), (55, .bool ((t.value.kind == 1) && (t.value.int != 0)))]) (fun _ w' => w12 = w') ?_ ?_
      · simp only [List.take, List.drop]
        rcases Bool.eq_false_or_eq_true (t.value.kind == 1) with hc50 | hc50
        · refine V_ge rfl rfl rfl hc50 ?_
          have h52 := El_api_Value_1 h14
          refine V_y (Y_fieldAddr Tryd.underlying95 rfl Tryd.sizeOf3 (by decide) rfl) rfl rfl rfl ?_
          refine V_ge rfl rfl rfl hc50 ?_
          refine V_y (Y_load (El.int h52) Tryd.isAgg3 rfl) rfl rfl rfl ?_
          refine V_ge rfl rfl rfl hc50 ?_
          refine V_y (Y_neq rfl rfl) rfl rfl rfl ?_
          refine V_y (Y_pick_te rfl hc50 rfl) rfl rfl rfl ?_
          exact V_end fun a ha => ⟨(), ha.sub ⟨rfl, (by rw [hc50]; rfl), trivial⟩, rfl⟩
        · refine V_gn rfl rfl rfl hc50 rfl rfl rfl ?_
          refine V_gn rfl rfl rfl hc50 rfl rfl rfl ?_
          refine V_gn rfl rfl rfl hc50 rfl rfl rfl ?_
          refine V_y (Y_pick_fe rfl hc50 rfl) rfl rfl rfl ?_
          exact V_end fun a ha => ⟨(), ha.sub ⟨rfl, (by rw [hc50]; rfl), trivial⟩, rfl⟩
      simp only [List.take, List.drop]
      rintro _ _ rfl
      refine V_y (Y_move rfl) rfl rfl rfl ?_
      refine V_cut 4 (fun _ : Unit => [(3, .pointer (some ⟨b9, 0, none⟩)), (60, .bool (((t.value.kind == 1) && (t.value.int != 0)) && (t.value.int != 1)))]) (fun _ w' => w12 = w') ?_ ?_
      · simp only [List.take, List.drop]
        rcases Bool.eq_false_or_eq_true (((t.value.kind == 1) && (t.value.int != 0))) with hc53 | hc53
        · refine V_ge rfl rfl rfl hc53 ?_
          have h55 := El_api_Value_1 h14
          refine V_y (Y_fieldAddr Tryd.underlying95 rfl Tryd.sizeOf3 (by decide) rfl) rfl rfl rfl ?_
          refine V_ge rfl rfl rfl hc53 ?_
          refine V_y (Y_load (El.int h55) Tryd.isAgg3 rfl) rfl rfl rfl ?_
          refine V_ge rfl rfl rfl hc53 ?_
          refine V_y (Y_neq rfl rfl) rfl rfl rfl ?_
          refine V_y (Y_pick_te rfl hc53 rfl) rfl rfl rfl ?_
          exact V_end fun a ha => ⟨(), ha.sub ⟨rfl, (by rw [hc53]; rfl), trivial⟩, rfl⟩
        · refine V_gn rfl rfl rfl hc53 rfl rfl rfl ?_
          refine V_gn rfl rfl rfl hc53 rfl rfl rfl ?_
          refine V_gn rfl rfl rfl hc53 rfl rfl rfl ?_
          refine V_y (Y_pick_fe rfl hc53 rfl) rfl rfl rfl ?_
          exact V_end fun a ha => ⟨(), ha.sub ⟨rfl, (by rw [hc53]; rfl), trivial⟩, rfl⟩
      simp only [List.take, List.drop]
      rintro _ _ rfl
      refine V_y (Y_assign rfl) rfl rfl rfl ?_
      refine V_to (fun _ _ => rfl) ?_
      obtain ⟨s57, ho56, hm⟩ := Option.bind_eq_some_iff.1 hm
      refine C_cutG (ι := Unit) (fun (_ : Unit) => [(3, .pointer (some ⟨b9, 0, none⟩)), (47, .bool s57)]) (fun (_ : Unit) => fun w' => w12 = w') ?_ ?_
      · refine C_cond rfl (fun hc62 => ?_) (fun hc62 => ?_)
        · rw [if_pos hc62] at ho56
          obtain rfl := Option.some.inj ho56
          refine C_skip (fun a ha63 => ?_)
          exact ⟨(), ha63.sub ⟨rfl, rfl, trivial⟩, rfl⟩
        · rw [if_neg (nt hc62)] at ho56
          refine C_seq ?_
          refine C_region ?_
          have h64 := El_api_Value_0 h14
          refine V_y (Y_fieldAddr Tryd.underlying95 rfl Tryd.sizeOf3 (by decide) rfl) rfl rfl rfl ?_
          refine V_y (Y_load (El.int h64) Tryd.isAgg3 rfl) rfl rfl rfl ?_
          refine V_y (Y_eql rfl rfl) rfl rfl rfl ?_
          refine V_y (Y_move rfl) rfl rfl rfl ?_
          refine V_cut 9 (fun _ : Unit => [(3, .pointer (some ⟨b9, 0, none⟩)), (73, .bool ((t.value.kind == 4) && ((decide (t.value.int < 0)) || (decide ((20 : Int) ≤ t.value.int)))))]) (fun _ w' => w12 = w') ?_ ?_
          · simp only [List.take, List.drop]
            rcases Bool.eq_false_or_eq_true (t.value.kind == 4) with hc65 | hc65
            · refine V_ge rfl rfl rfl hc65 ?_
              have h67 := El_api_Value_1 h14
              refine V_y (Y_fieldAddr Tryd.underlying95 rfl Tryd.sizeOf3 (by decide) rfl) rfl rfl rfl ?_
              refine V_ge rfl rfl rfl hc65 ?_
              refine V_y (Y_load (El.int h67) Tryd.isAgg3 rfl) rfl rfl rfl ?_
              refine V_ge rfl rfl rfl hc65 ?_
              refine V_y (Y_lss rfl rfl) rfl rfl rfl ?_
              refine V_ge rfl rfl rfl hc65 ?_
              refine V_y (Y_move rfl) rfl rfl rfl ?_
              refine V_cut 4 (fun _ : Unit => [(3, .pointer (some ⟨b9, 0, none⟩)), (64, .bool (t.value.kind == 4)), (72, .bool ((decide (t.value.int < 0)) || (decide ((20 : Int) ≤ t.value.int))))]) (fun _ w' => w12 = w') ?_ ?_
              · simp only [List.take, List.drop]
                rcases Bool.eq_false_or_eq_true (decide (t.value.int < 0)) with hc68 | hc68
                · refine V_gn rfl rfl rfl hc68 rfl rfl rfl ?_
                  refine V_gn rfl rfl rfl hc68 rfl rfl rfl ?_
                  refine V_gn rfl rfl rfl hc68 rfl rfl rfl ?_
                  refine V_ge rfl rfl rfl hc65 ?_
                  refine V_y (Y_pick_te rfl hc68 rfl) rfl rfl rfl ?_
                  exact V_end fun a ha => ⟨(), ha.sub ⟨rfl, rfl, (by rw [hc68]; rfl), trivial⟩, rfl⟩
                · refine V_ge rfl rfl rfl hc68 ?_
                  have h70 := El_api_Value_1 h14
                  refine V_y (Y_fieldAddr Tryd.underlying95 rfl Tryd.sizeOf3 (by decide) rfl) rfl rfl rfl ?_
                  refine V_ge rfl rfl rfl hc68 ?_
                  refine V_y (Y_load (El.int h70) Tryd.isAgg3 rfl) rfl rfl rfl ?_
                  refine V_ge rfl rfl rfl hc68 ?_
                  refine V_y (Y_geq rfl rfl) rfl rfl rfl ?_
                  refine V_ge rfl rfl rfl hc65 ?_
                  refine V_y (Y_pick_fe rfl hc68 rfl) rfl rfl rfl ?_
                  exact V_end fun a ha => ⟨(), ha.sub ⟨rfl, rfl, (by rw [hc68]; rfl), trivial⟩, rfl⟩
              simp only [List.take, List.drop]
              rintro _ _ rfl
              refine V_y (Y_pick_te rfl hc65 rfl) rfl rfl rfl ?_
              exact V_end fun a ha => ⟨(), ha.sub ⟨rfl, (by rw [hc65]; rfl), trivial⟩, rfl⟩
            · refine V_gn rfl rfl rfl hc65 rfl rfl rfl ?_
              refine V_gn rfl rfl rfl hc65 rfl rfl rfl ?_
              refine V_gn rfl rfl rfl hc65 rfl rfl rfl ?_
              refine V_gn rfl rfl rfl hc65 rfl rfl rfl ?_
              refine V_gu rfl rfl rfl rfl rfl ?_
              refine V_gu rfl rfl rfl rfl rfl ?_
              refine V_gu rfl rfl rfl rfl rfl ?_
              refine V_gn rfl rfl rfl hc65 rfl rfl rfl ?_
              refine V_y (Y_pick_fe rfl hc65 rfl) rfl rfl rfl ?_
              exact V_end fun a ha => ⟨(), ha.sub ⟨rfl, (by rw [hc65]; rfl), trivial⟩, rfl⟩
          simp only [List.take, List.drop]
          rintro _ _ rfl
          refine V_y (Y_assign rfl) rfl rfl rfl ?_
          refine V_to (fun _ _ => rfl) ?_
          obtain ⟨s72, ho71, ho56⟩ := Option.bind_eq_some_iff.1 ho56
          refine C_cutG (ι := Unit) (fun (_ : Unit) => [(3, .pointer (some ⟨b9, 0, none⟩)), (47, .bool s72)]) (fun (_ : Unit) => fun w' => w12 = w') ?_ ?_
          · refine C_cond rfl (fun hc77 => ?_) (fun hc77 => ?_)
            · rw [if_pos hc77] at ho71
              obtain rfl := Option.some.inj ho71
              refine C_skip (fun a ha78 => ?_)
              exact ⟨(), ha78.sub ⟨rfl, rfl, trivial⟩, rfl⟩
            · rw [if_neg (nt hc77)] at ho71
              refine C_seq ?_
              refine C_region ?_
              have h79 := El_api_Value_0 h14
              refine V_y (Y_fieldAddr Tryd.underlying95 rfl Tryd.sizeOf3 (by decide) rfl) rfl rfl rfl ?_
              refine V_y (Y_load (El.int h79) Tryd.isAgg3 rfl) rfl rfl rfl ?_
              refine V_y (Y_eql rfl rfl) rfl rfl rfl ?_
              refine V_y (Y_move rfl) rfl rfl rfl ?_
              refine V_cut 5 (fun _ : Unit => [(3, .pointer (some ⟨b9, 0, none⟩)), (82, .bool ((t.value.kind == 5) && (!(portref2_IsMoment t.value.int))))]) (fun _ w' => w12 = w') ?_ ?_
              · simp only [List.take, List.drop]
                rcases Bool.eq_false_or_eq_true (t.value.kind == 5) with hc80 | hc80
                · refine V_ge rfl rfl rfl hc80 ?_
                  have h82 := El_api_Value_1 h14
                  refine V_y (Y_fieldAddr Tryd.underlying95 rfl Tryd.sizeOf3 (by decide) rfl) rfl rfl rfl ?_
                  refine V_ge rfl rfl rfl hc80 ?_
                  refine V_y (Y_load (El.int h82) Tryd.isAgg3 rfl) rfl rfl rfl ?_
                  refine V_ge rfl rfl rfl hc80 ?_
                  refine V_call Tryd.call37 rfl rfl rfl rfl (portref2_IsMoment_c w12 t.value.int) ?_
                  rintro _ _ ⟨rfl, rfl⟩
                  refine V_ge rfl rfl rfl hc80 ?_
                  refine V_y (Y_not rfl) rfl rfl rfl ?_
                  refine V_y (Y_pick_te rfl hc80 rfl) rfl rfl rfl ?_
                  exact V_end fun a ha => ⟨(), ha.sub ⟨rfl, (by rw [hc80]; rfl), trivial⟩, rfl⟩
                · refine V_gn rfl rfl rfl hc80 rfl rfl rfl ?_
                  refine V_gn rfl rfl rfl hc80 rfl rfl rfl ?_
                  refine V_gn rfl rfl rfl hc80 rfl rfl rfl ?_
                  refine V_gn rfl rfl rfl hc80 rfl rfl rfl ?_
                  refine V_y (Y_pick_fe rfl hc80 rfl) rfl rfl rfl ?_
                  exact V_end fun a ha => ⟨(), ha.sub ⟨rfl, (by rw [hc80]; rfl), trivial⟩, rfl⟩
              simp only [List.take, List.drop]
              rintro _ _ rfl
              refine V_y (Y_assign rfl) rfl rfl rfl ?_
              refine V_to (fun _ _ => rfl) ?_
              obtain ⟨s84, ho83, ho71⟩ := Option.bind_eq_some_iff.1 ho71
              refine C_cutG (ι := Unit) (fun (_ : Unit) => [(3, .pointer (some ⟨b9, 0, none⟩)), (47, .bool s84)]) (fun (_ : Unit) => fun w' => w12 = w') ?_ ?_
              · refine C_cond rfl (fun hc89 => ?_) (fun hc89 => ?_)
                · rw [if_pos hc89] at ho83
                  obtain rfl := Option.some.inj ho83
                  refine C_skip (fun a ha90 => ?_)
                  exact ⟨(), ha90.sub ⟨rfl, rfl, trivial⟩, rfl⟩
                · rw [if_neg (nt hc89)] at ho83
                  refine C_region ?_
                  have h91 := El_api_Value_0 h14
                  refine V_y (Y_fieldAddr Tryd.underlying95 rfl Tryd.sizeOf3 (by decide) rfl) rfl rfl rfl ?_
                  refine V_y (Y_load (El.int h91) Tryd.isAgg3 rfl) rfl rfl rfl ?_
                  refine V_y (Y_eql rfl rfl) rfl rfl rfl ?_
                  refine V_y (Y_move rfl) rfl rfl rfl ?_
                  refine V_cut 9 (fun _ : Unit => [(3, .pointer (some ⟨b9, 0, none⟩)), (95, .bool ((t.value.kind == 6) && ((decide (t.value.int < 1)) || (decide ((40 : Int) < t.value.int)))))]) (fun _ w' => w12 = w') ?_ ?_
                  · simp only [List.take, List.drop]
                    rcases Bool.eq_false_or_eq_true (t.value.kind == 6) with hc92 | hc92
                    · refine V_ge rfl rfl rfl hc92 ?_
                      have h94 := El_api_Value_1 h14
                      refine V_y (Y_fieldAddr Tryd.underlying95 rfl Tryd.sizeOf3 (by decide) rfl) rfl rfl rfl ?_
                      refine V_ge rfl rfl rfl hc92 ?_
                      refine V_y (Y_load (El.int h94) Tryd.isAgg3 rfl) rfl rfl rfl ?_
                      refine V_ge rfl rfl rfl hc92 ?_
                      refine V_y (Y_lss rfl rfl) rfl rfl rfl ?_
                      refine V_ge rfl rfl rfl hc92 ?_
                      refine V_y (Y_move rfl) rfl rfl rfl ?_
                      refine V_cut 4 (fun _ : Unit => [(3, .pointer (some ⟨b9, 0, none⟩)), (86, .bool (t.value.kind == 6)), (94, .bool ((decide (t.value.int < 1)) || (decide ((40 : Int) < t.value.int))))]) (fun _ w' => w12 = w') ?_ ?_
                      · simp only [List.take, List.drop]
                        rcases Bool.eq_false_or_eq_true (decide (t.value.int < 1)) with hc95 | hc95
                        · refine V_gn rfl rfl rfl hc95 rfl rfl rfl ?_
                          refine V_gn rfl rfl rfl hc95 rfl rfl rfl ?_
                          refine V_gn rfl rfl rfl hc95 rfl rfl rfl ?_
                          refine V_ge rfl rfl rfl hc92 ?_
                          refine V_y (Y_pick_te rfl hc95 rfl) rfl rfl rfl ?_
                          exact V_end fun a ha => ⟨(), ha.sub ⟨rfl, rfl, (by rw [hc95]; rfl), trivial⟩, rfl⟩
                        · refine V_ge rfl rfl rfl hc95 ?_
                          have h97 := El_api_Value_1 h14
                          refine V_y (Y_fieldAddr Tryd.underlying95 rfl Tryd.sizeOf3 (by decide) rfl) rfl rfl rfl ?_
                          refine V_ge rfl rfl rfl hc95 ?_
                          refine V_y (Y_load (El.int h97) Tryd.isAgg3 rfl) rfl rfl rfl ?_
                          refine V_ge rfl rfl rfl hc95 ?_
                          refine V_y (Y_gtr rfl rfl) rfl rfl rfl ?_
                          refine V_ge rfl rfl rfl hc92 ?_
                          refine V_y (Y_pick_fe rfl hc95 rfl) rfl rfl rfl ?_
                          exact V_end fun a ha => ⟨(), ha.sub ⟨rfl, rfl, (by rw [hc95]; rfl), trivial⟩, rfl⟩
                      simp only [List.take, List.drop]
                      rintro _ _ rfl
                      refine V_y (Y_pick_te rfl hc92 rfl) rfl rfl rfl ?_
                      exact V_end fun a ha => ⟨(), ha.sub ⟨rfl, (by rw [hc92]; rfl), trivial⟩, rfl⟩
                    · refine V_gn rfl rfl rfl hc92 rfl rfl rfl ?_
                      refine V_gn rfl rfl rfl hc92 rfl rfl rfl ?_
                      refine V_gn rfl rfl rfl hc92 rfl rfl rfl ?_
                      refine V_gn rfl rfl rfl hc92 rfl rfl rfl ?_
                      refine V_gu rfl rfl rfl rfl rfl ?_
                      refine V_gu rfl rfl rfl rfl rfl ?_
                      refine V_gu rfl rfl rfl rfl rfl ?_
                      refine V_gn rfl rfl rfl hc92 rfl rfl rfl ?_
                      refine V_y (Y_pick_fe rfl hc92 rfl) rfl rfl rfl ?_
                      exact V_end fun a ha => ⟨(), ha.sub ⟨rfl, (by rw [hc92]; rfl), trivial⟩, rfl⟩
                  simp only [List.take, List.drop]
                  rintro _ _ rfl
                  refine V_y (Y_assign rfl) rfl rfl rfl ?_
                  obtain rfl := Option.some.inj ho83
                  refine V_end (fun a ha98 => ?_)
                  exact ⟨(), ha98.sub ⟨rfl, rfl, trivial⟩, rfl⟩
              rintro _ _ rfl a ha88
              obtain rfl := Option.some.inj ho71
              exact ⟨(), ha88.sub ⟨rfl, rfl, trivial⟩, rfl⟩
          rintro _ _ rfl a ha76
          obtain rfl := Option.some.inj ho56
          exact ⟨(), ha76.sub ⟨rfl, rfl, trivial⟩, rfl⟩
      rintro _ _ rfl a ha61
      refine C_at (n := ⟨105, [], none⟩) (fun _ _ => rfl) ?_ ha61
      refine C_cond rfl (fun hc101 => ?_) (fun hc101 => ?_)
      · rw [if_pos hc101] at hm
        refine C_seq ?_
        refine C_region ?_
        refine V_y (Y_assign rfl) rfl rfl rfl ?_
        refine V_to (fun _ _ => rfl) ?_
        obtain rfl := Option.some.inj hm
        refine C_ret ?_
        try simp only [↓inBlock_ret, ↓then_ret]
        exact retQ rfl (Res.one Tryd.results92 rfl) ⟨rfl, hK.kp⟩
      · rw [if_neg (nt hc101)] at hm
        refine C_seq ?_
        refine C_region ?_
        have h102 := El_api_Value_2 h14
        refine V_y (Y_fieldAddr Tryd.underlying95 rfl Tryd.sizeOf9 (by decide) rfl) rfl rfl rfl ?_
        refine V_y (Y_load (El.str h102) Tryd.isAgg9 rfl) rfl rfl rfl ?_
        refine V_y (Y_lenStr rfl Tryd.underlying9 rfl) rfl rfl rfl ?_
        refine V_y (Y_gtr rfl rfl) rfl rfl rfl ?_
        refine V_y (Y_assign rfl) rfl rfl rfl ?_
        refine V_to (fun _ _ => rfl) ?_
        refine C_cond rfl (fun hc103 => ?_) (fun hc103 => ?_)
        · rw [if_pos hc103] at hm
          refine C_seq ?_
          refine C_region ?_
          refine V_y (Y_assign rfl) rfl rfl rfl ?_
          refine V_to (fun _ _ => rfl) ?_
          obtain rfl := Option.some.inj hm
          refine C_ret ?_
          try simp only [↓inBlock_ret, ↓then_ret]
          exact retQ rfl (Res.one Tryd.results92 rfl) ⟨rfl, hK.kp⟩
        · rw [if_neg (nt hc103)] at hm
          refine C_seq ?_
          refine C_region ?_
          have h104 := El_api_Value_2 h14
          refine V_y (Y_fieldAddr Tryd.underlying95 rfl Tryd.sizeOf9 (by decide) rfl) rfl rfl rfl ?_
          refine V_y (Y_load (El.str h104) Tryd.isAgg9 rfl) rfl rfl rfl ?_
          obtain ⟨x105, hx105, hm⟩ := Option.bind_eq_some_iff.1 hm
          refine V_call Tryd.call66 rfl rfl rfl rfl (portref2_lowByte_c w12 hA t.value.text hx105) ?_
          rintro _ w106 ⟨rfl, hk107⟩
          have ht108 := Kp.tr hk107 hA hB
          replace hH := Hp.kp hH hk107
          replace h14 := El.tr h14 ht108
          replace h104 := El.tr h104 ht108
          replace hK := Tr.trans hK ht108
          replace hB := Nat.le_trans hB ht108.ex.size
          replace hA := ht108.new
          refine V_y (Y_assign rfl) rfl rfl rfl ?_
          refine V_to (fun _ _ => rfl) ?_
          refine C_cond rfl (fun hc109 => ?_) (fun hc109 => ?_)
          · rw [if_pos hc109] at hm
            refine C_seq ?_
            refine C_region ?_
            refine V_y (Y_assign rfl) rfl rfl rfl ?_
            refine V_to (fun _ _ => rfl) ?_
            obtain rfl := Option.some.inj hm
            refine C_ret ?_
            try simp only [↓inBlock_ret, ↓then_ret]
            exact retQ rfl (Res.one Tryd.results92 rfl) ⟨rfl, hK.kp⟩
          · rw [if_neg (nt hc109)] at hm
            refine C_skip_to (fun _ _ => rfl) ?_
            refine C_seq ?_
            refine C_region ?_
            refine V_y (Y_assign rfl) rfl rfl rfl ?_
            refine V_to (fun _ _ => rfl) ?_
            obtain rfl := Option.some.inj hm
            refine C_ret ?_
            try simp only [↓inBlock_ret, ↓then_ret]
            exact retQ rfl (Res.one Tryd.results92 rfl) ⟨rfl, hK.kp⟩

set_option maxRecDepth 4000 in
set_option maxHeartbeats 4000000 in
theorem portref2_levelFault_c (w : World) {A : Nat → Prop} (hA : ∀ b, w.heap.size ≤ b → A b) (l : (List level_Level)) (v_l : Value) (h_l : Sl A w v_l l) (i_ : Int) {r : Int} (hm : portref2_levelFault l i_ = some r) : Ret Tryd.prog 57 #[v_l, .int .i64 i_] w fun v w' => v = .int .i64 r ∧ Kp w w' := by
  unfold portref2_levelFault at hm
  refine enter Tryd.func57 rfl Tryd.ntmps57 rfl ?_
  have hA0 := hA
  have hB := Nat.le_refl w.heap.size
  have hK : Tr w.heap.size A w A w := Tr.refl hA
  have hH : Hp w.heap.size A w [] := Hp.nil
  refine C_seq ?_
  refine C_region ?_
  refine V_y (Y_assign rfl) rfl rfl rfl ?_
  refine V_to (fun _ _ => rfl) ?_
  refine C_seq ?_
  refine C_region ?_
  refine V_y (Y_move rfl) rfl rfl rfl ?_
  refine V_y (Y_move rfl) rfl rfl rfl ?_
  obtain ⟨x3, hx3, hm⟩ := Option.bind_eq_some_iff.1 hm
  refine V_indexAddr h_l hx3 Tryd.underlying37 Tryd.sizeOf93 rfl rfl rfl ?_
  intro b4 o5 h6
  obtain ⟨v7, v9, h11, h8, h10⟩ := El_level_Level h6
  refine V_y (Y_loadA h11 Tryd.isAgg93 Tryd.sizeOf93 rfl) rfl rfl rfl ?_
  refine V_alloc Tryd.zeroValue93 rfl ?_
  intro b12 w13 h14
  have h19 : (v7).oneCell' = true := by obtain ⟨_, _, e, _⟩ := Sl.form h8; rw [e]; rfl
  have h22 : (v9).oneCell' = true := by obtain ⟨_, _, e, _⟩ := Sl.form h10; rw [e]; rfl
  refine V_storeNew h14 Tryd.sizeOf93 rfl rfl rfl rfl (by exact (List.forall_mem_cons.2 ⟨rfl, (List.forall_mem_cons.2 ⟨h19, (List.forall_mem_cons.2 ⟨h22, (fun _ h => nomatch h)⟩)⟩)⟩)) ?_
  intro w15 h16
  have hk24 := h16.kp
  have h23 : El (α := level_Level) A w15 b12 0 x3 := h16.el hA ⟨[.string x3.name], _, rfl, rfl, ⟨[v7], _, rfl, ⟨_, rfl, h8⟩, ⟨_, rfl, h10⟩⟩⟩
  have ht25 := Kp.tr hk24 hA hB
  replace hH := Hp.kp hH hk24
  replace h_l := Sl.tr h_l ht25
  replace h6 := El.tr h6 ht25
  replace h8 := Sl.tr h8 ht25
  replace h10 := Sl.tr h10 ht25
  replace hK := Tr.trans hK ht25
  replace hB := Nat.le_trans hB ht25.ex.size
  replace hA := ht25.new
  refine V_to (fun _ _ => rfl) ?_
  refine C_seq ?_
  refine C_seq ?_
  refine C_region ?_
  have h26 := El_level_Level_0 h23
  refine V_y (Y_fieldAddr Tryd.underlying93 rfl Tryd.sizeOf9 (by decide) rfl) rfl rfl rfl ?_
  refine V_y (Y_load (El.str h26) Tryd.isAgg9 rfl) rfl rfl rfl ?_
  obtain ⟨x27, hx27, hm⟩ := Option.bind_eq_some_iff.1 hm
  refine V_call Tryd.call89 rfl rfl rfl rfl (portref2_IsName_c w15 hA x3.name hx27) ?_
  rintro _ w28 ⟨rfl, hk29⟩
  have ht30 := Kp.tr hk29 hA hB
  replace hH := Hp.kp hH hk29
  replace h_l := Sl.tr h_l ht30
  replace h23 := El.tr h23 ht30
  replace h26 := El.tr h26 ht30
  replace hK := Tr.trans hK ht30
  replace hB := Nat.le_trans hB ht30.ex.size
  replace hA := ht30.new
  refine V_y (Y_not rfl) rfl rfl rfl ?_
  refine V_to (fun _ _ => rfl) ?_
  refine C_cond rfl (fun hc31 => ?_) (fun hc31 => ?_)
  · rw [if_pos hc31] at hm
    refine C_seq ?_
    refine C_region ?_
    refine V_y (Y_assign rfl) rfl rfl rfl ?_
    refine V_to (fun _ _ => rfl) ?_
    obtain rfl := Option.some.inj hm
    refine C_ret ?_
    try simp only [↓inBlock_ret, ↓then_ret]
    exact retQ rfl (Res.one Tryd.results57 rfl) ⟨rfl, hK.kp⟩
  · rw [if_neg (nt hc31)] at hm
    refine C_skip_to (fun _ _ => rfl) ?_
    refine C_seq ?_
    refine C_seq ?_
    refine C_region ?_
    refine V_y (Y_move rfl) rfl rfl rfl ?_
    refine V_y (Y_move rfl) rfl rfl rfl ?_
    obtain ⟨x32, hx32, hm⟩ := Option.bind_eq_some_iff.1 hm
    obtain ⟨v33, h34, h34y⟩ := sliceL_val hx32 h_l
    refine V_y (Y_sliceLH h34y Tryd.underlying37 Tryd.sizeOf93 rfl rfl) rfl rfl rfl ?_
    refine V_y (Y_makeFunc rfl rfl) rfl rfl rfl ?_
    obtain ⟨x36, hx36, hm⟩ := Option.bind_eq_some_iff.1 hm
    refine V_call Tryd.call90 rfl rfl rfl rfl (slices_ContainsFunc_Llevel_Level_level_Level_c w28 hA x32 v33 h34 (fun y48 => portref2_levelFault_1 y48 x3) 91 #[] #[.pointer (some ⟨b12, 0, none⟩)] Tryd.call91 (fun w44 A45 ht46 h47 y37 v38 h39 v40 h41 r42 h43 => (portref2_levelFault_1_c w44 h47 y37 v38 h39 v40 h41 x3 b12 (El.tr h23 ht46) h43).mono (fun _ _ h => ⟨h.1, h.2⟩)) hx36) ?_
    rintro _ w49 ⟨rfl, hk50⟩
    have ht51 := Kp.tr hk50 hA hB
    replace hH := Hp.kp hH hk50
    replace h_l := Sl.tr h_l ht51
    replace h23 := El.tr h23 ht51
    replace h34 := Sl.tr h34 ht51
    replace hK := Tr.trans hK ht51
    replace hB := Nat.le_trans hB ht51.ex.size
    replace hA := ht51.new
    refine V_to (fun _ _ => rfl) ?_
    refine C_cond rfl (fun hc52 => ?_) (fun hc52 => ?_)
    · rw [if_pos hc52] at hm
      refine C_seq ?_
      refine C_region ?_
      refine V_y (Y_assign rfl) rfl rfl rfl ?_
      refine V_to (fun _ _ => rfl) ?_
      obtain rfl := Option.some.inj hm
      refine C_ret ?_
      try simp only [↓inBlock_ret, ↓then_ret]
      exact retQ rfl (Res.one Tryd.results57 rfl) ⟨rfl, hK.kp⟩
    · rw [if_neg (nt hc52)] at hm
      refine C_skip_to (fun _ _ => rfl) ?_
      refine C_seq ?_
      refine C_seq ?_
      refine C_region ?_
      have h53 := El_level_Level_1 h23
      refine V_y (Y_fieldAddr Tryd.underlying93 rfl Tryd.sizeOf90 (by decide) rfl) rfl rfl rfl ?_
      obtain ⟨v54, h55, h56⟩ := El.list h53
      refine V_y (Y_load h55 Tryd.isAgg90 rfl) rfl rfl rfl ?_
      refine V_y (Y_lenSl h56 rfl Tryd.underlying90 rfl) rfl rfl rfl ?_
      refine V_y (Y_gtr rfl rfl) rfl rfl rfl ?_
      refine V_to (fun _ _ => rfl) ?_
      refine C_cond rfl (fun hc57 => ?_) (fun hc57 => ?_)
      · rw [if_pos hc57] at hm
        refine C_seq ?_
        refine C_region ?_
        refine V_y (Y_assign rfl) rfl rfl rfl ?_
        refine V_to (fun _ _ => rfl) ?_
        obtain rfl := Option.some.inj hm
        refine C_ret ?_
        try simp only [↓inBlock_ret, ↓then_ret]
        exact retQ rfl (Res.one Tryd.results57 rfl) ⟨rfl, hK.kp⟩
      · rw [if_neg (nt hc57)] at hm
        refine C_skip_to (fun _ _ => rfl) ?_
        refine C_seq ?_
        refine C_seq ?_
        refine C_region ?_
        have h58 := El_level_Level_1 h23
        refine V_y (Y_fieldAddr Tryd.underlying93 rfl Tryd.sizeOf90 (by decide) rfl) rfl rfl rfl ?_
        obtain ⟨v59, h60, h61⟩ := El.list h58
        refine V_y (Y_load h60 Tryd.isAgg90 rfl) rfl rfl rfl ?_
        refine V_y (Y_lenSl h61 rfl Tryd.underlying90 rfl) rfl rfl rfl ?_
        refine V_y (Y_move rfl) rfl rfl rfl ?_
        refine V_to (fun _ _ => rfl) ?_
        have hn82 := Sl.le h61
        obtain ⟨o62, ho62, hm⟩ := Option.bind_eq_some_iff.1 hm
        refine C_cutG (ι := (Unit × (Nat → Prop))) (fun ⟨s63, A69⟩ => [(5, .pointer (some ⟨b12, 0, none⟩))]) (fun ⟨s63, A69⟩ => fun w' => o62 = .fin s63 ∧ Hp w.heap.size A69 w' ([]) ∧ Tr w.heap.size A w49 A69 w') ?_ ?_
        · refine C_block ?_
          refine C_range ho62 (fun k65 _ a w' => ∃ i : (Nat → Prop), Has ⟨115, [], none⟩ a ([(5, .pointer (some ⟨b12, 0, none⟩)), (29, v59), (30, .int .i64 (x3.tests.length : Int)), (31, .int .i64 (k65 : Int))]) ∧ Hp w.heap.size i w' ([]) ∧ Tr w.heap.size A w49 i w') (fun a ha => ⟨A, ha.sub ⟨rfl, rfl, rfl, rfl, trivial⟩, ⟨hH, Tr.refl hA⟩⟩) ?_
          rintro K k65 _ a w72 ⟨A73, ha126, hH74, hr64⟩ hle78 K81 h80
          refine C_of ?_ ha126
          replace h23 := El.tr h23 hr64
          replace h61 := Sl.tr h61 hr64
          replace hK := Tr.trans hK hr64
          replace hB := Nat.le_trans hB hr64.ex.size
          replace hA := hr64.new
          replace hH : Hp w.heap.size A73 w72 ([]) := hH74
          refine C_seq (C_region (V_y (Y_lss rfl rfl) rfl rfl rfl (V_to (fun _ _ => rfl) ?_)))
          refine C_seq ?_
          refine C_cond rfl (fun hc83 => ?_) (fun hc83 => ?_)
          · have hlt79 := lt_of_dec hc83
            obtain ⟨x75, h76, h77⟩ := K81 hlt79
            refine C_skip_to (fun _ _ => rfl) ?_
            refine C_seq ?_
            refine C_block ?_
            refine C_seq ?_
            refine C_region ?_
            refine V_y (Y_move rfl) rfl rfl rfl ?_
            obtain ⟨x84, hx84, h76⟩ := Option.bind_eq_some_iff.1 h76
            refine V_indexAddr h61 hx84 Tryd.underlying90 Tryd.sizeOf97 rfl rfl rfl ?_
            intro b85 o86 h87
            obtain ⟨h88, _⟩ := El_level_Test h87
            refine V_y (Y_loadA h88 Tryd.isAgg97 Tryd.sizeOf97 rfl) rfl rfl rfl ?_
            refine V_alloc Tryd.zeroValue97 rfl ?_
            intro b89 w90 h91
            refine V_y (Y_assign rfl) rfl rfl rfl ?_
            refine V_storeNew h91 Tryd.sizeOf97 rfl rfl rfl rfl (by exact (List.forall_mem_cons.2 ⟨rfl, (List.forall_mem_cons.2 ⟨rfl, (List.forall_mem_cons.2 ⟨rfl, (List.forall_mem_cons.2 ⟨rfl, (fun _ h => nomatch h)⟩)⟩)⟩)⟩)) ?_
            intro w92 h93
            have hk95 := h93.kp
            have h94 : El (α := level_Test) A73 w92 b89 0 x84 := h93.el hA ⟨[.int .i64 x84.field], _, rfl, rfl, ⟨[.int .i64 x84.value.kind], _, rfl, rfl, ⟨[.int .i64 x84.value.int], _, rfl, rfl, rfl⟩⟩⟩
            have ht96 := Kp.tr hk95 hA hB
            replace hH := Hp.kp hH hk95
            replace h23 := El.tr h23 ht96
            replace h61 := Sl.tr h61 ht96
            replace h87 := El.tr h87 ht96
            replace hK := Tr.trans hK ht96
            replace hr64 := Tr.trans hr64 ht96
            replace hB := Nat.le_trans hB ht96.ex.size
            replace hA := ht96.new
            refine V_to (fun _ _ => rfl) ?_
            refine C_seq ?_
            refine C_seq ?_
            refine C_region ?_
            have h97 := El_level_Test_0 h94
            refine V_y (Y_fieldAddr Tryd.underlying97 rfl Tryd.sizeOf3 (by decide) rfl) rfl rfl rfl ?_
            refine V_y (Y_load (El.int h97) Tryd.isAgg3 rfl) rfl rfl rfl ?_
            refine V_y (Y_lss rfl rfl) rfl rfl rfl ?_
            refine V_y (Y_move rfl) rfl rfl rfl ?_
            refine V_cut 4 (fun _ : Unit => [(5, .pointer (some ⟨b12, 0, none⟩)), (6, .int .i64 (k65 : Int)), (7, .pointer (some ⟨b89, 0, none⟩)), (29, v59), (30, .int .i64 (x3.tests.length : Int)), (31, .int .i64 (k65 : Int)), (43, .bool ((decide (x84.field < (-1))) || (decide ((20 : Int) ≤ x84.field))))]) (fun _ w' => w92 = w') ?_ ?_
            · simp only [List.take, List.drop]
              rcases Bool.eq_false_or_eq_true (decide (x84.field < (-1))) with hc98 | hc98
              · refine V_gn rfl rfl rfl hc98 rfl rfl rfl ?_
                refine V_gn rfl rfl rfl hc98 rfl rfl rfl ?_
                refine V_gn rfl rfl rfl hc98 rfl rfl rfl ?_
                refine V_y (Y_pick_te rfl hc98 rfl) rfl rfl rfl ?_
                exact V_end fun a ha => ⟨(), ha.sub ⟨rfl, rfl, rfl, rfl, rfl, rfl, (by rw [hc98]; rfl), trivial⟩, rfl⟩
              · refine V_ge rfl rfl rfl hc98 ?_
                have h100 := El_level_Test_0 h94
                refine V_y (Y_fieldAddr Tryd.underlying97 rfl Tryd.sizeOf3 (by decide) rfl) rfl rfl rfl ?_
                refine V_ge rfl rfl rfl hc98 ?_
                refine V_y (Y_load (El.int h100) Tryd.isAgg3 rfl) rfl rfl rfl ?_
                refine V_ge rfl rfl rfl hc98 ?_
                refine V_y (Y_geq rfl rfl) rfl rfl rfl ?_
                refine V_y (Y_pick_fe rfl hc98 rfl) rfl rfl rfl ?_
                exact V_end fun a ha => ⟨(), ha.sub ⟨rfl, rfl, rfl, rfl, rfl, rfl, (by rw [hc98]; rfl), trivial⟩, rfl⟩
            simp only [List.take, List.drop]
            rintro _ _ rfl
            refine V_to (fun _ _ => rfl) ?_
            refine C_cond rfl (fun hc101 => ?_) (fun hc101 => ?_)
            · rw [if_pos hc101] at h76
              refine C_seq ?_
              refine C_region ?_
              refine V_y (Y_assign rfl) rfl rfl rfl ?_
              refine V_to (fun _ _ => rfl) ?_
              obtain rfl := Option.some.inj h76
              obtain rfl := (h77 : Lp.rt _ = _)
              rw [Lp.andThen_rt] at hm
              obtain rfl := Option.some.inj hm
              refine C_ret ?_
              try simp only [↓inBlock_ret, ↓then_ret]
              exact retQ rfl (Res.one Tryd.results57 rfl) ⟨rfl, hK.kp⟩
            · rw [if_neg (nt hc101)] at h76
              refine C_skip_to (fun _ _ => rfl) ?_
              refine C_seq ?_
              refine C_seq ?_
              refine C_region_q Tryd_mixed (by kernel_rfl) ?_
              refine VQ_y (fun w' hw' => Y_move rfl) rfl rfl rfl ?_
              refine VQ_y (fun w' hw' => Y_gtr rfl rfl) rfl rfl rfl ?_
              refine VQ_y (fun w' hw' => Y_move rfl) rfl rfl rfl ?_
              obtain ⟨s103, hs103, h76⟩ := Option.bind_eq_some_iff.1 h76
              refine VQ_cut 11 (fun _ : Unit => [(5, .pointer (some ⟨b12, 0, none⟩)), (7, .pointer (some ⟨b89, 0, none⟩)), (29, v59), (30, .int .i64 (x3.tests.length : Int)), (31, .int .i64 (k65 : Int)), (57, .bool s103)]) (fun _ => True) ?_ ?_
              · simp only [List.take, List.drop]
                rcases Bool.eq_false_or_eq_true (decide ((0 : Int) < (k65 : Int))) with hc102 | hc102
                · rw [if_pos hc102] at hs103
                  refine VQ_ge rfl rfl rfl hc102 ?_
                  have h104 := El_level_Test_0 h94
                  refine VQ_y (fun w' hw' => Y_fieldAddr Tryd.underlying97 rfl Tryd.sizeOf3 (by decide) rfl) rfl rfl rfl ?_
                  refine VQ_ge rfl rfl rfl hc102 ?_
                  refine VQ_y (fun w' hw' => Y_load (El.int (El.kp h104 hw')) Tryd.isAgg3 rfl) rfl rfl rfl ?_
                  refine VQ_ge rfl rfl rfl hc102 ?_
                  have h105 := El_level_Level_1 h23
                  refine VQ_y (fun w' hw' => Y_fieldAddr Tryd.underlying93 rfl Tryd.sizeOf90 (by decide) rfl) rfl rfl rfl ?_
                  refine VQ_ge rfl rfl rfl hc102 ?_
                  obtain ⟨v106, h107, h108⟩ := El.list h105
                  refine VQ_y (fun w' hw' => Y_load ((World.cell?_of_block (hw'.block _ (World.block_lt_of_cell? _ _ h107))).trans h107) Tryd.isAgg90 rfl) rfl rfl rfl ?_
                  refine VQ_ge rfl rfl rfl hc102 ?_
                  refine VQ_y (fun w' hw' => Y_move rfl) rfl rfl rfl ?_
                  refine VQ_ge rfl rfl rfl hc102 ?_
                  refine VQ_y (fun w' hw' => Y_subI rfl rfl) rfl rfl rfl ?_
                  refine VQ_ge rfl rfl rfl hc102 ?_
                  obtain ⟨x109, hx109, hs103⟩ := Option.bind_eq_some_iff.1 hs103
                  refine VQ_indexAddr h108 hx109 Tryd.underlying90 Tryd.sizeOf97 rfl rfl rfl ?_
                  intro b110 o111 h112
                  refine VQ_ge rfl rfl rfl hc102 ?_
                  have h113 := El_level_Test_0 h112
                  refine VQ_y (fun w' hw' => Y_fieldAddr Tryd.underlying97 rfl Tryd.sizeOf3 (by decide) rfl) rfl rfl rfl ?_
                  refine VQ_ge rfl rfl rfl hc102 ?_
                  refine VQ_y (fun w' hw' => Y_load (El.int (El.kp h113 hw')) Tryd.isAgg3 rfl) rfl rfl rfl ?_
                  refine VQ_ge rfl rfl rfl hc102 ?_
                  refine VQ_y (fun w' hw' => Y_leq rfl rfl) rfl rfl rfl ?_
                  refine VQ_y (fun _ _ => Y_pick_te rfl hc102 rfl) rfl rfl rfl ?_
                  obtain rfl := Option.some.inj hs103
                  exact VQ_end fun a ha => ⟨(), ha.sub ⟨rfl, rfl, rfl, rfl, rfl, rfl, trivial⟩, trivial⟩
                · rw [if_neg (nt hc102)] at hs103
                  refine VQ_gn rfl rfl rfl hc102 rfl rfl rfl ?_
                  refine VQ_gn rfl rfl rfl hc102 rfl rfl rfl ?_
                  refine VQ_gn rfl rfl rfl hc102 rfl rfl rfl ?_
                  refine VQ_gn rfl rfl rfl hc102 rfl rfl rfl ?_
                  refine VQ_gn rfl rfl rfl hc102 rfl rfl rfl ?_
                  refine VQ_gn rfl rfl rfl hc102 rfl rfl rfl ?_
                  refine VQ_gn rfl rfl rfl hc102 rfl rfl rfl ?_
                  refine VQ_gn rfl rfl rfl hc102 rfl rfl rfl ?_
                  refine VQ_gn rfl rfl rfl hc102 rfl rfl rfl ?_
                  refine VQ_gn rfl rfl rfl hc102 rfl rfl rfl ?_
                  refine VQ_y (fun _ _ => Y_pick_fe rfl hc102 rfl) rfl rfl rfl ?_
                  obtain rfl := Option.some.inj hs103
                  exact VQ_end fun a ha => ⟨(), ha.sub ⟨rfl, rfl, rfl, rfl, rfl, rfl, trivial⟩, trivial⟩
              simp only [List.take, List.drop]
              rintro _ _
              refine VQ_to (fun _ _ => rfl) (fun w114 hk115 => ?_)
              have ht116 := Kp.tr hk115 hA hB
              replace hH := Hp.kp hH hk115
              replace h23 := El.tr h23 ht116
              replace h61 := Sl.tr h61 ht116
              replace h94 := El.tr h94 ht116
              replace hK := Tr.trans hK ht116
              replace hr64 := Tr.trans hr64 ht116
              replace hB := Nat.le_trans hB ht116.ex.size
              replace hA := ht116.new
              refine C_cond rfl (fun hc117 => ?_) (fun hc117 => ?_)
              · rw [if_pos hc117] at h76
                refine C_seq ?_
                refine C_region ?_
                refine V_y (Y_assign rfl) rfl rfl rfl ?_
                refine V_to (fun _ _ => rfl) ?_
                obtain rfl := Option.some.inj h76
                obtain rfl := (h77 : Lp.rt _ = _)
                rw [Lp.andThen_rt] at hm
                obtain rfl := Option.some.inj hm
                refine C_ret ?_
                try simp only [↓inBlock_ret, ↓then_ret]
                exact retQ rfl (Res.one Tryd.results57 rfl) ⟨rfl, hK.kp⟩
              · rw [if_neg (nt hc117)] at h76
                refine C_skip_to (fun _ _ => rfl) ?_
                refine C_seq ?_
                refine C_region ?_
                obtain ⟨h118, _⟩ := El_level_Test h94
                refine V_y (Y_loadA h118 Tryd.isAgg97 Tryd.sizeOf97 rfl) rfl rfl rfl ?_
                obtain ⟨x119, hx119, h76⟩ := Option.bind_eq_some_iff.1 h76
                refine V_call Tryd.call92 rfl rfl rfl rfl (portref2_testFault_c w114 hA x84 hx119) ?_
                rintro _ w120 ⟨rfl, hk121⟩
                have ht122 := Kp.tr hk121 hA hB
                replace hH := Hp.kp hH hk121
                replace h23 := El.tr h23 ht122
                replace h61 := Sl.tr h61 ht122
                replace h94 := El.tr h94 ht122
                replace hK := Tr.trans hK ht122
                replace hr64 := Tr.trans hr64 ht122
                replace hB := Nat.le_trans hB ht122.ex.size
                replace hA := ht122.new
                refine V_y (Y_assign rfl) rfl rfl rfl ?_
                refine V_to (fun _ _ => rfl) ?_
                refine C_seq ?_
                refine C_region ?_
                refine V_y (Y_move rfl) rfl rfl rfl ?_
                refine V_y (Y_neq rfl rfl) rfl rfl rfl ?_
                refine V_to (fun _ _ => rfl) ?_
                refine C_cond rfl (fun hc123 => ?_) (fun hc123 => ?_)
                · rw [if_pos hc123] at h76
                  refine C_seq ?_
                  refine C_region ?_
                  refine V_y (Y_move rfl) rfl rfl rfl ?_
                  refine V_y (Y_assign rfl) rfl rfl rfl ?_
                  refine V_to (fun _ _ => rfl) ?_
                  obtain rfl := Option.some.inj h76
                  obtain rfl := (h77 : Lp.rt _ = _)
                  rw [Lp.andThen_rt] at hm
                  obtain rfl := Option.some.inj hm
                  refine C_ret ?_
                  try simp only [↓inBlock_ret, ↓then_ret]
                  exact retQ rfl (Res.one Tryd.results57 rfl) ⟨rfl, hK.kp⟩
                · rw [if_neg (nt hc123)] at h76
                  refine C_skip_to (fun _ _ => rfl) ?_
                  refine C_region ?_
                  refine V_y (Y_addI rfl rfl) rfl rfl rfl ?_
                  refine V_y (Y_move rfl) rfl rfl rfl ?_
                  obtain rfl := Option.some.inj h76
                  refine V_end (fun a ha124 => ?_)
                  exact ⟨(), hlt79, h77, ⟨A73, ha124.sub ⟨rfl, rfl, rfl, (congrArg (fun z => some (Value.int .i64 z)) (w64_succ hlt79 hn82)), trivial⟩, ⟨hH, hr64⟩⟩⟩
          · refine C_exit (fun a ha125 => ?_)
            exact ⟨((), A73), ha125.sub ⟨rfl, trivial⟩, ⟨(h80 (eq_of_dec hle78 hc83)).symm, hH, hr64⟩⟩
        rintro ⟨s63, A69⟩ w66 ⟨rfl, hH70, hk67⟩ a ha68
        rw [Lp.andThen_fin] at hm
        replace h23 := El.tr h23 hk67
        replace hK := Tr.trans hK hk67
        replace hB := Nat.le_trans hB hk67.ex.size
        replace hA := hk67.new
        replace hH : Hp w.heap.size A69 w66 ([]) := hH70
        refine C_at (n := ⟨115, [], none⟩) (fun _ _ => rfl) ?_ ha68
        refine C_seq ?_
        refine C_seq ?_
        refine C_region ?_
        have h127 := El_level_Level_2 h23
        refine V_y (Y_fieldAddr Tryd.underlying93 rfl Tryd.sizeOf91 (by decide) rfl) rfl rfl rfl ?_
        obtain ⟨v128, h129, h130⟩ := El.list h127
        refine V_y (Y_load h129 Tryd.isAgg91 rfl) rfl rfl rfl ?_
        refine V_y (Y_lenSl h130 rfl Tryd.underlying91 rfl) rfl rfl rfl ?_
        refine V_y (Y_move rfl) rfl rfl rfl ?_
        refine V_to (fun _ _ => rfl) ?_
        have hn151 := Sl.le h130
        obtain ⟨o131, ho131, hm⟩ := Option.bind_eq_some_iff.1 hm
        refine C_cutG (ι := (Unit × (Nat → Prop))) (fun ⟨s132, A138⟩ => []) (fun ⟨s132, A138⟩ => fun w' => o131 = .fin s132 ∧ Hp w.heap.size A138 w' ([]) ∧ Tr w.heap.size A69 w66 A138 w') ?_ ?_
        · refine C_block ?_
          refine C_range ho131 (fun k134 _ a w' => ∃ i : (Nat → Prop), Has ⟨115, [], none⟩ a ([(5, .pointer (some ⟨b12, 0, none⟩)), (65, v128), (66, .int .i64 (x3.targets.length : Int)), (67, .int .i64 (k134 : Int))]) ∧ Hp w.heap.size i w' ([]) ∧ Tr w.heap.size A69 w66 i w') (fun a ha => ⟨A69, ha.sub ⟨rfl, rfl, rfl, rfl, trivial⟩, ⟨hH, Tr.refl hA⟩⟩) ?_
          rintro K k134 _ a w141 ⟨A142, ha201, hH143, hr133⟩ hle147 K150 h149
          refine C_of ?_ ha201
          replace h23 := El.tr h23 hr133
          replace h130 := Sl.tr h130 hr133
          replace hK := Tr.trans hK hr133
          replace hB := Nat.le_trans hB hr133.ex.size
          replace hA := hr133.new
          replace hH : Hp w.heap.size A142 w141 ([]) := hH143
          refine C_seq (C_region (V_y (Y_lss rfl rfl) rfl rfl rfl (V_to (fun _ _ => rfl) ?_)))
          refine C_seq ?_
          refine C_cond rfl (fun hc152 => ?_) (fun hc152 => ?_)
          · have hlt148 := lt_of_dec hc152
            obtain ⟨x144, h145, h146⟩ := K150 hlt148
            refine C_skip_to (fun _ _ => rfl) ?_
            refine C_seq ?_
            refine C_block ?_
            refine C_seq ?_
            refine C_region ?_
            refine V_y (Y_move rfl) rfl rfl rfl ?_
            obtain ⟨x153, hx153, h145⟩ := Option.bind_eq_some_iff.1 h145
            refine V_indexAddr h130 hx153 Tryd.underlying91 Tryd.sizeOf100 rfl rfl rfl ?_
            intro b154 o155 h156
            obtain ⟨h157, _⟩ := El_level_Target h156
            refine V_y (Y_loadA h157 Tryd.isAgg100 Tryd.sizeOf100 rfl) rfl rfl rfl ?_
            refine V_alloc Tryd.zeroValue100 rfl ?_
            intro b158 w159 h160
            refine V_y (Y_assign rfl) rfl rfl rfl ?_
            refine V_storeNew h160 Tryd.sizeOf100 rfl rfl rfl rfl (by exact (List.forall_mem_cons.2 ⟨rfl, (List.forall_mem_cons.2 ⟨rfl, (List.forall_mem_cons.2 ⟨rfl, (fun _ h => nomatch h)⟩)⟩)⟩)) ?_
            intro w161 h162
            have hk164 := h162.kp
            have h163 : El (α := level_Target) A142 w161 b158 0 x153 := h162.el hA ⟨[.int .i64 x153.kind], _, rfl, rfl, ⟨[.int .i64 x153.minutes], _, rfl, rfl, rfl⟩⟩
            have ht165 := Kp.tr hk164 hA hB
            replace hH := Hp.kp hH hk164
            replace h23 := El.tr h23 ht165
            replace h130 := Sl.tr h130 ht165
            replace h156 := El.tr h156 ht165
            replace hK := Tr.trans hK ht165
            replace hr133 := Tr.trans hr133 ht165
            replace hB := Nat.le_trans hB ht165.ex.size
            replace hA := ht165.new
            refine V_to (fun _ _ => rfl) ?_
            refine C_seq ?_
            refine C_seq ?_
            refine C_region ?_
            have h166 := El_level_Target_0 h163
            refine V_y (Y_fieldAddr Tryd.underlying100 rfl Tryd.sizeOf3 (by decide) rfl) rfl rfl rfl ?_
            refine V_y (Y_load (El.int h166) Tryd.isAgg3 rfl) rfl rfl rfl ?_
            refine V_y (Y_lss rfl rfl) rfl rfl rfl ?_
            refine V_y (Y_move rfl) rfl rfl rfl ?_
            refine V_cut 4 (fun _ : Unit => [(5, .pointer (some ⟨b12, 0, none⟩)), (9, .int .i64 (k134 : Int)), (10, .pointer (some ⟨b158, 0, none⟩)), (65, v128), (66, .int .i64 (x3.targets.length : Int)), (67, .int .i64 (k134 : Int)), (79, .bool ((decide (x153.kind < 1)) || (decide ((3 : Int) < x153.kind))))]) (fun _ w' => w161 = w') ?_ ?_
            · simp only [List.take, List.drop]
              rcases Bool.eq_false_or_eq_true (decide (x153.kind < 1)) with hc167 | hc167
              · refine V_gn rfl rfl rfl hc167 rfl rfl rfl ?_
                refine V_gn rfl rfl rfl hc167 rfl rfl rfl ?_
                refine V_gn rfl rfl rfl hc167 rfl rfl rfl ?_
                refine V_y (Y_pick_te rfl hc167 rfl) rfl rfl rfl ?_
                exact V_end fun a ha => ⟨(), ha.sub ⟨rfl, rfl, rfl, rfl, rfl, rfl, (by rw [hc167]; rfl), trivial⟩, rfl⟩
              · refine V_ge rfl rfl rfl hc167 ?_
                have h169 := El_level_Target_0 h163
                refine V_y (Y_fieldAddr Tryd.underlying100 rfl Tryd.sizeOf3 (by decide) rfl) rfl rfl rfl ?_
                refine V_ge rfl rfl rfl hc167 ?_
                refine V_y (Y_load (El.int h169) Tryd.isAgg3 rfl) rfl rfl rfl ?_
                refine V_ge rfl rfl rfl hc167 ?_
                refine V_y (Y_gtr rfl rfl) rfl rfl rfl ?_
                refine V_y (Y_pick_fe rfl hc167 rfl) rfl rfl rfl ?_
                exact V_end fun a ha => ⟨(), ha.sub ⟨rfl, rfl, rfl, rfl, rfl, rfl, (by rw [hc167]; rfl), trivial⟩, rfl⟩
            simp only [List.take, List.drop]
            rintro _ _ rfl
            refine V_y (Y_move rfl) rfl rfl rfl ?_
            refine V_cut 4 (fun _ : Unit => [(5, .pointer (some ⟨b12, 0, none⟩)), (9, .int .i64 (k134 : Int)), (10, .pointer (some ⟨b158, 0, none⟩)), (65, v128), (66, .int .i64 (x3.targets.length : Int)), (67, .int .i64 (k134 : Int)), (84, .bool (((decide (x153.kind < 1)) || (decide ((3 : Int) < x153.kind))) || (decide (x153.minutes < 0))))]) (fun _ w' => w161 = w') ?_ ?_
            · simp only [List.take, List.drop]
              rcases Bool.eq_false_or_eq_true (((decide (x153.kind < 1)) || (decide ((3 : Int) < x153.kind)))) with hc170 | hc170
              · refine V_gn rfl rfl rfl hc170 rfl rfl rfl ?_
                refine V_gn rfl rfl rfl hc170 rfl rfl rfl ?_
                refine V_gn rfl rfl rfl hc170 rfl rfl rfl ?_
                refine V_y (Y_pick_te rfl hc170 rfl) rfl rfl rfl ?_
                exact V_end fun a ha => ⟨(), ha.sub ⟨rfl, rfl, rfl, rfl, rfl, rfl, (by rw [hc170]; rfl), trivial⟩, rfl⟩
              · refine V_ge rfl rfl rfl hc170 ?_
                have h172 := El_level_Target_1 h163
                refine V_y (Y_fieldAddr Tryd.underlying100 rfl Tryd.sizeOf3 (by decide) rfl) rfl rfl rfl ?_
                refine V_ge rfl rfl rfl hc170 ?_
                refine V_y (Y_load (El.int h172) Tryd.isAgg3 rfl) rfl rfl rfl ?_
                refine V_ge rfl rfl rfl hc170 ?_
                refine V_y (Y_lss rfl rfl) rfl rfl rfl ?_
                refine V_y (Y_pick_fe rfl hc170 rfl) rfl rfl rfl ?_
                exact V_end fun a ha => ⟨(), ha.sub ⟨rfl, rfl, rfl, rfl, rfl, rfl, (by rw [hc170]; rfl), trivial⟩, rfl⟩
            simp only [List.take, List.drop]
            rintro _ _ rfl
            refine V_y (Y_move rfl) rfl rfl rfl ?_
            refine V_cut 4 (fun _ : Unit => [(5, .pointer (some ⟨b12, 0, none⟩)), (9, .int .i64 (k134 : Int)), (10, .pointer (some ⟨b158, 0, none⟩)), (65, v128), (66, .int .i64 (x3.targets.length : Int)), (67, .int .i64 (k134 : Int)), (89, .bool ((((decide (x153.kind < 1)) || (decide ((3 : Int) < x153.kind))) || (decide (x153.minutes < 0))) || (decide ((100000 : Int) < x153.minutes))))]) (fun _ w' => w161 = w') ?_ ?_
            · simp only [List.take, List.drop]
              rcases Bool.eq_false_or_eq_true ((((decide (x153.kind < 1)) || (decide ((3 : Int) < x153.kind))) || (decide (x153.minutes < 0)))) with hc173 | hc173
              · refine V_gn rfl rfl rfl hc173 rfl rfl rfl ?_
                refine V_gn rfl rfl rfl hc173 rfl rfl rfl ?_
                refine V_gn rfl rfl rfl hc173 rfl rfl rfl ?_
                refine V_y (Y_pick_te rfl hc173 rfl) rfl rfl rfl ?_
                exact V_end fun a ha => ⟨(), ha.sub ⟨rfl, rfl, rfl, rfl, rfl, rfl, (by rw [hc173]; rfl), trivial⟩, rfl⟩
              · refine V_ge rfl rfl rfl hc173 ?_
                have h175 := El_level_Target_1 h163
                refine V_y (Y_fieldAddr Tryd.underlying100 rfl Tryd.sizeOf3 (by decide) rfl) rfl rfl rfl ?_
                refine V_ge rfl rfl rfl hc173 ?_
                refine V_y (Y_load (El.int h175) Tryd.isAgg3 rfl) rfl rfl rfl ?_
                refine V_ge rfl rfl rfl hc173 ?_
                refine V_y (Y_gtr rfl rfl) rfl rfl rfl ?_
                refine V_y (Y_pick_fe rfl hc173 rfl) rfl rfl rfl ?_
                exact V_end fun a ha => ⟨(), ha.sub ⟨rfl, rfl, rfl, rfl, rfl, rfl, (by rw [hc173]; rfl), trivial⟩, rfl⟩
            simp only [List.take, List.drop]
            rintro _ _ rfl
            refine V_y (Y_move rfl) rfl rfl rfl ?_
            refine V_cut 4 (fun _ : Unit => [(5, .pointer (some ⟨b12, 0, none⟩)), (9, .int .i64 (k134 : Int)), (10, .pointer (some ⟨b158, 0, none⟩)), (65, v128), (66, .int .i64 (x3.targets.length : Int)), (67, .int .i64 (k134 : Int)), (94, .bool (((((decide (x153.kind < 1)) || (decide ((3 : Int) < x153.kind))) || (decide (x153.minutes < 0))) || (decide ((100000 : Int) < x153.minutes))) || (decide (x153.calendar < 0))))]) (fun _ w' => w161 = w') ?_ ?_
            · simp only [List.take, List.drop]
              rcases Bool.eq_false_or_eq_true (((((decide (x153.kind < 1)) || (decide ((3 : Int) < x153.kind))) || (decide (x153.minutes < 0))) || (decide ((100000 : Int) < x153.minutes)))) with hc176 | hc176
              · refine V_gn rfl rfl rfl hc176 rfl rfl rfl ?_
                refine V_gn rfl rfl rfl hc176 rfl rfl rfl ?_
                refine V_gn rfl rfl rfl hc176 rfl rfl rfl ?_
                refine V_y (Y_pick_te rfl hc176 rfl) rfl rfl rfl ?_
                exact V_end fun a ha => ⟨(), ha.sub ⟨rfl, rfl, rfl, rfl, rfl, rfl, (by rw [hc176]; rfl), trivial⟩, rfl⟩
              · refine V_ge rfl rfl rfl hc176 ?_
                have h178 := El_level_Target_2 h163
                refine V_y (Y_fieldAddr Tryd.underlying100 rfl Tryd.sizeOf3 (by decide) rfl) rfl rfl rfl ?_
                refine V_ge rfl rfl rfl hc176 ?_
                refine V_y (Y_load (El.int h178) Tryd.isAgg3 rfl) rfl rfl rfl ?_
                refine V_ge rfl rfl rfl hc176 ?_
                refine V_y (Y_lss rfl rfl) rfl rfl rfl ?_
                refine V_y (Y_pick_fe rfl hc176 rfl) rfl rfl rfl ?_
                exact V_end fun a ha => ⟨(), ha.sub ⟨rfl, rfl, rfl, rfl, rfl, rfl, (by rw [hc176]; rfl), trivial⟩, rfl⟩
            simp only [List.take, List.drop]
            rintro _ _ rfl
            refine V_y (Y_move rfl) rfl rfl rfl ?_
            refine V_cut 4 (fun _ : Unit => [(5, .pointer (some ⟨b12, 0, none⟩)), (9, .int .i64 (k134 : Int)), (10, .pointer (some ⟨b158, 0, none⟩)), (65, v128), (66, .int .i64 (x3.targets.length : Int)), (67, .int .i64 (k134 : Int)), (99, .bool ((((((decide (x153.kind < 1)) || (decide ((3 : Int) < x153.kind))) || (decide (x153.minutes < 0))) || (decide ((100000 : Int) < x153.minutes))) || (decide (x153.calendar < 0))) || (decide ((20 : Int) ≤ x153.calendar))))]) (fun _ w' => w161 = w') ?_ ?_
            · simp only [List.take, List.drop]
              rcases Bool.eq_false_or_eq_true ((((((decide (x153.kind < 1)) || (decide ((3 : Int) < x153.kind))) || (decide (x153.minutes < 0))) || (decide ((100000 : Int) < x153.minutes))) || (decide (x153.calendar < 0)))) with hc179 | hc179
              · refine V_gn rfl rfl rfl hc179 rfl rfl rfl ?_
                refine V_gn rfl rfl rfl hc179 rfl rfl rfl ?_
                refine V_gn rfl rfl rfl hc179 rfl rfl rfl ?_
                refine V_y (Y_pick_te rfl hc179 rfl) rfl rfl rfl ?_
                exact V_end fun a ha => ⟨(), ha.sub ⟨rfl, rfl, rfl, rfl, rfl, rfl, (by rw [hc179]; rfl), trivial⟩, rfl⟩
              · refine V_ge rfl rfl rfl hc179 ?_
                have h181 := El_level_Target_2 h163
                refine V_y (Y_fieldAddr Tryd.underlying100 rfl Tryd.sizeOf3 (by decide) rfl) rfl rfl rfl ?_
                refine V_ge rfl rfl rfl hc179 ?_
                refine V_y (Y_load (El.int h181) Tryd.isAgg3 rfl) rfl rfl rfl ?_
                refine V_ge rfl rfl rfl hc179 ?_
                refine V_y (Y_geq rfl rfl) rfl rfl rfl ?_
                refine V_y (Y_pick_fe rfl hc179 rfl) rfl rfl rfl ?_
                exact V_end fun a ha => ⟨(), ha.sub ⟨rfl, rfl, rfl, rfl, rfl, rfl, (by rw [hc179]; rfl), trivial⟩, rfl⟩
            simp only [List.take, List.drop]
            rintro _ _ rfl
            refine V_to (fun _ _ => rfl) ?_
            refine C_cond rfl (fun hc182 => ?_) (fun hc182 => ?_)
            · rw [if_pos hc182] at h145
              refine C_seq ?_
              refine C_region ?_
              refine V_y (Y_assign rfl) rfl rfl rfl ?_
              refine V_to (fun _ _ => rfl) ?_
              obtain rfl := Option.some.inj h145
              obtain rfl := (h146 : Lp.rt _ = _)
              rw [Lp.andThen_rt] at hm
              obtain rfl := Option.some.inj hm
              refine C_ret ?_
              try simp only [↓inBlock_ret, ↓then_ret]
              exact retQ rfl (Res.one Tryd.results57 rfl) ⟨rfl, hK.kp⟩
            · rw [if_neg (nt hc182)] at h145
              refine C_skip_to (fun _ _ => rfl) ?_
              refine C_seq ?_
              refine C_region_q Tryd_mixed (by kernel_rfl) ?_
              refine VQ_y (fun w' hw' => Y_move rfl) rfl rfl rfl ?_
              refine VQ_y (fun w' hw' => Y_gtr rfl rfl) rfl rfl rfl ?_
              refine VQ_y (fun w' hw' => Y_move rfl) rfl rfl rfl ?_
              obtain ⟨s184, hs184, h145⟩ := Option.bind_eq_some_iff.1 h145
              refine VQ_cut 11 (fun _ : Unit => [(5, .pointer (some ⟨b12, 0, none⟩)), (65, v128), (66, .int .i64 (x3.targets.length : Int)), (67, .int .i64 (k134 : Int)), (113, .bool s184)]) (fun _ => True) ?_ ?_
              · simp only [List.take, List.drop]
                rcases Bool.eq_false_or_eq_true (decide ((0 : Int) < (k134 : Int))) with hc183 | hc183
                · rw [if_pos hc183] at hs184
                  refine VQ_ge rfl rfl rfl hc183 ?_
                  have h185 := El_level_Target_0 h163
                  refine VQ_y (fun w' hw' => Y_fieldAddr Tryd.underlying100 rfl Tryd.sizeOf3 (by decide) rfl) rfl rfl rfl ?_
                  refine VQ_ge rfl rfl rfl hc183 ?_
                  refine VQ_y (fun w' hw' => Y_load (El.int (El.kp h185 hw')) Tryd.isAgg3 rfl) rfl rfl rfl ?_
                  refine VQ_ge rfl rfl rfl hc183 ?_
                  have h186 := El_level_Level_2 h23
                  refine VQ_y (fun w' hw' => Y_fieldAddr Tryd.underlying93 rfl Tryd.sizeOf91 (by decide) rfl) rfl rfl rfl ?_
                  refine VQ_ge rfl rfl rfl hc183 ?_
                  obtain ⟨v187, h188, h189⟩ := El.list h186
                  refine VQ_y (fun w' hw' => Y_load ((World.cell?_of_block (hw'.block _ (World.block_lt_of_cell? _ _ h188))).trans h188) Tryd.isAgg91 rfl) rfl rfl rfl ?_
                  refine VQ_ge rfl rfl rfl hc183 ?_
                  refine VQ_y (fun w' hw' => Y_move rfl) rfl rfl rfl ?_
                  refine VQ_ge rfl rfl rfl hc183 ?_
                  refine VQ_y (fun w' hw' => Y_subI rfl rfl) rfl rfl rfl ?_
                  refine VQ_ge rfl rfl rfl hc183 ?_
                  obtain ⟨x190, hx190, hs184⟩ := Option.bind_eq_some_iff.1 hs184
                  refine VQ_indexAddr h189 hx190 Tryd.underlying91 Tryd.sizeOf100 rfl rfl rfl ?_
                  intro b191 o192 h193
                  refine VQ_ge rfl rfl rfl hc183 ?_
                  have h194 := El_level_Target_0 h193
                  refine VQ_y (fun w' hw' => Y_fieldAddr Tryd.underlying100 rfl Tryd.sizeOf3 (by decide) rfl) rfl rfl rfl ?_
                  refine VQ_ge rfl rfl rfl hc183 ?_
                  refine VQ_y (fun w' hw' => Y_load (El.int (El.kp h194 hw')) Tryd.isAgg3 rfl) rfl rfl rfl ?_
                  refine VQ_ge rfl rfl rfl hc183 ?_
                  refine VQ_y (fun w' hw' => Y_leq rfl rfl) rfl rfl rfl ?_
                  refine VQ_y (fun _ _ => Y_pick_te rfl hc183 rfl) rfl rfl rfl ?_
                  obtain rfl := Option.some.inj hs184
                  exact VQ_end fun a ha => ⟨(), ha.sub ⟨rfl, rfl, rfl, rfl, rfl, trivial⟩, trivial⟩
                · rw [if_neg (nt hc183)] at hs184
                  refine VQ_gn rfl rfl rfl hc183 rfl rfl rfl ?_
                  refine VQ_gn rfl rfl rfl hc183 rfl rfl rfl ?_
                  refine VQ_gn rfl rfl rfl hc183 rfl rfl rfl ?_
                  refine VQ_gn rfl rfl rfl hc183 rfl rfl rfl ?_
                  refine VQ_gn rfl rfl rfl hc183 rfl rfl rfl ?_
                  refine VQ_gn rfl rfl rfl hc183 rfl rfl rfl ?_
                  refine VQ_gn rfl rfl rfl hc183 rfl rfl rfl ?_
                  refine VQ_gn rfl rfl rfl hc183 rfl rfl rfl ?_
                  refine VQ_gn rfl rfl rfl hc183 rfl rfl rfl ?_
                  refine VQ_gn rfl rfl rfl hc183 rfl rfl rfl ?_
                  refine VQ_y (fun _ _ => Y_pick_fe rfl hc183 rfl) rfl rfl rfl ?_
                  obtain rfl := Option.some.inj hs184
                  exact VQ_end fun a ha => ⟨(), ha.sub ⟨rfl, rfl, rfl, rfl, rfl, trivial⟩, trivial⟩
              simp only [List.take, List.drop]
              rintro _ _
              refine VQ_to (fun _ _ => rfl) (fun w195 hk196 => ?_)
              have ht197 := Kp.tr hk196 hA hB
              replace hH := Hp.kp hH hk196
              replace h23 := El.tr h23 ht197
              replace h130 := Sl.tr h130 ht197
              replace hK := Tr.trans hK ht197
              replace hr133 := Tr.trans hr133 ht197
              replace hB := Nat.le_trans hB ht197.ex.size
              replace hA := ht197.new
              refine C_cond rfl (fun hc198 => ?_) (fun hc198 => ?_)
              · rw [if_pos hc198] at h145
                refine C_seq ?_
                refine C_region ?_
                refine V_y (Y_assign rfl) rfl rfl rfl ?_
                refine V_to (fun _ _ => rfl) ?_
                obtain rfl := Option.some.inj h145
                obtain rfl := (h146 : Lp.rt _ = _)
                rw [Lp.andThen_rt] at hm
                obtain rfl := Option.some.inj hm
                refine C_ret ?_
                try simp only [↓inBlock_ret, ↓then_ret]
                exact retQ rfl (Res.one Tryd.results57 rfl) ⟨rfl, hK.kp⟩
              · rw [if_neg (nt hc198)] at h145
                refine C_skip_to (fun _ _ => rfl) ?_
                refine C_region ?_
                refine V_y (Y_addI rfl rfl) rfl rfl rfl ?_
                refine V_y (Y_move rfl) rfl rfl rfl ?_
                obtain rfl := Option.some.inj h145
                refine V_end (fun a ha199 => ?_)
                exact ⟨(), hlt148, h146, ⟨A142, ha199.sub ⟨rfl, rfl, rfl, (congrArg (fun z => some (Value.int .i64 z)) (w64_succ hlt148 hn151)), trivial⟩, ⟨hH, hr133⟩⟩⟩
          · refine C_exit (fun a ha200 => ?_)
            exact ⟨((), A142), ha200.sub trivial, ⟨(h149 (eq_of_dec hle147 hc152)).symm, hH, hr133⟩⟩
        rintro ⟨s132, A138⟩ w135 ⟨rfl, hH139, hk136⟩ a ha137
        rw [Lp.andThen_fin] at hm
        replace hK := Tr.trans hK hk136
        replace hB := Nat.le_trans hB hk136.ex.size
        replace hA := hk136.new
        replace hH : Hp w.heap.size A138 w135 ([]) := hH139
        refine C_at (n := ⟨115, [], none⟩) (fun _ _ => rfl) ?_ ha137
        refine C_seq ?_
        refine C_region ?_
        refine V_y (Y_assign rfl) rfl rfl rfl ?_
        refine V_to (fun _ _ => rfl) ?_
        obtain rfl := Option.some.inj hm
        refine C_ret ?_
        try simp only [↓inBlock_ret, ↓then_ret]
        exact retQ rfl (Res.one Tryd.results57 rfl) ⟨rfl, hK.kp⟩

set_option maxRecDepth 4000 in
set_option maxHeartbeats 4000000 in
theorem portref2_PolicyFault_c (w : World) {A : Nat → Prop} (hA : ∀ b, w.heap.size ≤ b → A b) (p : level_Policy) (v_p0 : Value) (h_p0 : Sl A w v_p0 p.pauses) (v_p1 : Value) (h_p1 : Sl A w v_p1 p.levels) {r : Int} (hm : portref2_PolicyFault p = some r) : Ret Tryd.prog 23 #[.agg #[v_p0, v_p1]] w fun v w' => v = .int .i64 r ∧ Kp w w' := by
  unfold portref2_PolicyFault at hm
  refine enter Tryd.func23 rfl Tryd.ntmps23 rfl ?_
  have hA0 := hA
  have hB := Nat.le_refl w.heap.size
  have hK : Tr w.heap.size A w A w := Tr.refl hA
  have hH : Hp w.heap.size A w [] := Hp.nil
  refine C_seq ?_
  refine C_region ?_
  refine V_box rfl rfl ?_
  intro b5 w6 h7
  have hk9 := h7.kp
  have h8 : El (α := level_Policy) A w6 b5 0 p := h7.el hA ⟨[v_p0], _, rfl, ⟨_, rfl, h_p0⟩, ⟨_, rfl, h_p1⟩⟩
  have ht10 := Kp.tr hk9 hA hB
  replace hH := Hp.kp hH hk9
  replace h_p0 := Sl.tr h_p0 ht10
  replace h_p1 := Sl.tr h_p1 ht10
  replace hK := Tr.trans hK ht10
  replace hB := Nat.le_trans hB ht10.ex.size
  replace hA := ht10.new
  refine V_y (Y_assign rfl) rfl rfl rfl ?_
  refine V_to (fun _ _ => rfl) ?_
  refine C_seq ?_
  refine C_seq ?_
  refine C_region ?_
  have h11 := El_level_Policy_0 h8
  refine V_y (Y_fieldAddr Tryd.underlying39 rfl Tryd.sizeOf28 (by decide) rfl) rfl rfl rfl ?_
  obtain ⟨v12, h13, h14⟩ := El.list h11
  refine V_y (Y_load h13 Tryd.isAgg28 rfl) rfl rfl rfl ?_
  have hn15 := Sl.le h14
  refine V_y (Y_lenSl h14 rfl Tryd.underlying28 rfl) rfl rfl rfl ?_
  refine V_y (Y_move rfl) rfl rfl rfl ?_
  refine V_to (fun _ _ => rfl) ?_
  have hn32 := Sl.le h14
  obtain ⟨o16, ho16, hm⟩ := Option.bind_eq_some_iff.1 hm
  refine C_cutG (ι := Unit) (fun (s17 : Unit) => [(1, .pointer (some ⟨b5, 0, none⟩))]) (fun (s17 : Unit) => fun w' => o16 = .fin s17 ∧ w6 = w') ?_ ?_
  · refine C_block ?_
    refine C_range ho16 (fun k19 _ a w' => ∃ i : Unit, Has ⟨52, [], none⟩ a ([(1, .pointer (some ⟨b5, 0, none⟩)), (8, v12), (9, .int .i64 (p.pauses.length : Int)), (10, .int .i64 (k19 : Int))]) ∧ w6 = w') (fun a ha => ⟨(), ha.sub ⟨rfl, rfl, rfl, rfl, trivial⟩, rfl⟩) ?_
    rintro K k19 _ a _ ⟨_, ha54, rfl⟩ hle28 K31 h30
    refine C_of ?_ ha54
    refine C_seq (C_region (V_y (Y_lss rfl rfl) rfl rfl rfl (V_to (fun _ _ => rfl) ?_)))
    refine C_seq ?_
    refine C_cond rfl (fun hc33 => ?_) (fun hc33 => ?_)
    · have hlt29 := lt_of_dec hc33
      obtain ⟨x25, h26, h27⟩ := K31 hlt29
      refine C_skip_to (fun _ _ => rfl) ?_
      refine C_seq ?_
      refine C_block ?_
      refine C_seq ?_
      refine C_region ?_
      refine V_y (Y_move rfl) rfl rfl rfl ?_
      obtain ⟨x34, hx34, h26⟩ := Option.bind_eq_some_iff.1 h26
      refine V_indexAddr h14 hx34 Tryd.underlying28 Tryd.sizeOf3 rfl rfl rfl ?_
      intro b35 o36 h37
      refine V_y (Y_load (El.int h37) Tryd.isAgg3 rfl) rfl rfl rfl ?_
      refine V_y (Y_assign rfl) rfl rfl rfl ?_
      refine V_y (Y_assign rfl) rfl rfl rfl ?_
      refine V_to (fun _ _ => rfl) ?_
      refine C_seq ?_
      refine C_seq ?_
      refine C_region ?_
      refine V_y (Y_move rfl) rfl rfl rfl ?_
      refine V_y (Y_lss rfl rfl) rfl rfl rfl ?_
      refine V_y (Y_move rfl) rfl rfl rfl ?_
      refine V_cut 3 (fun _ : Unit => [(1, .pointer (some ⟨b5, 0, none⟩)), (3, .int .i64 (k19 : Int)), (4, .int .i64 x34), (8, v12), (9, .int .i64 (p.pauses.length : Int)), (10, .int .i64 (k19 : Int)), (20, .bool ((decide (x34 < 1)) || (decide ((4 : Int) < x34))))]) (fun _ w' => w6 = w') ?_ ?_
      · simp only [List.take, List.drop]
        rcases Bool.eq_false_or_eq_true (decide (x34 < 1)) with hc38 | hc38
        · refine V_gn rfl rfl rfl hc38 rfl rfl rfl ?_
          refine V_gn rfl rfl rfl hc38 rfl rfl rfl ?_
          refine V_y (Y_pick_te rfl hc38 rfl) rfl rfl rfl ?_
          exact V_end fun a ha => ⟨(), ha.sub ⟨rfl, rfl, rfl, rfl, rfl, rfl, (by rw [hc38]; rfl), trivial⟩, rfl⟩
        · refine V_ge rfl rfl rfl hc38 ?_
          refine V_y (Y_move rfl) rfl rfl rfl ?_
          refine V_ge rfl rfl rfl hc38 ?_
          refine V_y (Y_gtr rfl rfl) rfl rfl rfl ?_
          refine V_y (Y_pick_fe rfl hc38 rfl) rfl rfl rfl ?_
          exact V_end fun a ha => ⟨(), ha.sub ⟨rfl, rfl, rfl, rfl, rfl, rfl, (by rw [hc38]; rfl), trivial⟩, rfl⟩
      simp only [List.take, List.drop]
      rintro _ _ rfl
      refine V_to (fun _ _ => rfl) ?_
      refine C_cond rfl (fun hc40 => ?_) (fun hc40 => ?_)
      · rw [if_pos hc40] at h26
        refine C_seq ?_
        refine C_region ?_
        refine V_y (Y_assign rfl) rfl rfl rfl ?_
        refine V_to (fun _ _ => rfl) ?_
        obtain rfl := Option.some.inj h26
        obtain rfl := (h27 : Lp.rt _ = _)
        rw [Lp.andThen_rt] at hm
        obtain rfl := Option.some.inj hm
        refine C_ret ?_
        try simp only [↓inBlock_ret, ↓then_ret]
        exact retQ rfl (Res.one Tryd.results23 rfl) ⟨rfl, hK.kp⟩
      · rw [if_neg (nt hc40)] at h26
        refine C_skip_to (fun _ _ => rfl) ?_
        refine C_seq ?_
        refine C_region ?_
        refine V_y (Y_move rfl) rfl rfl rfl ?_
        refine V_y (Y_gtr rfl rfl) rfl rfl rfl ?_
        refine V_y (Y_move rfl) rfl rfl rfl ?_
        obtain ⟨s42, hs42, h26⟩ := Option.bind_eq_some_iff.1 h26
        refine V_cut 9 (fun _ : Unit => [(1, .pointer (some ⟨b5, 0, none⟩)), (8, v12), (9, .int .i64 (p.pauses.length : Int)), (10, .int .i64 (k19 : Int)), (32, .bool s42)]) (fun _ w' => w6 = w') ?_ ?_
        · simp only [List.take, List.drop]
          rcases Bool.eq_false_or_eq_true (decide ((0 : Int) < (k19 : Int))) with hc41 | hc41
          · rw [if_pos hc41] at hs42
            refine V_ge rfl rfl rfl hc41 ?_
            refine V_y (Y_move rfl) rfl rfl rfl ?_
            refine V_ge rfl rfl rfl hc41 ?_
            have h43 := El_level_Policy_0 h8
            refine V_y (Y_fieldAddr Tryd.underlying39 rfl Tryd.sizeOf28 (by decide) rfl) rfl rfl rfl ?_
            refine V_ge rfl rfl rfl hc41 ?_
            obtain ⟨v44, h45, h46⟩ := El.list h43
            refine V_y (Y_load h45 Tryd.isAgg28 rfl) rfl rfl rfl ?_
            refine V_ge rfl rfl rfl hc41 ?_
            refine V_y (Y_move rfl) rfl rfl rfl ?_
            refine V_ge rfl rfl rfl hc41 ?_
            refine V_y (Y_subI rfl rfl) rfl rfl rfl ?_
            refine V_ge rfl rfl rfl hc41 ?_
            obtain ⟨x47, hx47, hs42⟩ := Option.bind_eq_some_iff.1 hs42
            refine V_indexAddr h46 hx47 Tryd.underlying28 Tryd.sizeOf3 rfl rfl rfl ?_
            intro b48 o49 h50
            refine V_ge rfl rfl rfl hc41 ?_
            refine V_y (Y_load (El.int h50) Tryd.isAgg3 rfl) rfl rfl rfl ?_
            refine V_ge rfl rfl rfl hc41 ?_
            refine V_y (Y_leq rfl rfl) rfl rfl rfl ?_
            refine V_y (Y_pick_te rfl hc41 rfl) rfl rfl rfl ?_
            obtain rfl := Option.some.inj hs42
            exact V_end fun a ha => ⟨(), ha.sub ⟨rfl, rfl, rfl, rfl, rfl, trivial⟩, rfl⟩
          · rw [if_neg (nt hc41)] at hs42
            refine V_gn rfl rfl rfl hc41 rfl rfl rfl ?_
            refine V_gn rfl rfl rfl hc41 rfl rfl rfl ?_
            refine V_gn rfl rfl rfl hc41 rfl rfl rfl ?_
            refine V_gn rfl rfl rfl hc41 rfl rfl rfl ?_
            refine V_gn rfl rfl rfl hc41 rfl rfl rfl ?_
            refine V_gn rfl rfl rfl hc41 rfl rfl rfl ?_
            refine V_gn rfl rfl rfl hc41 rfl rfl rfl ?_
            refine V_gn rfl rfl rfl hc41 rfl rfl rfl ?_
            refine V_y (Y_pick_fe rfl hc41 rfl) rfl rfl rfl ?_
            obtain rfl := Option.some.inj hs42
            exact V_end fun a ha => ⟨(), ha.sub ⟨rfl, rfl, rfl, rfl, rfl, trivial⟩, rfl⟩
        simp only [List.take, List.drop]
        rintro _ _ rfl
        refine V_to (fun _ _ => rfl) ?_
        refine C_cond rfl (fun hc51 => ?_) (fun hc51 => ?_)
        · rw [if_pos hc51] at h26
          refine C_seq ?_
          refine C_region ?_
          refine V_y (Y_assign rfl) rfl rfl rfl ?_
          refine V_to (fun _ _ => rfl) ?_
          obtain rfl := Option.some.inj h26
          obtain rfl := (h27 : Lp.rt _ = _)
          rw [Lp.andThen_rt] at hm
          obtain rfl := Option.some.inj hm
          refine C_ret ?_
          try simp only [↓inBlock_ret, ↓then_ret]
          exact retQ rfl (Res.one Tryd.results23 rfl) ⟨rfl, hK.kp⟩
        · rw [if_neg (nt hc51)] at h26
          refine C_skip_to (fun _ _ => rfl) ?_
          refine C_region ?_
          refine V_y (Y_addI rfl rfl) rfl rfl rfl ?_
          refine V_y (Y_move rfl) rfl rfl rfl ?_
          obtain rfl := Option.some.inj h26
          refine V_end (fun a ha52 => ?_)
          exact ⟨(), hlt29, h27, ⟨(), ha52.sub ⟨rfl, rfl, rfl, (congrArg (fun z => some (Value.int .i64 z)) (w64_succ hlt29 hn32)), trivial⟩, rfl⟩⟩
    · refine C_exit (fun a ha53 => ?_)
      exact ⟨(), ha53.sub ⟨rfl, trivial⟩, ⟨(h30 (eq_of_dec hle28 hc33)).symm, rfl⟩⟩
  rintro s17 _ ⟨rfl, rfl⟩ a ha22
  rw [Lp.andThen_fin] at hm
  refine C_at (n := ⟨52, [], none⟩) (fun _ _ => rfl) ?_ ha22
  refine C_seq ?_
  refine C_seq ?_
  refine C_region ?_
  have h55 := El_level_Policy_1 h8
  refine V_y (Y_fieldAddr Tryd.underlying39 rfl Tryd.sizeOf37 (by decide) rfl) rfl rfl rfl ?_
  obtain ⟨v56, h57, h58⟩ := El.list h55
  refine V_y (Y_load h57 Tryd.isAgg37 rfl) rfl rfl rfl ?_
  have hn59 := Sl.le h58
  refine V_y (Y_lenSl h58 rfl Tryd.underlying37 rfl) rfl rfl rfl ?_
  refine V_y (Y_gtr rfl rfl) rfl rfl rfl ?_
  refine V_to (fun _ _ => rfl) ?_
  refine C_cond rfl (fun hc60 => ?_) (fun hc60 => ?_)
  · rw [if_pos hc60] at hm
    refine C_seq ?_
    refine C_region ?_
    refine V_y (Y_assign rfl) rfl rfl rfl ?_
    refine V_to (fun _ _ => rfl) ?_
    obtain rfl := Option.some.inj hm
    refine C_ret ?_
    try simp only [↓inBlock_ret, ↓then_ret]
    exact retQ rfl (Res.one Tryd.results23 rfl) ⟨rfl, hK.kp⟩
  · rw [if_neg (nt hc60)] at hm
    refine C_skip_to (fun _ _ => rfl) ?_
    refine C_seq ?_
    refine C_seq ?_
    refine C_region ?_
    have h61 := El_level_Policy_1 h8
    refine V_y (Y_fieldAddr Tryd.underlying39 rfl Tryd.sizeOf37 (by decide) rfl) rfl rfl rfl ?_
    obtain ⟨v62, h63, h64⟩ := El.list h61
    refine V_y (Y_load h63 Tryd.isAgg37 rfl) rfl rfl rfl ?_
    have hn65 := Sl.le h64
    refine V_y (Y_lenSl h64 rfl Tryd.underlying37 rfl) rfl rfl rfl ?_
    refine V_y (Y_move rfl) rfl rfl rfl ?_
    refine V_to (fun _ _ => rfl) ?_
    obtain ⟨o66, ho66, hm⟩ := Option.bind_eq_some_iff.1 hm
    refine C_cutG (ι := (Unit × (Nat → Prop))) (fun ⟨s67, A73⟩ => []) (fun ⟨s67, A73⟩ => fun w' => o66 = .fin s67 ∧ Hp w.heap.size A73 w' ([]) ∧ Tr w.heap.size A w6 A73 w') ?_ ?_
    · refine C_block ?_
      refine C_range ho66 (fun k69 _ a w' => ∃ i : (Nat → Prop), Has ⟨52, [], none⟩ a ([(1, .pointer (some ⟨b5, 0, none⟩)), (40, .int .i64 (p.levels.length : Int)), (41, .int .i64 (k69 : Int))]) ∧ Hp w.heap.size i w' ([]) ∧ Tr w.heap.size A w6 i w') (fun a ha => ⟨A, ha.sub ⟨rfl, rfl, rfl, trivial⟩, ⟨hH, Tr.refl hA⟩⟩) ?_
      rintro K k69 _ a w76 ⟨A77, ha99, hH78, hr68⟩ hle82 K85 h84
      refine C_of ?_ ha99
      replace h8 := El.tr h8 hr68
      replace hK := Tr.trans hK hr68
      replace hB := Nat.le_trans hB hr68.ex.size
      replace hA := hr68.new
      replace hH : Hp w.heap.size A77 w76 ([]) := hH78
      refine C_seq (C_region (V_y (Y_lss rfl rfl) rfl rfl rfl (V_to (fun _ _ => rfl) ?_)))
      refine C_seq ?_
      refine C_cond rfl (fun hc87 => ?_) (fun hc87 => ?_)
      · have hlt83 := lt_of_dec hc87
        obtain ⟨x79, h80, h81⟩ := K85 hlt83
        refine C_skip_to (fun _ _ => rfl) ?_
        refine C_seq ?_
        refine C_block ?_
        refine C_seq ?_
        refine C_region ?_
        refine V_y (Y_move rfl) rfl rfl rfl ?_
        refine V_y (Y_assign rfl) rfl rfl rfl ?_
        refine V_to (fun _ _ => rfl) ?_
        refine C_seq ?_
        refine C_region ?_
        have h88 := El_level_Policy_1 h8
        refine V_y (Y_fieldAddr Tryd.underlying39 rfl Tryd.sizeOf37 (by decide) rfl) rfl rfl rfl ?_
        obtain ⟨v89, h90, h91⟩ := El.list h88
        refine V_y (Y_load h90 Tryd.isAgg37 rfl) rfl rfl rfl ?_
        refine V_y (Y_move rfl) rfl rfl rfl ?_
        obtain ⟨x92, hx92, h80⟩ := Option.bind_eq_some_iff.1 h80
        refine V_call Tryd.call57 rfl rfl rfl rfl (portref2_levelFault_c w76 hA p.levels v89 h91 (k69 : Int) hx92) ?_
        rintro _ w93 ⟨rfl, hk94⟩
        have ht95 := Kp.tr hk94 hA hB
        replace hH := Hp.kp hH hk94
        replace h8 := El.tr h8 ht95
        replace h88 := El.tr h88 ht95
        replace h91 := Sl.tr h91 ht95
        replace hK := Tr.trans hK ht95
        replace hr68 := Tr.trans hr68 ht95
        replace hB := Nat.le_trans hB ht95.ex.size
        replace hA := ht95.new
        refine V_y (Y_assign rfl) rfl rfl rfl ?_
        refine V_to (fun _ _ => rfl) ?_
        refine C_seq ?_
        refine C_region ?_
        refine V_y (Y_move rfl) rfl rfl rfl ?_
        refine V_y (Y_neq rfl rfl) rfl rfl rfl ?_
        refine V_to (fun _ _ => rfl) ?_
        refine C_cond rfl (fun hc96 => ?_) (fun hc96 => ?_)
        · rw [if_pos hc96] at h80
          refine C_seq ?_
          refine C_region ?_
          refine V_y (Y_move rfl) rfl rfl rfl ?_
          refine V_y (Y_assign rfl) rfl rfl rfl ?_
          refine V_to (fun _ _ => rfl) ?_
          obtain rfl := Option.some.inj h80
          obtain rfl := (h81 : Lp.rt _ = _)
          rw [Lp.andThen_rt] at hm
          obtain rfl := Option.some.inj hm
          refine C_ret ?_
          try simp only [↓inBlock_ret, ↓then_ret]
          exact retQ rfl (Res.one Tryd.results23 rfl) ⟨rfl, hK.kp⟩
        · rw [if_neg (nt hc96)] at h80
          refine C_skip_to (fun _ _ => rfl) ?_
          refine C_region ?_
          refine V_y (Y_addI rfl rfl) rfl rfl rfl ?_
          refine V_y (Y_move rfl) rfl rfl rfl ?_
          obtain rfl := Option.some.inj h80
          refine V_end (fun a ha97 => ?_)
          exact ⟨(), hlt83, h81, ⟨A77, ha97.sub ⟨rfl, rfl, (congrArg (fun z => some (Value.int .i64 z)) (w64_succ hlt83 hn65)), trivial⟩, ⟨hH, hr68⟩⟩⟩
      · refine C_exit (fun a ha98 => ?_)
        exact ⟨((), A77), ha98.sub trivial, ⟨(h84 (eq_of_dec hle82 hc87)).symm, hH, hr68⟩⟩
    rintro ⟨s67, A73⟩ w70 ⟨rfl, hH74, hk71⟩ a ha72
    rw [Lp.andThen_fin] at hm
    replace hK := Tr.trans hK hk71
    replace hB := Nat.le_trans hB hk71.ex.size
    replace hA := hk71.new
    replace hH : Hp w.heap.size A73 w70 ([]) := hH74
    refine C_at (n := ⟨52, [], none⟩) (fun _ _ => rfl) ?_ ha72
    refine C_seq ?_
    refine C_region ?_
    refine V_y (Y_assign rfl) rfl rfl rfl ?_
    refine V_to (fun _ _ => rfl) ?_
    obtain rfl := Option.some.inj hm
    refine C_ret ?_
    try simp only [↓inBlock_ret, ↓then_ret]
    exact retQ rfl (Res.one Tryd.results23 rfl) ⟨rfl, hK.kp⟩

set_option maxRecDepth 4000 in
set_option maxHeartbeats 4000000 in
theorem portref2_levelIn_1_1_c (w : World) {A : Nat → Prop} (hA : ∀ b, w.heap.size ≤ b → A b) (t : level_Test) (p1 : Int) (b_p1 : Nat) (h_p1 : El A w b_p1 0 p1) (p2 : (List api_Value)) (b_p2 : Nat) (h_p2 : El A w b_p2 0 p2) {r : Bool} (hm : portref2_levelIn_1_1 t p1 p2 = some r) : Ret Tryd.prog 73 #[.agg #[.int .i64 t.field, .int .i64 t.value.kind, .int .i64 t.value.int, .string t.value.text], .pointer (some ⟨b_p1, 0, none⟩), .pointer (some ⟨b_p2, 0, none⟩)] w fun v w' => v = .bool r ∧ Kp w w' := by
  unfold portref2_levelIn_1_1 at hm
  refine enter Tryd.func73 rfl Tryd.ntmps73 rfl ?_
  have hA0 := hA
  have hB := Nat.le_refl w.heap.size
  have hK : Tr w.heap.size A w A w := Tr.refl hA
  have hH : Hp w.heap.size A w [] := Hp.nil
  refine C_seq ?_
  refine C_region ?_
  refine V_box rfl rfl ?_
  intro b1 w2 h3
  have hk5 := h3.kp
  have h4 : El (α := level_Test) A w2 b1 0 t := h3.el hA ⟨[.int .i64 t.field], _, rfl, rfl, ⟨[.int .i64 t.value.kind], _, rfl, rfl, ⟨[.int .i64 t.value.int], _, rfl, rfl, rfl⟩⟩⟩
  have ht6 := Kp.tr hk5 hA hB
  replace hH := Hp.kp hH hk5
  replace h_p1 := El.tr h_p1 ht6
  replace h_p2 := El.tr h_p2 ht6
  replace hK := Tr.trans hK ht6
  replace hB := Nat.le_trans hB ht6.ex.size
  replace hA := ht6.new
  refine V_y (Y_assign rfl) rfl rfl rfl ?_
  refine V_to (fun _ _ => rfl) ?_
  refine C_seq ?_
  refine C_region ?_
  refine V_y (Y_build Tryd.underlying95 Tryd.zeroValue95 (Tryd_places95 _ Tryd.underlying95) rfl (by with_unfolding_all rfl)) rfl rfl rfl ?_
  refine V_allocH (B := w.heap.size) hH Tryd.zeroValue95 hB hA rfl ?_
  intro b7 w9 A10 hH11 ht12
  replace h_p1 := El.tr h_p1 ht12
  replace h_p2 := El.tr h_p2 ht12
  replace h4 := El.tr h4 ht12
  replace hK := Tr.trans hK ht12
  replace hB := Nat.le_trans hB ht12.ex.size
  replace hA := ht12.new
  replace hH : Hp w.heap.size A10 w9 (obC b7 [.int .i64 0, .int .i64 0, .string ByteArray.empty] 95 :: []) := hH11
  refine V_storeC (off := 0) (ds := [.int .i64 0, .int .i64 0, .string ByteArray.empty]) hH (i := 0) rfl Tryd.sizeOf95 rfl (Nat.le_of_ble_eq_true rfl) (by simp [Value.cells, Value.oneCell']) rfl hB hA rfl rfl ?_
  intro w13 hH14 ht15
  replace h_p1 := El.tr h_p1 ht15
  replace h_p2 := El.tr h_p2 ht15
  replace h4 := El.tr h4 ht15
  replace hK := Tr.trans hK ht15
  replace hB := Nat.le_trans hB ht15.ex.size
  replace hA := ht15.new
  replace hH : Hp w.heap.size A10 w13 (obC b7 [.int .i64 0, .int .i64 0, .string ByteArray.empty] 95 :: []) := hH14
  refine V_to (fun _ _ => rfl) ?_
  refine C_seq ?_
  refine C_seq ?_
  refine C_region ?_
  have h16 := El_level_Test_0 h4
  refine V_y (Y_fieldAddr Tryd.underlying97 rfl Tryd.sizeOf3 (by decide) rfl) rfl rfl rfl ?_
  refine V_y (Y_load (El.int h16) Tryd.isAgg3 rfl) rfl rfl rfl ?_
  refine V_y (Y_lss rfl rfl) rfl rfl rfl ?_
  refine V_to (fun _ _ => rfl) ?_
  obtain ⟨s18, ho17, hm⟩ := Option.bind_eq_some_iff.1 hm
  refine C_cutG (ι := (Nat → Prop)) (fun (A23 : (Nat → Prop)) => [(3, .pointer (some ⟨b1, 0, none⟩)), (5, .pointer (some ⟨b7, 0, none⟩))]) (fun (A23 : (Nat → Prop)) => fun w' => Hp w.heap.size A23 w' (obC b7 [.int .i64 s18.kind, .int .i64 s18.int, .string s18.text] 95 :: []) ∧ Tr w.heap.size A10 w13 A23 w') ?_ ?_
  · have hr19 : Tr w.heap.size A10 w13 A10 w13 := Tr.refl hA
    refine C_cond rfl (fun hc25 => ?_) (fun hc25 => ?_)
    · rw [if_pos hc25] at ho17
      refine C_region ?_
      refine V_y (Y_load (El.int h_p1) Tryd.isAgg3 rfl) rfl rfl rfl ?_
      refine V_y (Y_build Tryd.underlying95 Tryd.zeroValue95 (Tryd_places95 _ Tryd.underlying95) rfl (by with_unfolding_all rfl)) rfl rfl rfl ?_
      refine V_storeC (off := 0) (ds := [.int .i64 2, .int .i64 p1, .string ByteArray.empty]) hH (i := 0) rfl Tryd.sizeOf95 rfl (Nat.le_of_ble_eq_true rfl) (by simp [Value.cells, Value.oneCell']) rfl hB hA rfl rfl ?_
      intro w26 hH27 ht28
      replace h_p1 := El.tr h_p1 ht28
      replace h_p2 := El.tr h_p2 ht28
      replace h4 := El.tr h4 ht28
      replace hK := Tr.trans hK ht28
      replace hr19 := Tr.trans hr19 ht28
      replace hB := Nat.le_trans hB ht28.ex.size
      replace hA := ht28.new
      replace hH : Hp w.heap.size A10 w26 (obC b7 [.int .i64 2, .int .i64 p1, .string ByteArray.empty] 95 :: []) := hH27
      obtain rfl := Option.some.inj ho17
      refine V_end (fun a ha29 => ?_)
      exact ⟨A10, ha29.sub ⟨rfl, rfl, trivial⟩, ⟨hH, hr19⟩⟩
    · rw [if_neg (nt hc25)] at ho17
      refine C_seq ?_
      refine C_region ?_
      have h30 := El_level_Test_0 h4
      refine V_y (Y_fieldAddr Tryd.underlying97 rfl Tryd.sizeOf3 (by decide) rfl) rfl rfl rfl ?_
      refine V_y (Y_load (El.int h30) Tryd.isAgg3 rfl) rfl rfl rfl ?_
      obtain ⟨v31, h32, h33⟩ := El.list h_p2
      refine V_y (Y_load h32 Tryd.isAgg40 rfl) rfl rfl rfl ?_
      refine V_y (Y_lenSl h33 rfl Tryd.underlying40 rfl) rfl rfl rfl ?_
      refine V_y (Y_lss rfl rfl) rfl rfl rfl ?_
      refine V_to (fun _ _ => rfl) ?_
      obtain ⟨s35, ho34, ho17⟩ := Option.bind_eq_some_iff.1 ho17
      refine C_cutG (ι := (Nat → Prop)) (fun (A40 : (Nat → Prop)) => [(3, .pointer (some ⟨b1, 0, none⟩)), (5, .pointer (some ⟨b7, 0, none⟩))]) (fun (A40 : (Nat → Prop)) => fun w' => Hp w.heap.size A40 w' (obC b7 [.int .i64 s35.kind, .int .i64 s35.int, .string s35.text] 95 :: []) ∧ Tr w.heap.size A10 w13 A40 w') ?_ ?_
      · have hr36 : Tr w.heap.size A10 w13 A10 w13 := Tr.refl hA
        refine C_cond rfl (fun hc42 => ?_) (fun hc42 => ?_)
        · rw [if_pos hc42] at ho34
          refine C_region ?_
          obtain ⟨v43, h44, h45⟩ := El.list h_p2
          refine V_y (Y_load h44 Tryd.isAgg40 rfl) rfl rfl rfl ?_
          have h46 := El_level_Test_0 h4
          refine V_y (Y_fieldAddr Tryd.underlying97 rfl Tryd.sizeOf3 (by decide) rfl) rfl rfl rfl ?_
          refine V_y (Y_load (El.int h46) Tryd.isAgg3 rfl) rfl rfl rfl ?_
          obtain ⟨x47, hx47, ho34⟩ := Option.bind_eq_some_iff.1 ho34
          refine V_indexAddr h45 hx47 Tryd.underlying40 Tryd.sizeOf95 rfl rfl rfl ?_
          intro b48 o49 h50
          obtain ⟨h51, _⟩ := El_api_Value h50
          refine V_y (Y_loadA h51 Tryd.isAgg95 Tryd.sizeOf95 rfl) rfl rfl rfl ?_
          refine V_storeC (off := 0) (ds := [.int .i64 x47.kind, .int .i64 x47.int, .string x47.text]) hH (i := 0) rfl Tryd.sizeOf95 rfl (Nat.le_of_ble_eq_true rfl) (by simp [Value.cells, Value.oneCell']) rfl hB hA rfl rfl ?_
          intro w52 hH53 ht54
          replace h_p2 := El.tr h_p2 ht54
          replace h4 := El.tr h4 ht54
          replace h45 := Sl.tr h45 ht54
          replace h46 := El.tr h46 ht54
          replace h50 := El.tr h50 ht54
          replace hK := Tr.trans hK ht54
          replace hr19 := Tr.trans hr19 ht54
          replace hr36 := Tr.trans hr36 ht54
          replace hB := Nat.le_trans hB ht54.ex.size
          replace hA := ht54.new
          replace hH : Hp w.heap.size A10 w52 (obC b7 [.int .i64 x47.kind, .int .i64 x47.int, .string x47.text] 95 :: []) := hH53
          obtain rfl := Option.some.inj ho34
          refine V_end (fun a ha55 => ?_)
          exact ⟨A10, ha55.sub ⟨rfl, rfl, trivial⟩, ⟨hH, hr36⟩⟩
        · rw [if_neg (nt hc42)] at ho34
          obtain rfl := Option.some.inj ho34
          refine C_skip (fun a ha56 => ?_)
          exact ⟨A10, ha56.sub ⟨rfl, rfl, trivial⟩, ⟨hH, hr36⟩⟩
      rintro A40 w37 ⟨hH41, hk38⟩ a ha39
      replace h4 := El.tr h4 hk38
      replace hK := Tr.trans hK hk38
      replace hr19 := Tr.trans hr19 hk38
      replace hB := Nat.le_trans hB hk38.ex.size
      replace hA := hk38.new
      replace hH : Hp w.heap.size A40 w37 (obC b7 [.int .i64 s35.kind, .int .i64 s35.int, .string s35.text] 95 :: []) := hH41
      obtain rfl := Option.some.inj ho17
      exact ⟨A40, ha39.sub ⟨rfl, rfl, trivial⟩, ⟨hH, hr19⟩⟩
  rintro A23 w20 ⟨hH24, hk21⟩ a ha22
  replace h4 := El.tr h4 hk21
  replace hK := Tr.trans hK hk21
  replace hB := Nat.le_trans hB hk21.ex.size
  replace hA := hk21.new
  replace hH : Hp w.heap.size A23 w20 (obC b7 [.int .i64 s18.kind, .int .i64 s18.int, .string s18.text] 95 :: []) := hH24
  refine C_at (n := ⟨26, [], none⟩) (fun _ _ => rfl) ?_ ha22
  refine C_seq ?_
  refine C_region ?_
  refine V_y (Y_loadA (Hp.part (off := 0) (n := 3) (ds := [.int .i64 s18.kind, .int .i64 s18.int, .string s18.text]) hH (i := 0) rfl rfl) Tryd.isAgg95 Tryd.sizeOf95 rfl) rfl rfl rfl ?_
  have h58 := El_level_Test_1 h4
  refine V_y (Y_fieldAddr Tryd.underlying97 rfl Tryd.sizeOf95 (by decide) rfl) rfl rfl rfl ?_
  obtain ⟨h59, _⟩ := El_api_Value h58
  refine V_y (Y_loadA h59 Tryd.isAgg95 Tryd.sizeOf95 rfl) rfl rfl rfl ?_
  refine V_y (Y_neqA (fun w => Tryd_eqt95_10000 s18.kind s18.int s18.text t.value.kind t.value.int t.value.text w) Tryd_eqg95 rfl rfl) rfl rfl rfl ?_
  refine V_y (Y_assign rfl) rfl rfl rfl ?_
  refine V_to (fun _ _ => rfl) ?_
  obtain rfl := Option.some.inj hm
  refine C_ret ?_
  try simp only [↓inBlock_ret, ↓then_ret]
  exact retQ rfl (Res.one Tryd.results73 rfl) ⟨rfl, hK.kp⟩

set_option maxRecDepth 4000 in
set_option maxHeartbeats 4000000 in
theorem portref2_levelIn_1_c (w : World) {A : Nat → Prop} (hA : ∀ b, w.heap.size ≤ b → A b) (l : level_Level) (v_l0 : Value) (h_l0 : Sl A w v_l0 l.tests) (v_l1 : Value) (h_l1 : Sl A w v_l1 l.targets) (p1 : Int) (b_p1 : Nat) (h_p1 : El A w b_p1 0 p1) (p2 : (List api_Value)) (b_p2 : Nat) (h_p2 : El A w b_p2 0 p2) {r : Bool} (hm : portref2_levelIn_1 l p1 p2 = some r) : Ret Tryd.prog 72 #[.agg #[.string l.name, v_l0, v_l1], .pointer (some ⟨b_p1, 0, none⟩), .pointer (some ⟨b_p2, 0, none⟩)] w fun v w' => v = .bool r ∧ Kp w w' := by
  unfold portref2_levelIn_1 at hm
  refine enter Tryd.func72 rfl Tryd.ntmps72 rfl ?_
  have hA0 := hA
  have hB := Nat.le_refl w.heap.size
  have hK : Tr w.heap.size A w A w := Tr.refl hA
  have hH : Hp w.heap.size A w [] := Hp.nil
  refine C_seq ?_
  refine C_region ?_
  refine V_box rfl rfl ?_
  intro b5 w6 h7
  have hk9 := h7.kp
  have h8 : El (α := level_Level) A w6 b5 0 l := h7.el hA ⟨[.string l.name], _, rfl, rfl, ⟨[v_l0], _, rfl, ⟨_, rfl, h_l0⟩, ⟨_, rfl, h_l1⟩⟩⟩
  have ht10 := Kp.tr hk9 hA hB
  replace hH := Hp.kp hH hk9
  replace h_l0 := Sl.tr h_l0 ht10
  replace h_l1 := Sl.tr h_l1 ht10
  replace h_p1 := El.tr h_p1 ht10
  replace h_p2 := El.tr h_p2 ht10
  replace hK := Tr.trans hK ht10
  replace hB := Nat.le_trans hB ht10.ex.size
  replace hA := ht10.new
  refine V_y (Y_assign rfl) rfl rfl rfl ?_
  refine V_to (fun _ _ => rfl) ?_
  refine C_seq ?_
  refine C_region ?_
  have h11 := El_level_Level_1 h8
  refine V_y (Y_fieldAddr Tryd.underlying93 rfl Tryd.sizeOf90 (by decide) rfl) rfl rfl rfl ?_
  obtain ⟨v12, h13, h14⟩ := El.list h11
  refine V_y (Y_load h13 Tryd.isAgg90 rfl) rfl rfl rfl ?_
  refine V_y (Y_makeFunc rfl rfl) rfl rfl rfl ?_
  obtain ⟨x16, hx16, hm⟩ := Option.bind_eq_some_iff.1 hm
  refine V_call Tryd.call70 rfl rfl rfl rfl (slices_ContainsFunc_Llevel_Test_level_Test_c w6 hA l.tests v12 h14 (fun y24 => portref2_levelIn_1_1 y24 p1 p2) 73 #[] #[.pointer (some ⟨b_p1, 0, none⟩), .pointer (some ⟨b_p2, 0, none⟩)] Tryd.call73 (fun w20 A21 ht22 h23 y17 r18 h19 => (portref2_levelIn_1_1_c w20 h23 y17 p1 b_p1 (El.tr h_p1 ht22) p2 b_p2 (El.tr h_p2 ht22) h19).mono (fun _ _ h => ⟨h.1, h.2⟩)) hx16) ?_
  rintro _ w25 ⟨rfl, hk26⟩
  have ht27 := Kp.tr hk26 hA hB
  replace hH := Hp.kp hH hk26
  replace h_p1 := El.tr h_p1 ht27
  replace h_p2 := El.tr h_p2 ht27
  replace h8 := El.tr h8 ht27
  replace h11 := El.tr h11 ht27
  replace h14 := Sl.tr h14 ht27
  replace hK := Tr.trans hK ht27
  replace hB := Nat.le_trans hB ht27.ex.size
  replace hA := ht27.new
  refine V_y (Y_not rfl) rfl rfl rfl ?_
  refine V_y (Y_assign rfl) rfl rfl rfl ?_
  refine V_to (fun _ _ => rfl) ?_
  obtain rfl := Option.some.inj hm
  refine C_ret ?_
  try simp only [↓inBlock_ret, ↓then_ret]
  exact retQ rfl (Res.one Tryd.results72 rfl) ⟨rfl, hK.kp⟩

set_option maxRecDepth 4000 in
set_option maxHeartbeats 4000000 in
theorem portref2_levelIn_c (w : World) {A : Nat → Prop} (hA : ∀ b, w.heap.size ≤ b → A b) (p : level_Policy) (v_p0 : Value) (h_p0 : Sl A w v_p0 p.pauses) (v_p1 : Value) (h_p1 : Sl A w v_p1 p.levels) (priority : Int) (values : (List api_Value)) (v_values : Value) (h_values : Sl A w v_values values) {r : Int} (hm : portref2_levelIn p priority values = some r) : Ret Tryd.prog 42 #[.agg #[v_p0, v_p1], .int .i64 priority, v_values] w fun v w' => v = .int .i64 r ∧ Kp w w' := by
  unfold portref2_levelIn at hm
  refine enter Tryd.func42 rfl Tryd.ntmps42 rfl ?_
  have hA0 := hA
  have hB := Nat.le_refl w.heap.size
  have hK : Tr w.heap.size A w A w := Tr.refl hA
  have hH : Hp w.heap.size A w [] := Hp.nil
  refine C_seq ?_
  refine C_region ?_
  refine V_box rfl rfl ?_
  intro b7 w9 h10
  have hk12 := h10.kp
  have h11 : El (α := level_Policy) A w9 b7 0 p := h10.el hA ⟨[v_p0], _, rfl, ⟨_, rfl, h_p0⟩, ⟨_, rfl, h_p1⟩⟩
  have ht13 := Kp.tr hk12 hA hB
  replace hH := Hp.kp hH hk12
  replace h_p0 := Sl.tr h_p0 ht13
  replace h_p1 := Sl.tr h_p1 ht13
  replace h_values := Sl.tr h_values ht13
  replace hK := Tr.trans hK ht13
  replace hB := Nat.le_trans hB ht13.ex.size
  replace hA := ht13.new
  refine V_box rfl rfl ?_
  intro b14 w15 h16
  have hk18 := h16.kp
  have h17 : El (α := Int) A w15 b14 0 priority := h16.el hA rfl
  have ht19 := Kp.tr hk18 hA hB
  replace hH := Hp.kp hH hk18
  replace h_p0 := Sl.tr h_p0 ht19
  replace h_p1 := Sl.tr h_p1 ht19
  replace h_values := Sl.tr h_values ht19
  replace h11 := El.tr h11 ht19
  replace hK := Tr.trans hK ht19
  replace hB := Nat.le_trans hB ht19.ex.size
  replace hA := ht19.new
  refine V_box rfl rfl ?_
  intro b20 w21 h22
  have h27 : (v_values).oneCell' = true := by obtain ⟨_, _, e, _⟩ := Sl.form h_values; rw [e]; rfl
  have hk24 := h22.kp
  have h23 : El (α := (List api_Value)) A w21 b20 0 values := h22.el hA (by rw [Value.cells_one h27]; exact ⟨_, rfl, h_values⟩)
  have ht28 := Kp.tr hk24 hA hB
  replace hH := Hp.kp hH hk24
  replace h_p0 := Sl.tr h_p0 ht28
  replace h_p1 := Sl.tr h_p1 ht28
  replace h_values := Sl.tr h_values ht28
  replace h11 := El.tr h11 ht28
  replace h17 := El.tr h17 ht28
  replace hK := Tr.trans hK ht28
  replace hB := Nat.le_trans hB ht28.ex.size
  replace hA := ht28.new
  refine V_y (Y_assign rfl) rfl rfl rfl ?_
  refine V_to (fun _ _ => rfl) ?_
  refine C_seq ?_
  refine C_region ?_
  have h29 := El_level_Policy_1 h11
  refine V_y (Y_fieldAddr Tryd.underlying39 rfl Tryd.sizeOf37 (by decide) rfl) rfl rfl rfl ?_
  obtain ⟨v30, h31, h32⟩ := El.list h29
  refine V_y (Y_load h31 Tryd.isAgg37 rfl) rfl rfl rfl ?_
  refine V_y (Y_makeFunc rfl rfl) rfl rfl rfl ?_
  obtain ⟨x34, hx34, hm⟩ := Option.bind_eq_some_iff.1 hm
  refine V_call Tryd.call68 rfl rfl rfl rfl (slices_IndexFunc_Llevel_Level_level_Level_c w21 hA p.levels v30 h32 (fun y46 => portref2_levelIn_1 y46 priority values) 72 #[] #[.pointer (some ⟨b14, 0, none⟩), .pointer (some ⟨b20, 0, none⟩)] Tryd.call72 (fun w42 A43 ht44 h45 y35 v36 h37 v38 h39 r40 h41 => (portref2_levelIn_1_c w42 h45 y35 v36 h37 v38 h39 priority b14 (El.tr h17 ht44) values b20 (El.tr h23 ht44) h41).mono (fun _ _ h => ⟨h.1, h.2⟩)) hx34) ?_
  rintro _ w47 ⟨rfl, hk48⟩
  have ht49 := Kp.tr hk48 hA hB
  replace hH := Hp.kp hH hk48
  replace h11 := El.tr h11 ht49
  replace h17 := El.tr h17 ht49
  replace h23 := El.tr h23 ht49
  replace h29 := El.tr h29 ht49
  replace h32 := Sl.tr h32 ht49
  replace hK := Tr.trans hK ht49
  replace hB := Nat.le_trans hB ht49.ex.size
  replace hA := ht49.new
  refine V_y (Y_assign rfl) rfl rfl rfl ?_
  refine V_to (fun _ _ => rfl) ?_
  obtain rfl := Option.some.inj hm
  refine C_ret ?_
  try simp only [↓inBlock_ret, ↓then_ret]
  exact retQ rfl (Res.one Tryd.results42 rfl) ⟨rfl, hK.kp⟩

set_option maxRecDepth 4000 in
set_option maxHeartbeats 4000000 in
theorem portref2_LevelIn_c (w : World) {A : Nat → Prop} (hA : ∀ b, w.heap.size ≤ b → A b) (p : level_Policy) (v_p0 : Value) (h_p0 : Sl A w v_p0 p.pauses) (v_p1 : Value) (h_p1 : Sl A w v_p1 p.levels) (priority : Int) (values : (List api_Value)) (v_values : Value) (h_values : Sl A w v_values values) {r : (Int × Int)} (hm : portref2_LevelIn p priority values = some r) : Ret Tryd.prog 16 #[.agg #[v_p0, v_p1], .int .i64 priority, v_values] w fun v w' => v = .tuple #[.int .i64 r.1, .int .i64 r.2] ∧ Kp w w' := by
  unfold portref2_LevelIn at hm
  refine enter Tryd.func16 rfl Tryd.ntmps16 rfl ?_
  have hA0 := hA
  have hB := Nat.le_refl w.heap.size
  have hK : Tr w.heap.size A w A w := Tr.refl hA
  have hH : Hp w.heap.size A w [] := Hp.nil
  refine C_seq ?_
  refine C_region ?_
  refine V_box rfl rfl ?_
  intro b7 w9 h10
  have hk12 := h10.kp
  have h11 : El (α := level_Policy) A w9 b7 0 p := h10.el hA ⟨[v_p0], _, rfl, ⟨_, rfl, h_p0⟩, ⟨_, rfl, h_p1⟩⟩
  have ht13 := Kp.tr hk12 hA hB
  replace hH := Hp.kp hH hk12
  replace h_p0 := Sl.tr h_p0 ht13
  replace h_p1 := Sl.tr h_p1 ht13
  replace h_values := Sl.tr h_values ht13
  replace hK := Tr.trans hK ht13
  replace hB := Nat.le_trans hB ht13.ex.size
  replace hA := ht13.new
  refine V_y (Y_assign rfl) rfl rfl rfl ?_
  refine V_y (Y_assign rfl) rfl rfl rfl ?_
  refine V_to (fun _ _ => rfl) ?_
  refine C_seq ?_
  refine C_seq ?_
  refine C_region ?_
  obtain ⟨v14, v16, h18, h15, h17⟩ := El_level_Policy h11
  refine V_y (Y_loadA h18 Tryd.isAgg39 Tryd.sizeOf39 rfl) rfl rfl rfl ?_
  obtain ⟨x19, hx19, hm⟩ := Option.bind_eq_some_iff.1 hm
  refine V_call Tryd.call23 rfl rfl rfl rfl (portref2_PolicyFault_c w9 hA p v14 h15 v16 h17 hx19) ?_
  rintro _ w20 ⟨rfl, hk21⟩
  have ht22 := Kp.tr hk21 hA hB
  replace hH := Hp.kp hH hk21
  replace h_values := Sl.tr h_values ht22
  replace h11 := El.tr h11 ht22
  replace h15 := Sl.tr h15 ht22
  replace h17 := Sl.tr h17 ht22
  replace hK := Tr.trans hK ht22
  replace hB := Nat.le_trans hB ht22.ex.size
  replace hA := ht22.new
  refine V_y (Y_assign rfl) rfl rfl rfl ?_
  refine V_to (fun _ _ => rfl) ?_
  refine C_seq ?_
  refine C_region ?_
  refine V_y (Y_move rfl) rfl rfl rfl ?_
  refine V_y (Y_neq rfl rfl) rfl rfl rfl ?_
  refine V_to (fun _ _ => rfl) ?_
  refine C_cond rfl (fun hc23 => ?_) (fun hc23 => ?_)
  · rw [if_pos hc23] at hm
    refine C_seq ?_
    refine C_region ?_
    refine V_y (Y_move rfl) rfl rfl rfl ?_
    refine V_y (Y_assign rfl) rfl rfl rfl ?_
    refine V_y (Y_assign rfl) rfl rfl rfl ?_
    refine V_to (fun _ _ => rfl) ?_
    obtain rfl := Option.some.inj hm
    refine C_ret ?_
    try simp only [↓inBlock_ret, ↓then_ret]
    exact retQ rfl (Res.two Tryd.results16 rfl rfl) ⟨rfl, hK.kp⟩
  · rw [if_neg (nt hc23)] at hm
    refine C_skip_to (fun _ _ => rfl) ?_
    refine C_seq ?_
    refine C_seq ?_
    refine C_region ?_
    refine V_y (Y_move rfl) rfl rfl rfl ?_
    refine V_y (Y_lenSl h_values rfl Tryd.underlying40 rfl) rfl rfl rfl ?_
    refine V_y (Y_gtr rfl rfl) rfl rfl rfl ?_
    refine V_to (fun _ _ => rfl) ?_
    refine C_cond rfl (fun hc24 => ?_) (fun hc24 => ?_)
    · rw [if_pos hc24] at hm
      refine C_seq ?_
      refine C_region ?_
      refine V_y (Y_assign rfl) rfl rfl rfl ?_
      refine V_y (Y_assign rfl) rfl rfl rfl ?_
      refine V_to (fun _ _ => rfl) ?_
      obtain rfl := Option.some.inj hm
      refine C_ret ?_
      try simp only [↓inBlock_ret, ↓then_ret]
      exact retQ rfl (Res.two Tryd.results16 rfl rfl) ⟨rfl, hK.kp⟩
    · rw [if_neg (nt hc24)] at hm
      refine C_skip_to (fun _ _ => rfl) ?_
      refine C_seq ?_
      refine C_region ?_
      obtain ⟨v25, v27, h29, h26, h28⟩ := El_level_Policy h11
      refine V_y (Y_loadA h29 Tryd.isAgg39 Tryd.sizeOf39 rfl) rfl rfl rfl ?_
      refine V_y (Y_move rfl) rfl rfl rfl ?_
      refine V_y (Y_move rfl) rfl rfl rfl ?_
      obtain ⟨x30, hx30, hm⟩ := Option.bind_eq_some_iff.1 hm
      refine V_call Tryd.call42 rfl rfl rfl rfl (portref2_levelIn_c w20 hA p v25 h26 v27 h28 priority values v_values h_values hx30) ?_
      rintro _ w31 ⟨rfl, hk32⟩
      have ht33 := Kp.tr hk32 hA hB
      replace hH := Hp.kp hH hk32
      replace h_values := Sl.tr h_values ht33
      replace h11 := El.tr h11 ht33
      replace h26 := Sl.tr h26 ht33
      replace h28 := Sl.tr h28 ht33
      replace hK := Tr.trans hK ht33
      replace hB := Nat.le_trans hB ht33.ex.size
      replace hA := ht33.new
      refine V_y (Y_assign rfl) rfl rfl rfl ?_
      refine V_y (Y_assign rfl) rfl rfl rfl ?_
      refine V_to (fun _ _ => rfl) ?_
      obtain rfl := Option.some.inj hm
      refine C_ret ?_
      try simp only [↓inBlock_ret, ↓then_ret]
      exact retQ rfl (Res.two Tryd.results16 rfl rfl) ⟨rfl, hK.kp⟩

set_option maxRecDepth 4000 in
set_option maxHeartbeats 4000000 in
theorem portlaw2_LevelChooses_c (w : World) {A : Nat → Prop} (hA : ∀ b, w.heap.size ≤ b → A b) (p : level_Policy) (v_p0 : Value) (h_p0 : Sl A w v_p0 p.pauses) (v_p1 : Value) (h_p1 : Sl A w v_p1 p.levels) (priority : Int) (values : (List api_Value)) (v_values : Value) (h_values : Sl A w v_values values) {r : Bool} (hm : portlaw2_LevelChooses p priority values = some r) : Ret Tryd.prog 5 #[.agg #[v_p0, v_p1], .int .i64 priority, v_values] w fun v w' => v = .bool r ∧ Kp w w' := by
  unfold portlaw2_LevelChooses at hm
  refine enter Tryd.func5 rfl Tryd.ntmps5 rfl ?_
  have hA0 := hA
  have hB := Nat.le_refl w.heap.size
  have hK : Tr w.heap.size A w A w := Tr.refl hA
  have hH : Hp w.heap.size A w [] := Hp.nil
  refine C_seq ?_
  refine C_region ?_
  refine V_box rfl rfl ?_
  intro b7 w9 h10
  have hk12 := h10.kp
  have h11 : El (α := level_Policy) A w9 b7 0 p := h10.el hA ⟨[v_p0], _, rfl, ⟨_, rfl, h_p0⟩, ⟨_, rfl, h_p1⟩⟩
  have ht13 := Kp.tr hk12 hA hB
  replace hH := Hp.kp hH hk12
  replace h_p0 := Sl.tr h_p0 ht13
  replace h_p1 := Sl.tr h_p1 ht13
  replace h_values := Sl.tr h_values ht13
  replace hK := Tr.trans hK ht13
  replace hB := Nat.le_trans hB ht13.ex.size
  replace hA := ht13.new
  refine V_y (Y_assign rfl) rfl rfl rfl ?_
  refine V_to (fun _ _ => rfl) ?_
  refine C_seq ?_
  refine C_region ?_
  obtain ⟨v14, v16, h18, h15, h17⟩ := El_level_Policy h11
  refine V_y (Y_loadA h18 Tryd.isAgg39 Tryd.sizeOf39 rfl) rfl rfl rfl ?_
  refine V_y (Y_move rfl) rfl rfl rfl ?_
  refine V_y (Y_move rfl) rfl rfl rfl ?_
  obtain ⟨x19, hx19, hm⟩ := Option.bind_eq_some_iff.1 hm
  refine V_call Tryd.call15 rfl rfl rfl rfl (level_LevelOf_c w9 hA p v14 h15 v16 h17 priority values v_values h_values hx19) ?_
  rintro _ w20 ⟨rfl, hk21⟩
  have ht22 := Kp.tr hk21 hA hB
  replace hH := Hp.kp hH hk21
  replace h_values := Sl.tr h_values ht22
  replace h11 := El.tr h11 ht22
  replace h15 := Sl.tr h15 ht22
  replace h17 := Sl.tr h17 ht22
  replace hK := Tr.trans hK ht22
  replace hB := Nat.le_trans hB ht22.ex.size
  replace hA := ht22.new
  refine V_y (Y_move rfl) rfl rfl rfl ?_
  refine V_y (Y_extract rfl rfl) rfl rfl rfl ?_
  refine V_y (Y_extract rfl rfl) rfl rfl rfl ?_
  refine V_y (Y_assign rfl) rfl rfl rfl ?_
  refine V_y (Y_assign rfl) rfl rfl rfl ?_
  refine V_to (fun _ _ => rfl) ?_
  refine C_seq ?_
  refine C_region ?_
  obtain ⟨v23, v25, h27, h24, h26⟩ := El_level_Policy h11
  refine V_y (Y_loadA h27 Tryd.isAgg39 Tryd.sizeOf39 rfl) rfl rfl rfl ?_
  refine V_y (Y_move rfl) rfl rfl rfl ?_
  refine V_y (Y_move rfl) rfl rfl rfl ?_
  obtain ⟨x28, hx28, hm⟩ := Option.bind_eq_some_iff.1 hm
  refine V_call Tryd.call16 rfl rfl rfl rfl (portref2_LevelIn_c w20 hA p v23 h24 v25 h26 priority values v_values h_values hx28) ?_
  rintro _ w29 ⟨rfl, hk30⟩
  have ht31 := Kp.tr hk30 hA hB
  replace hH := Hp.kp hH hk30
  replace h_values := Sl.tr h_values ht31
  replace h11 := El.tr h11 ht31
  replace h24 := Sl.tr h24 ht31
  replace h26 := Sl.tr h26 ht31
  replace hK := Tr.trans hK ht31
  replace hB := Nat.le_trans hB ht31.ex.size
  replace hA := ht31.new
  refine V_y (Y_move rfl) rfl rfl rfl ?_
  refine V_y (Y_extract rfl rfl) rfl rfl rfl ?_
  refine V_y (Y_extract rfl rfl) rfl rfl rfl ?_
  refine V_y (Y_assign rfl) rfl rfl rfl ?_
  refine V_y (Y_assign rfl) rfl rfl rfl ?_
  refine V_to (fun _ _ => rfl) ?_
  refine C_seq ?_
  refine C_region ?_
  refine V_y (Y_move rfl) rfl rfl rfl ?_
  refine V_y (Y_move rfl) rfl rfl rfl ?_
  refine V_y (Y_eql rfl rfl) rfl rfl rfl ?_
  refine V_y (Y_move rfl) rfl rfl rfl ?_
  refine V_cut 4 (fun _ : Unit => [(32, .bool ((x19.1 == x28.1) && (x19.2 == x28.2)))]) (fun _ w' => w29 = w') ?_ ?_
  · simp only [List.take, List.drop]
    rcases Bool.eq_false_or_eq_true (x19.1 == x28.1) with hc32 | hc32
    · refine V_ge rfl rfl rfl hc32 ?_
      refine V_y (Y_move rfl) rfl rfl rfl ?_
      refine V_ge rfl rfl rfl hc32 ?_
      refine V_y (Y_move rfl) rfl rfl rfl ?_
      refine V_ge rfl rfl rfl hc32 ?_
      refine V_y (Y_eql rfl rfl) rfl rfl rfl ?_
      refine V_y (Y_pick_te rfl hc32 rfl) rfl rfl rfl ?_
      exact V_end fun a ha => ⟨(), ha.sub ⟨(by rw [hc32]; rfl), trivial⟩, rfl⟩
    · refine V_gn rfl rfl rfl hc32 rfl rfl rfl ?_
      refine V_gn rfl rfl rfl hc32 rfl rfl rfl ?_
      refine V_gn rfl rfl rfl hc32 rfl rfl rfl ?_
      refine V_y (Y_pick_fe rfl hc32 rfl) rfl rfl rfl ?_
      exact V_end fun a ha => ⟨(), ha.sub ⟨(by rw [hc32]; rfl), trivial⟩, rfl⟩
  simp only [List.take, List.drop]
  rintro _ _ rfl
  refine V_y (Y_assign rfl) rfl rfl rfl ?_
  refine V_to (fun _ _ => rfl) ?_
  obtain rfl := Option.some.inj hm
  refine C_ret ?_
  try simp only [↓inBlock_ret, ↓then_ret]
  exact retQ rfl (Res.one Tryd.results5 rfl) ⟨rfl, hK.kp⟩

end Go.Proofs.YtcokjipcmpfgbaaDoor.W
