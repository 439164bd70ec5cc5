import Derived.Test.YtfbiebageicnaaaGreatDoorLevelClocksW2
namespace Go.Proofs.YtfbiebageicnaaaGreatDoor.W
open Go Go.RowKit Go.Pu Go.Gw Go.Proofs Go.Proofs.YtfbiebageicnaaaGreatDoor.M
set_option linter.unusedVariables false
set_option linter.unusedSimpArgs false
variable {Dw : Prop}
set_option maxRecDepth 4000 in
set_option maxHeartbeats 4000000 in
theorem portref2_testFault_c (w : World) {A : Nat → Prop} (hA : ∀ b, w.heap.size ≤ b → A b) (t : level_Test) {r : Int} (hm : portref2_testFault t = some r) : Ret Tryz.prog 84 #[.agg #[.int .i64 t.field, .int .i64 t.value.kind, .int .i64 t.value.int, .string t.value.text]] w fun v w' => v = .int .i64 r ∧ Kp False w w' := by
 unfold portref2_testFault at hm
 refine enter Tryz.func84 rfl Tryz.ntmps84 rfl ?_
 have hA0 := hA
 have hB := Nat.le_refl w.heap.size
 have hK : Tr False w.heap.size A w A w := Tr.refl (Dw := False) hA
 have hH : Hp w.heap.size A w [] := Hp.nil
 refine C_seq ?_
 refine C_region ?_
 refine V_box rfl rfl ?_
 intro b1 w2 h3
 have hk5 := h3.kp (Dw := False)
 have h4 : El (α := level_Test) A w2 b1 0 t := h3.el hA ⟨[.int .i64 t.field], _, rfl, rfl, ⟨[.int .i64 t.value.kind], _, rfl, rfl, ⟨[.int .i64 t.value.int], _, rfl, rfl, rfl⟩⟩⟩
 have ht6 := Kp.tr (Dw := False) hk5 hA hB
 replace hK := Tr.trans (Dw := False) hK ht6
 replace hB := Nat.le_trans hB ht6.ex.size
 replace hA := ht6.new
 refine V_y (Y_assign rfl) rfl rfl rfl ?_
 refine V_to (fun _ _ => rfl) ?_
 refine C_seq ?_
 refine C_region ?_
 have h7 := El_level_Test_1 h4
 refine V_y (Y_fieldAddr Tryz.underlying152 rfl Tryz.sizeOf150 (by decide) rfl) rfl rfl rfl ?_
 obtain ⟨h8, _⟩ := El_api_Value h7
 refine V_y (Y_loadA h8 Tryz.isAgg150 Tryz.sizeOf150 rfl) rfl rfl rfl ?_
 refine V_alloc Tryz.zeroValue150 rfl ?_
 intro b9 w10 h11
 refine V_storeNew h11 Tryz.sizeOf150 rfl rfl rfl rfl (by exact (List.forall_mem_cons.2 ⟨rfl, (List.forall_mem_cons.2 ⟨rfl, (List.forall_mem_cons.2 ⟨rfl, (fun _ h => nomatch h)⟩)⟩)⟩)) ?_
 intro w12 h13
 have hk15 := h13.kp (Dw := False)
 have h14 : El (α := api_Value) A w12 b9 0 t.value := h13.el hA ⟨[.int .i64 t.value.kind], _, rfl, rfl, ⟨[.int .i64 t.value.int], _, rfl, rfl, rfl⟩⟩
 have ht16 := Kp.tr (Dw := False) hk15 hA hB
 replace h4 := El.tr (Dw := False) h4 ht16
 replace hK := Tr.trans (Dw := False) hK ht16
 replace hB := Nat.le_trans hB ht16.ex.size
 replace hA := ht16.new
 refine V_to (fun _ _ => rfl) ?_
 refine C_seq ?_
 refine C_block ?_
 refine C_seq ?_
 refine C_region ?_
 have h17 := El_api_Value_0 h14
 refine V_y (Y_fieldAddr Tryz.underlying150 rfl Tryz.sizeOf3 (by decide) rfl) rfl rfl rfl ?_
 refine V_y (Y_load (El.int h17) Tryz.isAgg3 rfl) rfl rfl rfl ?_
 refine V_y (Y_lss rfl rfl) rfl rfl rfl ?_
 refine V_y (Y_move rfl) rfl rfl rfl ?_
 refine V_cut 4 (fun _ : Unit => [(1, .pointer (some ⟨b1, 0, none⟩)), (3, .pointer (some ⟨b9, 0, none⟩)), (14, .bool ((decide (t.value.kind < 0)) || (decide ((6 : Int) < t.value.kind))))]) (fun _ w' => w12 = w') ?_ ?_
 ·simp only [List.take, List.drop]
  rcases Bool.eq_false_or_eq_true (decide (t.value.kind < 0)) with hc18 | hc18
  ·refine V_gn rfl rfl rfl hc18 rfl rfl rfl ?_
   refine V_gn rfl rfl rfl hc18 rfl rfl rfl ?_
   refine V_gn rfl rfl rfl hc18 rfl rfl rfl ?_
   refine V_y (Y_pick_te rfl hc18 rfl) rfl rfl rfl ?_
   exact V_end fun a ha => ⟨(), ha.sub ⟨rfl, rfl, (by rw [hc18]; rfl), trivial⟩, rfl⟩
  ·refine V_ge rfl rfl rfl hc18 ?_
   have h20 := El_api_Value_0 h14
   refine V_y (Y_fieldAddr Tryz.underlying150 rfl Tryz.sizeOf3 (by decide) rfl) rfl rfl rfl ?_
   refine V_ge rfl rfl rfl hc18 ?_
   refine V_y (Y_load (El.int h20) Tryz.isAgg3 rfl) rfl rfl rfl ?_
   refine V_ge rfl rfl rfl hc18 ?_
   refine V_y (Y_gtr rfl rfl) rfl rfl rfl ?_
   refine V_y (Y_pick_fe rfl hc18 rfl) rfl rfl rfl ?_
   exact V_end fun a ha => ⟨(), ha.sub ⟨rfl, rfl, (by rw [hc18]; rfl), trivial⟩, rfl⟩
 simp only [List.take, List.drop]
 rintro _ _ rfl
 refine V_y (Y_move rfl) rfl rfl rfl ?_
 refine V_cut 9 (fun _ : Unit => [(3, .pointer (some ⟨b9, 0, none⟩)), (24, .bool (((decide (t.value.kind < 0)) || (decide ((6 : Int) < t.value.kind))) || ((decide (t.field < 0)) && (t.value.kind != 2))))]) (fun _ w' => w12 = w') ?_ ?_
 ·simp only [List.take, List.drop]
  rcases Bool.eq_false_or_eq_true (((decide (t.value.kind < 0)) || (decide ((6 : Int) < t.value.kind)))) with hc21 | hc21
  ·refine V_gn rfl rfl rfl hc21 rfl rfl rfl ?_
   refine V_gn rfl rfl rfl hc21 rfl rfl rfl ?_
   refine V_gn rfl rfl rfl hc21 rfl rfl rfl ?_
   refine V_gn rfl rfl rfl hc21 rfl rfl rfl ?_
   refine V_gu rfl rfl rfl rfl rfl ?_
   refine V_gu rfl rfl rfl rfl rfl ?_
   refine V_gu rfl rfl rfl rfl rfl ?_
   refine V_gn rfl rfl rfl hc21 rfl rfl rfl ?_
   refine V_y (Y_pick_te rfl hc21 rfl) rfl rfl rfl ?_
   exact V_end fun a ha => ⟨(), ha.sub ⟨rfl, (by rw [hc21]; rfl), trivial⟩, rfl⟩
  ·refine V_ge rfl rfl rfl hc21 ?_
   have h23 := El_level_Test_0 h4
   refine V_y (Y_fieldAddr Tryz.underlying152 rfl Tryz.sizeOf3 (by decide) rfl) rfl rfl rfl ?_
   refine V_ge rfl rfl rfl hc21 ?_
   refine V_y (Y_load (El.int h23) Tryz.isAgg3 rfl) rfl rfl rfl ?_
   refine V_ge rfl rfl rfl hc21 ?_
   refine V_y (Y_lss rfl rfl) rfl rfl rfl ?_
   refine V_ge rfl rfl rfl hc21 ?_
   refine V_y (Y_move rfl) rfl rfl rfl ?_
   refine V_cut 4 (fun _ : Unit => [(3, .pointer (some ⟨b9, 0, none⟩)), (15, .bool ((decide (t.value.kind < 0)) || (decide ((6 : Int) < t.value.kind)))), (23, .bool ((decide (t.field < 0)) && (t.value.kind != 2)))]) (fun _ w' => w12 = w') ?_ ?_
   ·simp only [List.take, List.drop]
    rcases Bool.eq_false_or_eq_true (decide (t.field < 0)) with hc24 | hc24
    ·refine V_ge rfl rfl rfl hc24 ?_
     have h26 := El_api_Value_0 h14
     refine V_y (Y_fieldAddr Tryz.underlying150 rfl Tryz.sizeOf3 (by decide) rfl) rfl rfl rfl ?_
     refine V_ge rfl rfl rfl hc24 ?_
     refine V_y (Y_load (El.int h26) Tryz.isAgg3 rfl) rfl rfl rfl ?_
     refine V_ge rfl rfl rfl hc24 ?_
     refine V_y (Y_neq rfl rfl) rfl rfl rfl ?_
     refine V_ge rfl rfl rfl hc21 ?_
     refine V_y (Y_pick_te rfl hc24 rfl) rfl rfl rfl ?_
     exact V_end fun a ha => ⟨(), ha.sub ⟨rfl, rfl, (by rw [hc24]; rfl), trivial⟩, rfl⟩
    ·refine V_gn rfl rfl rfl hc24 rfl rfl rfl ?_
     refine V_gn rfl rfl rfl hc24 rfl rfl rfl ?_
     refine V_gn rfl rfl rfl hc24 rfl rfl rfl ?_
     refine V_ge rfl rfl rfl hc21 ?_
     refine V_y (Y_pick_fe rfl hc24 rfl) rfl rfl rfl ?_
     exact V_end fun a ha => ⟨(), ha.sub ⟨rfl, rfl, (by rw [hc24]; rfl), trivial⟩, rfl⟩
   simp only [List.take, List.drop]
   rintro _ _ rfl
   refine V_y (Y_pick_fe rfl hc21 rfl) rfl rfl rfl ?_
   exact V_end fun a ha => ⟨(), ha.sub ⟨rfl, (by rw [hc21]; rfl), trivial⟩, rfl⟩
 simp only [List.take, List.drop]
 rintro _ _ rfl
 refine V_y (Y_assign rfl) rfl rfl rfl ?_
 refine V_to (fun _ _ => rfl) ?_
 refine C_cond rfl (fun hc27 => ?_) (fun hc27 => ?_)
 ·rw [if_pos hc27] at hm
  refine C_seq ?_
  refine C_region ?_
  refine V_y (Y_assign rfl) rfl rfl rfl ?_
  refine V_to (fun _ _ => rfl) ?_
  obtain rfl := Option.some.inj hm
  refine C_ret ?_
  try simp only [↓inBlock_ret, ↓then_ret]
  exact retQ rfl (Res.one Tryz.results84 rfl) ⟨rfl, hK.kp⟩
 ·rw [if_neg (nt hc27)] at hm
  refine C_seq ?_
  refine C_seq ?_
  refine C_region ?_
  have h28 := El_api_Value_2 h14
  refine V_y (Y_fieldAddr Tryz.underlying150 rfl Tryz.sizeOf9 (by decide) rfl) rfl rfl rfl ?_
  refine V_y (Y_load (El.str h28) Tryz.isAgg9 rfl) rfl rfl rfl ?_
  refine V_y (Y_sneq rfl rfl) rfl rfl rfl ?_
  refine V_y (Y_move rfl) rfl rfl rfl ?_
  refine V_cut 4 (fun _ : Unit => [(3, .pointer (some ⟨b9, 0, none⟩)), (33, .bool ((!(strEq t.value.text (⟨#[]⟩ : ByteArray))) && (t.value.kind != 3)))]) (fun _ w' => w12 = w') ?_ ?_
  ·simp only [List.take, List.drop]
   rcases Bool.eq_false_or_eq_true (!(strEq t.value.text (⟨#[]⟩ : ByteArray))) with hc29 | hc29
   ·refine V_ge rfl rfl rfl hc29 ?_
    have h31 := El_api_Value_0 h14
    refine V_y (Y_fieldAddr Tryz.underlying150 rfl Tryz.sizeOf3 (by decide) rfl) rfl rfl rfl ?_
    refine V_ge rfl rfl rfl hc29 ?_
    refine V_y (Y_load (El.int h31) Tryz.isAgg3 rfl) rfl rfl rfl ?_
    refine V_ge rfl rfl rfl hc29 ?_
    refine V_y (Y_neq rfl rfl) rfl rfl rfl ?_
    refine V_y (Y_pick_te rfl hc29 rfl) rfl rfl rfl ?_
    exact V_end fun a ha => ⟨(), ha.sub ⟨rfl, (by rw [hc29]; rfl), trivial⟩, rfl⟩
   ·refine V_gn rfl rfl rfl hc29 rfl rfl rfl ?_
    refine V_gn rfl rfl rfl hc29 rfl rfl rfl ?_
    refine V_gn rfl rfl rfl hc29 rfl rfl rfl ?_
    refine V_y (Y_pick_fe rfl hc29 rfl) rfl rfl rfl ?_
    exact V_end fun a ha => ⟨(), ha.sub ⟨rfl, (by rw [hc29]; rfl), trivial⟩, rfl⟩
  simp only [List.take, List.drop]
  rintro _ _ rfl
  refine V_y (Y_assign rfl) rfl rfl rfl ?_
  refine V_to (fun _ _ => rfl) ?_
  obtain ⟨s33, ho32, hm⟩ := Option.bind_eq_some_iff.1 hm
  refine C_cutG (ι := Unit) (fun (_ : Unit) => [(3, .pointer (some ⟨b9, 0, none⟩)), (25, .bool s33)]) (fun (_ : Unit) => fun w' => w12 = w') ?_ ?_
  ·refine C_cond rfl (fun hc38 => ?_) (fun hc38 => ?_)
   ·rw [if_pos hc38] at ho32
    obtain rfl := Option.some.inj ho32
    refine C_skip (fun a ha39 => ?_)
    exact ⟨(), ha39.sub ⟨rfl, rfl, trivial⟩, rfl⟩
   ·rw [if_neg (nt hc38)] at ho32
    refine C_region ?_
    have h40 := El_api_Value_1 h14
    refine V_y (Y_fieldAddr Tryz.underlying150 rfl Tryz.sizeOf3 (by decide) rfl) rfl rfl rfl ?_
    refine V_y (Y_load (El.int h40) Tryz.isAgg3 rfl) rfl rfl rfl ?_
    refine V_y (Y_neq rfl rfl) rfl rfl rfl ?_
    refine V_y (Y_move rfl) rfl rfl rfl ?_
    refine V_cut 9 (fun _ : Unit => [(3, .pointer (some ⟨b9, 0, none⟩)), (46, .bool ((t.value.int != 0) && ((t.value.kind == 3) || (t.value.kind == 0))))]) (fun _ w' => w12 = w') ?_ ?_
    ·simp only [List.take, List.drop]
     rcases Bool.eq_false_or_eq_true (t.value.int != 0) with hc41 | hc41
     ·refine V_ge rfl rfl rfl hc41 ?_
      have h43 := El_api_Value_0 h14
      refine V_y (Y_fieldAddr Tryz.underlying150 rfl Tryz.sizeOf3 (by decide) rfl) rfl rfl rfl ?_
      refine V_ge rfl rfl rfl hc41 ?_
      refine V_y (Y_load (El.int h43) Tryz.isAgg3 rfl) rfl rfl rfl ?_
      refine V_ge rfl rfl rfl hc41 ?_
      refine V_y (Y_eql rfl rfl) rfl rfl rfl ?_
      refine V_ge rfl rfl rfl hc41 ?_
      refine V_y (Y_move rfl) rfl rfl rfl ?_
      refine V_cut 4 (fun _ : Unit => [(3, .pointer (some ⟨b9, 0, none⟩)), (37, .bool (t.value.int != 0)), (45, .bool ((t.value.kind == 3) || (t.value.kind == 0)))]) (fun _ w' => w12 = w') ?_ ?_
      ·simp only [List.take, List.drop]
       rcases Bool.eq_false_or_eq_true (t.value.kind == 3) with hc44 | hc44
       ·refine V_gn rfl rfl rfl hc44 rfl rfl rfl ?_
        refine V_gn rfl rfl rfl hc44 rfl rfl rfl ?_
        refine V_gn rfl rfl rfl hc44 rfl rfl rfl ?_
        refine V_ge rfl rfl rfl hc41 ?_
        refine V_y (Y_pick_te rfl hc44 rfl) rfl rfl rfl ?_
        exact V_end fun a ha => ⟨(), ha.sub ⟨rfl, rfl, (by rw [hc44]; rfl), trivial⟩, rfl⟩
       ·refine V_ge rfl rfl rfl hc44 ?_
        have h46 := El_api_Value_0 h14
        refine V_y (Y_fieldAddr Tryz.underlying150 rfl Tryz.sizeOf3 (by decide) rfl) rfl rfl rfl ?_
        refine V_ge rfl rfl rfl hc44 ?_
        refine V_y (Y_load (El.int h46) Tryz.isAgg3 rfl) rfl rfl rfl ?_
        refine V_ge rfl rfl rfl hc44 ?_
        refine V_y (Y_eql rfl rfl) rfl rfl rfl ?_
        refine V_ge rfl rfl rfl hc41 ?_
        refine V_y (Y_pick_fe rfl hc44 rfl) rfl rfl rfl ?_
        exact V_end fun a ha => ⟨(), ha.sub ⟨rfl, rfl, (by rw [hc44]; rfl), trivial⟩, rfl⟩
      simp only [List.take, List.drop]
      rintro _ _ rfl
      refine V_y (Y_pick_te rfl hc41 rfl) rfl rfl rfl ?_
      exact V_end fun a ha => ⟨(), ha.sub ⟨rfl, (by rw [hc41]; rfl), trivial⟩, rfl⟩
     ·refine V_gn rfl rfl rfl hc41 rfl rfl rfl ?_
      refine V_gn rfl rfl rfl hc41 rfl rfl rfl ?_
      refine V_gn rfl rfl rfl hc41 rfl rfl rfl ?_
      refine V_gn rfl rfl rfl hc41 rfl rfl rfl ?_
      refine V_gu rfl rfl rfl rfl rfl ?_
      refine V_gu rfl rfl rfl rfl rfl ?_
      refine V_gu rfl rfl rfl rfl rfl ?_
      refine V_gn rfl rfl rfl hc41 rfl rfl rfl ?_
      refine V_y (Y_pick_fe rfl hc41 rfl) rfl rfl rfl ?_
      exact V_end fun a ha => ⟨(), ha.sub ⟨rfl, (by rw [hc41]; rfl), trivial⟩, rfl⟩
    simp only [List.take, List.drop]
    rintro _ _ rfl
    refine V_y (Y_assign rfl) rfl rfl rfl ?_
    obtain rfl := Option.some.inj ho32
    refine V_end (fun a ha47 => ?_)
    exact ⟨(), ha47.sub ⟨rfl, rfl, trivial⟩, rfl⟩
  rintro _ _ rfl a ha37
  refine C_at (n := ⟨105, [], none⟩) (fun _ _ => rfl) ?_ ha37
  refine C_cond rfl (fun hc48 => ?_) (fun hc48 => ?_)
  ·rw [if_pos hc48] at hm
   refine C_seq ?_
   refine C_region ?_
   refine V_y (Y_assign rfl) rfl rfl rfl ?_
   refine V_to (fun _ _ => rfl) ?_
   obtain rfl := Option.some.inj hm
   refine C_ret ?_
   try simp only [↓inBlock_ret, ↓then_ret]
   exact retQ rfl (Res.one Tryz.results84 rfl) ⟨rfl, hK.kp⟩
  ·rw [if_neg (nt hc48)] at hm
   refine C_seq ?_
   refine C_seq ?_
   refine C_region ?_
   have h49 := El_api_Value_0 h14
   refine V_y (Y_fieldAddr Tryz.underlying150 rfl Tryz.sizeOf3 (by decide) rfl) rfl rfl rfl ?_
   refine V_y (Y_load (El.int h49) Tryz.isAgg3 rfl) rfl rfl rfl ?_
   refine V_y (Y_eql rfl rfl) rfl rfl rfl ?_
   refine V_y (Y_move rfl) rfl rfl rfl ?_
   refine V_cut 4 (fun _ : Unit => [(3, .pointer (some ⟨b9, 0, none⟩)), (55, .bool ((t.value.kind == 1) && (t.value.int != 0)))]) (fun _ w' => w12 = w') ?_ ?_
   ·simp only [List.take, List.drop]
    rcases Bool.eq_false_or_eq_true (t.value.kind == 1) with hc50 | hc50
    ·refine V_ge rfl rfl rfl hc50 ?_
     have h52 := El_api_Value_1 h14
     refine V_y (Y_fieldAddr Tryz.underlying150 rfl Tryz.sizeOf3 (by decide) rfl) rfl rfl rfl ?_
     refine V_ge rfl rfl rfl hc50 ?_
     refine V_y (Y_load (El.int h52) Tryz.isAgg3 rfl) rfl rfl rfl ?_
     refine V_ge rfl rfl rfl hc50 ?_
     refine V_y (Y_neq rfl rfl) rfl rfl rfl ?_
     refine V_y (Y_pick_te rfl hc50 rfl) rfl rfl rfl ?_
     exact V_end fun a ha => ⟨(), ha.sub ⟨rfl, (by rw [hc50]; rfl), trivial⟩, rfl⟩
    ·refine V_gn rfl rfl rfl hc50 rfl rfl rfl ?_
     refine V_gn rfl rfl rfl hc50 rfl rfl rfl ?_
     refine V_gn rfl rfl rfl hc50 rfl rfl rfl ?_
     refine V_y (Y_pick_fe rfl hc50 rfl) rfl rfl rfl ?_
     exact V_end fun a ha => ⟨(), ha.sub ⟨rfl, (by rw [hc50]; rfl), trivial⟩, rfl⟩
   simp only [List.take, List.drop]
   rintro _ _ rfl
   refine V_y (Y_move rfl) rfl rfl rfl ?_
   refine V_cut 4 (fun _ : Unit => [(3, .pointer (some ⟨b9, 0, none⟩)), (60, .bool (((t.value.kind == 1) && (t.value.int != 0)) && (t.value.int != 1)))]) (fun _ w' => w12 = w') ?_ ?_
   ·simp only [List.take, List.drop]
    rcases Bool.eq_false_or_eq_true (((t.value.kind == 1) && (t.value.int != 0))) with hc53 | hc53
    ·refine V_ge rfl rfl rfl hc53 ?_
     have h55 := El_api_Value_1 h14
     refine V_y (Y_fieldAddr Tryz.underlying150 rfl Tryz.sizeOf3 (by decide) rfl) rfl rfl rfl ?_
     refine V_ge rfl rfl rfl hc53 ?_
     refine V_y (Y_load (El.int h55) Tryz.isAgg3 rfl) rfl rfl rfl ?_
     refine V_ge rfl rfl rfl hc53 ?_
     refine V_y (Y_neq rfl rfl) rfl rfl rfl ?_
     refine V_y (Y_pick_te rfl hc53 rfl) rfl rfl rfl ?_
     exact V_end fun a ha => ⟨(), ha.sub ⟨rfl, (by rw [hc53]; rfl), trivial⟩, rfl⟩
    ·refine V_gn rfl rfl rfl hc53 rfl rfl rfl ?_
     refine V_gn rfl rfl rfl hc53 rfl rfl rfl ?_
     refine V_gn rfl rfl rfl hc53 rfl rfl rfl ?_
     refine V_y (Y_pick_fe rfl hc53 rfl) rfl rfl rfl ?_
     exact V_end fun a ha => ⟨(), ha.sub ⟨rfl, (by rw [hc53]; rfl), trivial⟩, rfl⟩
   simp only [List.take, List.drop]
   rintro _ _ rfl
   refine V_y (Y_assign rfl) rfl rfl rfl ?_
   refine V_to (fun _ _ => rfl) ?_
   obtain ⟨s57, ho56, hm⟩ := Option.bind_eq_some_iff.1 hm
   refine C_cutG (ι := Unit) (fun (_ : Unit) => [(3, .pointer (some ⟨b9, 0, none⟩)), (47, .bool s57)]) (fun (_ : Unit) => fun w' => w12 = w') ?_ ?_
   ·refine C_cond rfl (fun hc62 => ?_) (fun hc62 => ?_)
    ·rw [if_pos hc62] at ho56
     obtain rfl := Option.some.inj ho56
     refine C_skip (fun a ha63 => ?_)
     exact ⟨(), ha63.sub ⟨rfl, rfl, trivial⟩, rfl⟩
    ·rw [if_neg (nt hc62)] at ho56
     refine C_seq ?_
     refine C_region ?_
     have h64 := El_api_Value_0 h14
     refine V_y (Y_fieldAddr Tryz.underlying150 rfl Tryz.sizeOf3 (by decide) rfl) rfl rfl rfl ?_
     refine V_y (Y_load (El.int h64) Tryz.isAgg3 rfl) rfl rfl rfl ?_
     refine V_y (Y_eql rfl rfl) rfl rfl rfl ?_
     refine V_y (Y_move rfl) rfl rfl rfl ?_
     refine V_cut 9 (fun _ : Unit => [(3, .pointer (some ⟨b9, 0, none⟩)), (73, .bool ((t.value.kind == 4) && ((decide (t.value.int < 0)) || (decide ((20 : Int) ≤ t.value.int)))))]) (fun _ w' => w12 = w') ?_ ?_
     ·simp only [List.take, List.drop]
      rcases Bool.eq_false_or_eq_true (t.value.kind == 4) with hc65 | hc65
      ·refine V_ge rfl rfl rfl hc65 ?_
       have h67 := El_api_Value_1 h14
       refine V_y (Y_fieldAddr Tryz.underlying150 rfl Tryz.sizeOf3 (by decide) rfl) rfl rfl rfl ?_
       refine V_ge rfl rfl rfl hc65 ?_
       refine V_y (Y_load (El.int h67) Tryz.isAgg3 rfl) rfl rfl rfl ?_
       refine V_ge rfl rfl rfl hc65 ?_
       refine V_y (Y_lss rfl rfl) rfl rfl rfl ?_
       refine V_ge rfl rfl rfl hc65 ?_
       refine V_y (Y_move rfl) rfl rfl rfl ?_
       refine V_cut 4 (fun _ : Unit => [(3, .pointer (some ⟨b9, 0, none⟩)), (64, .bool (t.value.kind == 4)), (72, .bool ((decide (t.value.int < 0)) || (decide ((20 : Int) ≤ t.value.int))))]) (fun _ w' => w12 = w') ?_ ?_
       ·simp only [List.take, List.drop]
        rcases Bool.eq_false_or_eq_true (decide (t.value.int < 0)) with hc68 | hc68
        ·refine V_gn rfl rfl rfl hc68 rfl rfl rfl ?_
         refine V_gn rfl rfl rfl hc68 rfl rfl rfl ?_
         refine V_gn rfl rfl rfl hc68 rfl rfl rfl ?_
         refine V_ge rfl rfl rfl hc65 ?_
         refine V_y (Y_pick_te rfl hc68 rfl) rfl rfl rfl ?_
         exact V_end fun a ha => ⟨(), ha.sub ⟨rfl, rfl, (by rw [hc68]; rfl), trivial⟩, rfl⟩
        ·refine V_ge rfl rfl rfl hc68 ?_
         have h70 := El_api_Value_1 h14
         refine V_y (Y_fieldAddr Tryz.underlying150 rfl Tryz.sizeOf3 (by decide) rfl) rfl rfl rfl ?_
         refine V_ge rfl rfl rfl hc68 ?_
         refine V_y (Y_load (El.int h70) Tryz.isAgg3 rfl) rfl rfl rfl ?_
         refine V_ge rfl rfl rfl hc68 ?_
         refine V_y (Y_geq rfl rfl) rfl rfl rfl ?_
         refine V_ge rfl rfl rfl hc65 ?_
         refine V_y (Y_pick_fe rfl hc68 rfl) rfl rfl rfl ?_
         exact V_end fun a ha => ⟨(), ha.sub ⟨rfl, rfl, (by rw [hc68]; rfl), trivial⟩, rfl⟩
       simp only [List.take, List.drop]
       rintro _ _ rfl
       refine V_y (Y_pick_te rfl hc65 rfl) rfl rfl rfl ?_
       exact V_end fun a ha => ⟨(), ha.sub ⟨rfl, (by rw [hc65]; rfl), trivial⟩, rfl⟩
      ·refine V_gn rfl rfl rfl hc65 rfl rfl rfl ?_
       refine V_gn rfl rfl rfl hc65 rfl rfl rfl ?_
       refine V_gn rfl rfl rfl hc65 rfl rfl rfl ?_
       refine V_gn rfl rfl rfl hc65 rfl rfl rfl ?_
       refine V_gu rfl rfl rfl rfl rfl ?_
       refine V_gu rfl rfl rfl rfl rfl ?_
       refine V_gu rfl rfl rfl rfl rfl ?_
       refine V_gn rfl rfl rfl hc65 rfl rfl rfl ?_
       refine V_y (Y_pick_fe rfl hc65 rfl) rfl rfl rfl ?_
       exact V_end fun a ha => ⟨(), ha.sub ⟨rfl, (by rw [hc65]; rfl), trivial⟩, rfl⟩
     simp only [List.take, List.drop]
     rintro _ _ rfl
     refine V_y (Y_assign rfl) rfl rfl rfl ?_
     refine V_to (fun _ _ => rfl) ?_
     obtain ⟨s72, ho71, ho56⟩ := Option.bind_eq_some_iff.1 ho56
     refine C_cutG (ι := Unit) (fun (_ : Unit) => [(3, .pointer (some ⟨b9, 0, none⟩)), (47, .bool s72)]) (fun (_ : Unit) => fun w' => w12 = w') ?_ ?_
     ·refine C_cond rfl (fun hc77 => ?_) (fun hc77 => ?_)
      ·rw [if_pos hc77] at ho71
       obtain rfl := Option.some.inj ho71
       refine C_skip (fun a ha78 => ?_)
       exact ⟨(), ha78.sub ⟨rfl, rfl, trivial⟩, rfl⟩
      ·rw [if_neg (nt hc77)] at ho71
       refine C_seq ?_
       refine C_region ?_
       have h79 := El_api_Value_0 h14
       refine V_y (Y_fieldAddr Tryz.underlying150 rfl Tryz.sizeOf3 (by decide) rfl) rfl rfl rfl ?_
       refine V_y (Y_load (El.int h79) Tryz.isAgg3 rfl) rfl rfl rfl ?_
       refine V_y (Y_eql rfl rfl) rfl rfl rfl ?_
       refine V_y (Y_move rfl) rfl rfl rfl ?_
       refine V_cut 5 (fun _ : Unit => [(3, .pointer (some ⟨b9, 0, none⟩)), (82, .bool ((t.value.kind == 5) && (!(portref2_IsMoment t.value.int))))]) (fun _ w' => w12 = w') ?_ ?_
       ·simp only [List.take, List.drop]
        rcases Bool.eq_false_or_eq_true (t.value.kind == 5) with hc80 | hc80
        ·refine V_ge rfl rfl rfl hc80 ?_
         have h82 := El_api_Value_1 h14
         refine V_y (Y_fieldAddr Tryz.underlying150 rfl Tryz.sizeOf3 (by decide) rfl) rfl rfl rfl ?_
         refine V_ge rfl rfl rfl hc80 ?_
         refine V_y (Y_load (El.int h82) Tryz.isAgg3 rfl) rfl rfl rfl ?_
         refine V_ge rfl rfl rfl hc80 ?_
         refine V_call Tryz.call53 rfl rfl rfl rfl (portref2_IsMoment_c w12 t.value.int) ?_
         rintro _ _ ⟨rfl, rfl⟩
         refine V_ge rfl rfl rfl hc80 ?_
         refine V_y (Y_not rfl) rfl rfl rfl ?_
         refine V_y (Y_pick_te rfl hc80 rfl) rfl rfl rfl ?_
         exact V_end fun a ha => ⟨(), ha.sub ⟨rfl, (by rw [hc80]; rfl), trivial⟩, rfl⟩
        ·refine V_gn rfl rfl rfl hc80 rfl rfl rfl ?_
         refine V_gn rfl rfl rfl hc80 rfl rfl rfl ?_
         refine V_gn rfl rfl rfl hc80 rfl rfl rfl ?_
         refine V_gn rfl rfl rfl hc80 rfl rfl rfl ?_
         refine V_y (Y_pick_fe rfl hc80 rfl) rfl rfl rfl ?_
         exact V_end fun a ha => ⟨(), ha.sub ⟨rfl, (by rw [hc80]; rfl), trivial⟩, rfl⟩
       simp only [List.take, List.drop]
       rintro _ _ rfl
       refine V_y (Y_assign rfl) rfl rfl rfl ?_
       refine V_to (fun _ _ => rfl) ?_
       obtain ⟨s84, ho83, ho71⟩ := Option.bind_eq_some_iff.1 ho71
       refine C_cutG (ι := Unit) (fun (_ : Unit) => [(3, .pointer (some ⟨b9, 0, none⟩)), (47, .bool s84)]) (fun (_ : Unit) => fun w' => w12 = w') ?_ ?_
       ·refine C_cond rfl (fun hc89 => ?_) (fun hc89 => ?_)
        ·rw [if_pos hc89] at ho83
         obtain rfl := Option.some.inj ho83
         refine C_skip (fun a ha90 => ?_)
         exact ⟨(), ha90.sub ⟨rfl, rfl, trivial⟩, rfl⟩
        ·rw [if_neg (nt hc89)] at ho83
         refine C_region ?_
         have h91 := El_api_Value_0 h14
         refine V_y (Y_fieldAddr Tryz.underlying150 rfl Tryz.sizeOf3 (by decide) rfl) rfl rfl rfl ?_
         refine V_y (Y_load (El.int h91) Tryz.isAgg3 rfl) rfl rfl rfl ?_
         refine V_y (Y_eql rfl rfl) rfl rfl rfl ?_
         refine V_y (Y_move rfl) rfl rfl rfl ?_
         refine V_cut 9 (fun _ : Unit => [(3, .pointer (some ⟨b9, 0, none⟩)), (95, .bool ((t.value.kind == 6) && ((decide (t.value.int < 1)) || (decide ((40 : Int) < t.value.int)))))]) (fun _ w' => w12 = w') ?_ ?_
         ·simp only [List.take, List.drop]
          rcases Bool.eq_false_or_eq_true (t.value.kind == 6) with hc92 | hc92
          ·refine V_ge rfl rfl rfl hc92 ?_
           have h94 := El_api_Value_1 h14
           refine V_y (Y_fieldAddr Tryz.underlying150 rfl Tryz.sizeOf3 (by decide) rfl) rfl rfl rfl ?_
           refine V_ge rfl rfl rfl hc92 ?_
           refine V_y (Y_load (El.int h94) Tryz.isAgg3 rfl) rfl rfl rfl ?_
           refine V_ge rfl rfl rfl hc92 ?_
           refine V_y (Y_lss rfl rfl) rfl rfl rfl ?_
           refine V_ge rfl rfl rfl hc92 ?_
           refine V_y (Y_move rfl) rfl rfl rfl ?_
           refine V_cut 4 (fun _ : Unit => [(3, .pointer (some ⟨b9, 0, none⟩)), (86, .bool (t.value.kind == 6)), (94, .bool ((decide (t.value.int < 1)) || (decide ((40 : Int) < t.value.int))))]) (fun _ w' => w12 = w') ?_ ?_
           ·simp only [List.take, List.drop]
            rcases Bool.eq_false_or_eq_true (decide (t.value.int < 1)) with hc95 | hc95
            ·refine V_gn rfl rfl rfl hc95 rfl rfl rfl ?_
             refine V_gn rfl rfl rfl hc95 rfl rfl rfl ?_
             refine V_gn rfl rfl rfl hc95 rfl rfl rfl ?_
             refine V_ge rfl rfl rfl hc92 ?_
             refine V_y (Y_pick_te rfl hc95 rfl) rfl rfl rfl ?_
             exact V_end fun a ha => ⟨(), ha.sub ⟨rfl, rfl, (by rw [hc95]; rfl), trivial⟩, rfl⟩
            ·refine V_ge rfl rfl rfl hc95 ?_
             have h97 := El_api_Value_1 h14
             refine V_y (Y_fieldAddr Tryz.underlying150 rfl Tryz.sizeOf3 (by decide) rfl) rfl rfl rfl ?_
             refine V_ge rfl rfl rfl hc95 ?_
             refine V_y (Y_load (El.int h97) Tryz.isAgg3 rfl) rfl rfl rfl ?_
             refine V_ge rfl rfl rfl hc95 ?_
             refine V_y (Y_gtr rfl rfl) rfl rfl rfl ?_
             refine V_ge rfl rfl rfl hc92 ?_
             refine V_y (Y_pick_fe rfl hc95 rfl) rfl rfl rfl ?_
             exact V_end fun a ha => ⟨(), ha.sub ⟨rfl, rfl, (by rw [hc95]; rfl), trivial⟩, rfl⟩
           simp only [List.take, List.drop]
           rintro _ _ rfl
           refine V_y (Y_pick_te rfl hc92 rfl) rfl rfl rfl ?_
           exact V_end fun a ha => ⟨(), ha.sub ⟨rfl, (by rw [hc92]; rfl), trivial⟩, rfl⟩
          ·refine V_gn rfl rfl rfl hc92 rfl rfl rfl ?_
           refine V_gn rfl rfl rfl hc92 rfl rfl rfl ?_
           refine V_gn rfl rfl rfl hc92 rfl rfl rfl ?_
           refine V_gn rfl rfl rfl hc92 rfl rfl rfl ?_
           refine V_gu rfl rfl rfl rfl rfl ?_
           refine V_gu rfl rfl rfl rfl rfl ?_
           refine V_gu rfl rfl rfl rfl rfl ?_
           refine V_gn rfl rfl rfl hc92 rfl rfl rfl ?_
           refine V_y (Y_pick_fe rfl hc92 rfl) rfl rfl rfl ?_
           exact V_end fun a ha => ⟨(), ha.sub ⟨rfl, (by rw [hc92]; rfl), trivial⟩, rfl⟩
         simp only [List.take, List.drop]
         rintro _ _ rfl
         refine V_y (Y_assign rfl) rfl rfl rfl ?_
         obtain rfl := Option.some.inj ho83
         refine V_end (fun a ha98 => ?_)
         exact ⟨(), ha98.sub ⟨rfl, rfl, trivial⟩, rfl⟩
       rintro _ _ rfl a ha88
       obtain rfl := Option.some.inj ho71
       exact ⟨(), ha88.sub ⟨rfl, rfl, trivial⟩, rfl⟩
     rintro _ _ rfl a ha76
     obtain rfl := Option.some.inj ho56
     exact ⟨(), ha76.sub ⟨rfl, rfl, trivial⟩, rfl⟩
   rintro _ _ rfl a ha61
   refine C_at (n := ⟨105, [], none⟩) (fun _ _ => rfl) ?_ ha61
   refine C_cond rfl (fun hc101 => ?_) (fun hc101 => ?_)
   ·rw [if_pos hc101] at hm
    refine C_seq ?_
    refine C_region ?_
    refine V_y (Y_assign rfl) rfl rfl rfl ?_
    refine V_to (fun _ _ => rfl) ?_
    obtain rfl := Option.some.inj hm
    refine C_ret ?_
    try simp only [↓inBlock_ret, ↓then_ret]
    exact retQ rfl (Res.one Tryz.results84 rfl) ⟨rfl, hK.kp⟩
   ·rw [if_neg (nt hc101)] at hm
    refine C_seq ?_
    refine C_region ?_
    have h102 := El_api_Value_2 h14
    refine V_y (Y_fieldAddr Tryz.underlying150 rfl Tryz.sizeOf9 (by decide) rfl) rfl rfl rfl ?_
    refine V_y (Y_load (El.str h102) Tryz.isAgg9 rfl) rfl rfl rfl ?_
    refine V_y (Y_lenStr rfl Tryz.underlying9 rfl) rfl rfl rfl ?_
    refine V_y (Y_gtr rfl rfl) rfl rfl rfl ?_
    refine V_y (Y_assign rfl) rfl rfl rfl ?_
    refine V_to (fun _ _ => rfl) ?_
    refine C_cond rfl (fun hc103 => ?_) (fun hc103 => ?_)
    ·rw [if_pos hc103] at hm
     refine C_seq ?_
     refine C_region ?_
     refine V_y (Y_assign rfl) rfl rfl rfl ?_
     refine V_to (fun _ _ => rfl) ?_
     obtain rfl := Option.some.inj hm
     refine C_ret ?_
     try simp only [↓inBlock_ret, ↓then_ret]
     exact retQ rfl (Res.one Tryz.results84 rfl) ⟨rfl, hK.kp⟩
    ·rw [if_neg (nt hc103)] at hm
     refine C_seq ?_
     refine C_region ?_
     have h104 := El_api_Value_2 h14
     refine V_y (Y_fieldAddr Tryz.underlying150 rfl Tryz.sizeOf9 (by decide) rfl) rfl rfl rfl ?_
     refine V_y (Y_load (El.str h104) Tryz.isAgg9 rfl) rfl rfl rfl ?_
     obtain ⟨x105, hx105, hm⟩ := Option.bind_eq_some_iff.1 hm
     refine V_call Tryz.call88 rfl rfl rfl rfl (portref2_lowByte_c w12 hA t.value.text hx105) ?_
     rintro _ w106 ⟨rfl, hk107⟩
     have ht108 := Kp.tr (Dw := False) hk107 hA hB
     replace hK := Tr.trans (Dw := False) hK ht108
     refine V_y (Y_assign rfl) rfl rfl rfl ?_
     refine V_to (fun _ _ => rfl) ?_
     refine C_cond rfl (fun hc109 => ?_) (fun hc109 => ?_)
     ·rw [if_pos hc109] at hm
      refine C_seq ?_
      refine C_region ?_
      refine V_y (Y_assign rfl) rfl rfl rfl ?_
      refine V_to (fun _ _ => rfl) ?_
      obtain rfl := Option.some.inj hm
      refine C_ret ?_
      try simp only [↓inBlock_ret, ↓then_ret]
      exact retQ rfl (Res.one Tryz.results84 rfl) ⟨rfl, hK.kp⟩
     ·rw [if_neg (nt hc109)] at hm
      refine C_skip_to (fun _ _ => rfl) ?_
      refine C_seq ?_
      refine C_region ?_
      refine V_y (Y_assign rfl) rfl rfl rfl ?_
      refine V_to (fun _ _ => rfl) ?_
      obtain rfl := Option.some.inj hm
      refine C_ret ?_
      try simp only [↓inBlock_ret, ↓then_ret]
      exact retQ rfl (Res.one Tryz.results84 rfl) ⟨rfl, hK.kp⟩
set_option maxRecDepth 4000 in
set_option maxHeartbeats 4000000 in
theorem portref2_levelFault_c (w : World) {A : Nat → Prop} (hA : ∀ b, w.heap.size ≤ b → A b) (l : (List level_Level)) (v_l : Value) (h_l : Sl A w v_l l) (i_ : Int) {r : Int} (hm : portref2_levelFault l i_ = some r) : Ret Tryz.prog 66 #[v_l, .int .i64 i_] w fun v w' => v = .int .i64 r ∧ Kp False w w' := by
 unfold portref2_levelFault at hm
 refine enter Tryz.func66 rfl Tryz.ntmps66 rfl ?_
 have hA0 := hA
 have hB := Nat.le_refl w.heap.size
 have hK : Tr False w.heap.size A w A w := Tr.refl (Dw := False) hA
 have hH : Hp w.heap.size A w [] := Hp.nil
 refine C_seq ?_
 refine C_region ?_
 refine V_y (Y_assign rfl) rfl rfl rfl ?_
 refine V_to (fun _ _ => rfl) ?_
 refine C_seq ?_
 refine C_region ?_
 refine V_y (Y_move rfl) rfl rfl rfl ?_
 refine V_y (Y_move rfl) rfl rfl rfl ?_
 obtain ⟨x3, hx3, hm⟩ := Option.bind_eq_some_iff.1 hm
 refine V_indexAddr h_l hx3 Tryz.underlying23 Tryz.sizeOf147 rfl rfl rfl ?_
 intro b4 o5 h6
 obtain ⟨v7, v9, h11, h8, h10⟩ := El_level_Level h6
 refine V_y (Y_loadA h11 Tryz.isAgg147 Tryz.sizeOf147 rfl) rfl rfl rfl ?_
 refine V_alloc Tryz.zeroValue147 rfl ?_
 intro b12 w13 h14
 have h19 : (v7).oneCell' = true := by obtain ⟨_, _, e, _⟩ := Sl.form h8; rw [e]; rfl
 have h22 : (v9).oneCell' = true := by obtain ⟨_, _, e, _⟩ := Sl.form h10; rw [e]; rfl
 refine V_storeNew h14 Tryz.sizeOf147 rfl rfl rfl rfl (by exact (List.forall_mem_cons.2 ⟨rfl, (List.forall_mem_cons.2 ⟨h19, (List.forall_mem_cons.2 ⟨h22, (fun _ h => nomatch h)⟩)⟩)⟩)) ?_
 intro w15 h16
 have hk24 := h16.kp (Dw := False)
 have h23 : El (α := level_Level) A w15 b12 0 x3 := h16.el hA ⟨[.string x3.name], _, rfl, rfl, ⟨[v7], _, rfl, ⟨_, rfl, h8⟩, ⟨_, rfl, h10⟩⟩⟩
 have ht25 := Kp.tr (Dw := False) hk24 hA hB
 replace hH := Hp.kp (Dw := False) hH hk24
 replace h_l := Sl.tr (Dw := False) h_l ht25
 replace hK := Tr.trans (Dw := False) hK ht25
 replace hB := Nat.le_trans hB ht25.ex.size
 replace hA := ht25.new
 refine V_to (fun _ _ => rfl) ?_
 refine C_seq ?_
 refine C_seq ?_
 refine C_region ?_
 have h26 := El_level_Level_0 h23
 refine V_y (Y_fieldAddr Tryz.underlying147 rfl Tryz.sizeOf9 (by decide) rfl) rfl rfl rfl ?_
 refine V_y (Y_load (El.str h26) Tryz.isAgg9 rfl) rfl rfl rfl ?_
 obtain ⟨x27, hx27, hm⟩ := Option.bind_eq_some_iff.1 hm
 refine V_call Tryz.call81 rfl rfl rfl rfl (portref2_IsName_c w15 hA x3.name hx27) ?_
 rintro _ w28 ⟨rfl, hk29⟩
 have ht30 := Kp.tr (Dw := False) hk29 hA hB
 replace hH := Hp.kp (Dw := False) hH hk29
 replace h_l := Sl.tr (Dw := False) h_l ht30
 replace h23 := El.tr (Dw := False) h23 ht30
 replace hK := Tr.trans (Dw := False) hK ht30
 replace hB := Nat.le_trans hB ht30.ex.size
 replace hA := ht30.new
 refine V_y (Y_not rfl) rfl rfl rfl ?_
 refine V_to (fun _ _ => rfl) ?_
 refine C_cond rfl (fun hc31 => ?_) (fun hc31 => ?_)
 ·rw [if_pos hc31] at hm
  refine C_seq ?_
  refine C_region ?_
  refine V_y (Y_assign rfl) rfl rfl rfl ?_
  refine V_to (fun _ _ => rfl) ?_
  obtain rfl := Option.some.inj hm
  refine C_ret ?_
  try simp only [↓inBlock_ret, ↓then_ret]
  exact retQ rfl (Res.one Tryz.results66 rfl) ⟨rfl, hK.kp⟩
 ·rw [if_neg (nt hc31)] at hm
  refine C_skip_to (fun _ _ => rfl) ?_
  refine C_seq ?_
  refine C_seq ?_
  refine C_region ?_
  refine V_y (Y_move rfl) rfl rfl rfl ?_
  refine V_y (Y_move rfl) rfl rfl rfl ?_
  obtain ⟨x32, hx32, hm⟩ := Option.bind_eq_some_iff.1 hm
  obtain ⟨v33, h34, h34y⟩ := sliceL_val hx32 h_l
  refine V_y (Y_sliceLH h34y Tryz.underlying23 Tryz.sizeOf147 rfl rfl) rfl rfl rfl ?_
  refine V_y (Y_makeFunc rfl rfl) rfl rfl rfl ?_
  obtain ⟨x36, hx36, hm⟩ := Option.bind_eq_some_iff.1 hm
  refine V_call Tryz.call82 rfl rfl rfl rfl (slices_ContainsFunc_Llevel_Level_level_Level_c (Dw := False) w28 hA x32 v33 h34 (fun y48 => portref2_levelFault_1 y48 x3) 83 #[] #[.pointer (some ⟨b12, 0, none⟩)] Tryz.call83 (fun w44 A45 ht46 h47 y37 v38 h39 v40 h41 r42 h43 => (portref2_levelFault_1_c (Dw := False) w44 h47 y37 v38 h39 v40 h41 x3 b12 (El.tr (Dw := False) h23 ht46) h43).mono (fun _ _ h => ⟨h.1, h.2⟩)) hx36) ?_
  rintro _ w49 ⟨rfl, hk50⟩
  have ht51 := Kp.tr (Dw := False) hk50 hA hB
  replace hH := Hp.kp (Dw := False) hH hk50
  replace h23 := El.tr (Dw := False) h23 ht51
  replace hK := Tr.trans (Dw := False) hK ht51
  replace hB := Nat.le_trans hB ht51.ex.size
  replace hA := ht51.new
  refine V_to (fun _ _ => rfl) ?_
  refine C_cond rfl (fun hc52 => ?_) (fun hc52 => ?_)
  ·rw [if_pos hc52] at hm
   refine C_seq ?_
   refine C_region ?_
   refine V_y (Y_assign rfl) rfl rfl rfl ?_
   refine V_to (fun _ _ => rfl) ?_
   obtain rfl := Option.some.inj hm
   refine C_ret ?_
   try simp only [↓inBlock_ret, ↓then_ret]
   exact retQ rfl (Res.one Tryz.results66 rfl) ⟨rfl, hK.kp⟩
  ·rw [if_neg (nt hc52)] at hm
   refine C_skip_to (fun _ _ => rfl) ?_
   refine C_seq ?_
   refine C_seq ?_
   refine C_region ?_
   have h53 := El_level_Level_1 h23
   refine V_y (Y_fieldAddr Tryz.underlying147 rfl Tryz.sizeOf144 (by decide) rfl) rfl rfl rfl ?_
   obtain ⟨v54, h55, h56⟩ := El.list h53
   refine V_y (Y_load h55 Tryz.isAgg144 rfl) rfl rfl rfl ?_
   refine V_y (Y_lenSl h56 rfl Tryz.underlying144 rfl) rfl rfl rfl ?_
   refine V_y (Y_gtr rfl rfl) rfl rfl rfl ?_
   refine V_to (fun _ _ => rfl) ?_
   refine C_cond rfl (fun hc57 => ?_) (fun hc57 => ?_)
   ·rw [if_pos hc57] at hm
    refine C_seq ?_
    refine C_region ?_
    refine V_y (Y_assign rfl) rfl rfl rfl ?_
    refine V_to (fun _ _ => rfl) ?_
    obtain rfl := Option.some.inj hm
    refine C_ret ?_
    try simp only [↓inBlock_ret, ↓then_ret]
    exact retQ rfl (Res.one Tryz.results66 rfl) ⟨rfl, hK.kp⟩
   ·rw [if_neg (nt hc57)] at hm
    refine C_skip_to (fun _ _ => rfl) ?_
    refine C_seq ?_
    refine C_seq ?_
    refine C_region ?_
    have h58 := El_level_Level_1 h23
    refine V_y (Y_fieldAddr Tryz.underlying147 rfl Tryz.sizeOf144 (by decide) rfl) rfl rfl rfl ?_
    obtain ⟨v59, h60, h61⟩ := El.list h58
    refine V_y (Y_load h60 Tryz.isAgg144 rfl) rfl rfl rfl ?_
    refine V_y (Y_lenSl h61 rfl Tryz.underlying144 rfl) rfl rfl rfl ?_
    refine V_y (Y_move rfl) rfl rfl rfl ?_
    refine V_to (fun _ _ => rfl) ?_
    have hn82 := Sl.le h61
    obtain ⟨o62, ho62, hm⟩ := Option.bind_eq_some_iff.1 hm
    refine C_cutG (ι := (Unit × (Nat → Prop))) (fun ⟨s63, A69⟩ => [(5, .pointer (some ⟨b12, 0, none⟩))]) (fun ⟨s63, A69⟩ => fun w' => o62 = .fin s63 ∧ Hp w.heap.size A69 w' ([]) ∧ Tr False w.heap.size A w49 A69 w') ?_ ?_
    ·refine C_block ?_
     refine C_range ho62 (fun k65 _ a w' => ∃ i : (Nat → Prop), Has ⟨115, [], none⟩ a ([(5, .pointer (some ⟨b12, 0, none⟩)), (29, v59), (30, .int .i64 (x3.tests.length : Int)), (31, .int .i64 (k65 : Int))]) ∧ Hp w.heap.size i w' ([]) ∧ Tr False w.heap.size A w49 i w') (fun a ha => ⟨A, ha.sub ⟨rfl, rfl, rfl, rfl, trivial⟩, ⟨hH, Tr.refl (Dw := False) hA⟩⟩) ?_
     rintro K k65 _ a w72 ⟨A73, ha126, hH74, hr64⟩ hle78 K81 h80
     refine C_of ?_ ha126
     replace h23 := El.tr (Dw := False) h23 hr64
     replace h61 := Sl.tr (Dw := False) h61 hr64
     replace hK := Tr.trans (Dw := False) hK hr64
     replace hB := Nat.le_trans hB hr64.ex.size
     replace hA := hr64.new
     replace hH : Hp w.heap.size A73 w72 ([]) := hH74
     refine C_seq (C_region (V_y (Y_lss rfl rfl) rfl rfl rfl (V_to (fun _ _ => rfl) ?_)))
     refine C_seq ?_
     refine C_cond rfl (fun hc83 => ?_) (fun hc83 => ?_)
     ·have hlt79 := lt_of_dec hc83
      obtain ⟨x75, h76, h77⟩ := K81 hlt79
      refine C_skip_to (fun _ _ => rfl) ?_
      refine C_seq ?_
      refine C_block ?_
      refine C_seq ?_
      refine C_region ?_
      refine V_y (Y_move rfl) rfl rfl rfl ?_
      obtain ⟨x84, hx84, h76⟩ := Option.bind_eq_some_iff.1 h76
      refine V_indexAddr h61 hx84 Tryz.underlying144 Tryz.sizeOf152 rfl rfl rfl ?_
      intro b85 o86 h87
      obtain ⟨h88, _⟩ := El_level_Test h87
      refine V_y (Y_loadA h88 Tryz.isAgg152 Tryz.sizeOf152 rfl) rfl rfl rfl ?_
      refine V_alloc Tryz.zeroValue152 rfl ?_
      intro b89 w90 h91
      refine V_y (Y_assign rfl) rfl rfl rfl ?_
      refine V_storeNew h91 Tryz.sizeOf152 rfl rfl rfl rfl (by exact (List.forall_mem_cons.2 ⟨rfl, (List.forall_mem_cons.2 ⟨rfl, (List.forall_mem_cons.2 ⟨rfl, (List.forall_mem_cons.2 ⟨rfl, (fun _ h => nomatch h)⟩)⟩)⟩)⟩)) ?_
      intro w92 h93
      have hk95 := h93.kp (Dw := False)
      have h94 : El (α := level_Test) A73 w92 b89 0 x84 := h93.el hA ⟨[.int .i64 x84.field], _, rfl, rfl, ⟨[.int .i64 x84.value.kind], _, rfl, rfl, ⟨[.int .i64 x84.value.int], _, rfl, rfl, rfl⟩⟩⟩
      have ht96 := Kp.tr (Dw := False) hk95 hA hB
      replace hH := Hp.kp (Dw := False) hH hk95
      replace h23 := El.tr (Dw := False) h23 ht96
      replace hK := Tr.trans (Dw := False) hK ht96
      replace hr64 := Tr.trans (Dw := False) hr64 ht96
      replace hB := Nat.le_trans hB ht96.ex.size
      replace hA := ht96.new
      refine V_to (fun _ _ => rfl) ?_
      refine C_seq ?_
      refine C_seq ?_
      refine C_region ?_
      have h97 := El_level_Test_0 h94
      refine V_y (Y_fieldAddr Tryz.underlying152 rfl Tryz.sizeOf3 (by decide) rfl) rfl rfl rfl ?_
      refine V_y (Y_load (El.int h97) Tryz.isAgg3 rfl) rfl rfl rfl ?_
      refine V_y (Y_lss rfl rfl) rfl rfl rfl ?_
      refine V_y (Y_move rfl) rfl rfl rfl ?_
      refine V_cut 4 (fun _ : Unit => [(5, .pointer (some ⟨b12, 0, none⟩)), (6, .int .i64 (k65 : Int)), (7, .pointer (some ⟨b89, 0, none⟩)), (29, v59), (30, .int .i64 (x3.tests.length : Int)), (31, .int .i64 (k65 : Int)), (43, .bool ((decide (x84.field < (-1))) || (decide ((20 : Int) ≤ x84.field))))]) (fun _ w' => w92 = w') ?_ ?_
      ·simp only [List.take, List.drop]
       rcases Bool.eq_false_or_eq_true (decide (x84.field < (-1))) with hc98 | hc98
       ·refine V_gn rfl rfl rfl hc98 rfl rfl rfl ?_
        refine V_gn rfl rfl rfl hc98 rfl rfl rfl ?_
        refine V_gn rfl rfl rfl hc98 rfl rfl rfl ?_
        refine V_y (Y_pick_te rfl hc98 rfl) rfl rfl rfl ?_
        exact V_end fun a ha => ⟨(), ha.sub ⟨rfl, rfl, rfl, rfl, rfl, rfl, (by rw [hc98]; rfl), trivial⟩, rfl⟩
       ·refine V_ge rfl rfl rfl hc98 ?_
        have h100 := El_level_Test_0 h94
        refine V_y (Y_fieldAddr Tryz.underlying152 rfl Tryz.sizeOf3 (by decide) rfl) rfl rfl rfl ?_
        refine V_ge rfl rfl rfl hc98 ?_
        refine V_y (Y_load (El.int h100) Tryz.isAgg3 rfl) rfl rfl rfl ?_
        refine V_ge rfl rfl rfl hc98 ?_
        refine V_y (Y_geq rfl rfl) rfl rfl rfl ?_
        refine V_y (Y_pick_fe rfl hc98 rfl) rfl rfl rfl ?_
        exact V_end fun a ha => ⟨(), ha.sub ⟨rfl, rfl, rfl, rfl, rfl, rfl, (by rw [hc98]; rfl), trivial⟩, rfl⟩
      simp only [List.take, List.drop]
      rintro _ _ rfl
      refine V_to (fun _ _ => rfl) ?_
      refine C_cond rfl (fun hc101 => ?_) (fun hc101 => ?_)
      ·rw [if_pos hc101] at h76
       refine C_seq ?_
       refine C_region ?_
       refine V_y (Y_assign rfl) rfl rfl rfl ?_
       refine V_to (fun _ _ => rfl) ?_
       obtain rfl := Option.some.inj h76
       obtain rfl := (h77 : Lp.rt _ = _)
       rw [Lp.andThen_rt] at hm
       obtain rfl := Option.some.inj hm
       refine C_ret ?_
       try simp only [↓inBlock_ret, ↓then_ret]
       exact retQ rfl (Res.one Tryz.results66 rfl) ⟨rfl, hK.kp⟩
      ·rw [if_neg (nt hc101)] at h76
       refine C_skip_to (fun _ _ => rfl) ?_
       refine C_seq ?_
       refine C_seq ?_
       refine C_region_q (Dw := False) Tryz_mixed (by kernel_rfl) ?_
       refine VQ_y (fun w' hw' => Y_move rfl) rfl rfl rfl ?_
       refine VQ_y (fun w' hw' => Y_gtr rfl rfl) rfl rfl rfl ?_
       refine VQ_y (fun w' hw' => Y_move rfl) rfl rfl rfl ?_
       obtain ⟨s103, hs103, h76⟩ := Option.bind_eq_some_iff.1 h76
       refine VQ_cut 11 (fun _ : Unit => [(5, .pointer (some ⟨b12, 0, none⟩)), (7, .pointer (some ⟨b89, 0, none⟩)), (29, v59), (30, .int .i64 (x3.tests.length : Int)), (31, .int .i64 (k65 : Int)), (57, .bool s103)]) (fun _ => True) ?_ ?_
       ·simp only [List.take, List.drop]
        rcases Bool.eq_false_or_eq_true (decide ((0 : Int) < (k65 : Int))) with hc102 | hc102
        ·rw [if_pos hc102] at hs103
         refine VQ_ge rfl rfl rfl hc102 ?_
         have h104 := El_level_Test_0 h94
         refine VQ_y (fun w' hw' => Y_fieldAddr Tryz.underlying152 rfl Tryz.sizeOf3 (by decide) rfl) rfl rfl rfl ?_
         refine VQ_ge rfl rfl rfl hc102 ?_
         refine VQ_y (fun w' hw' => Y_load (El.int (El.kp (Dw := False) h104 hw')) Tryz.isAgg3 rfl) rfl rfl rfl ?_
         refine VQ_ge rfl rfl rfl hc102 ?_
         have h105 := El_level_Level_1 h23
         refine VQ_y (fun w' hw' => Y_fieldAddr Tryz.underlying147 rfl Tryz.sizeOf144 (by decide) rfl) rfl rfl rfl ?_
         refine VQ_ge rfl rfl rfl hc102 ?_
         obtain ⟨v106, h107, h108⟩ := El.list h105
         refine VQ_y (fun w' hw' => Y_load ((World.cell?_of_block (hw'.block _ (World.block_lt_of_cell? _ _ h107))).trans h107) Tryz.isAgg144 rfl) rfl rfl rfl ?_
         refine VQ_ge rfl rfl rfl hc102 ?_
         refine VQ_y (fun w' hw' => Y_move rfl) rfl rfl rfl ?_
         refine VQ_ge rfl rfl rfl hc102 ?_
         refine VQ_y (fun w' hw' => Y_subI rfl rfl) rfl rfl rfl ?_
         refine VQ_ge rfl rfl rfl hc102 ?_
         obtain ⟨x109, hx109, hs103⟩ := Option.bind_eq_some_iff.1 hs103
         refine VQ_indexAddr h108 hx109 Tryz.underlying144 Tryz.sizeOf152 rfl rfl rfl ?_
         intro b110 o111 h112
         refine VQ_ge rfl rfl rfl hc102 ?_
         have h113 := El_level_Test_0 h112
         refine VQ_y (fun w' hw' => Y_fieldAddr Tryz.underlying152 rfl Tryz.sizeOf3 (by decide) rfl) rfl rfl rfl ?_
         refine VQ_ge rfl rfl rfl hc102 ?_
         refine VQ_y (fun w' hw' => Y_load (El.int (El.kp (Dw := False) h113 hw')) Tryz.isAgg3 rfl) rfl rfl rfl ?_
         refine VQ_ge rfl rfl rfl hc102 ?_
         refine VQ_y (fun w' hw' => Y_leq rfl rfl) rfl rfl rfl ?_
         refine VQ_y (fun _ _ => Y_pick_te rfl hc102 rfl) rfl rfl rfl ?_
         obtain rfl := Option.some.inj hs103
         exact VQ_end fun a ha => ⟨(), ha.sub ⟨rfl, rfl, rfl, rfl, rfl, rfl, trivial⟩, trivial⟩
        ·rw [if_neg (nt hc102)] at hs103
         refine VQ_gn rfl rfl rfl hc102 rfl rfl rfl ?_
         refine VQ_gn rfl rfl rfl hc102 rfl rfl rfl ?_
         refine VQ_gn rfl rfl rfl hc102 rfl rfl rfl ?_
         refine VQ_gn rfl rfl rfl hc102 rfl rfl rfl ?_
         refine VQ_gn rfl rfl rfl hc102 rfl rfl rfl ?_
         refine VQ_gn rfl rfl rfl hc102 rfl rfl rfl ?_
         refine VQ_gn rfl rfl rfl hc102 rfl rfl rfl ?_
         refine VQ_gn rfl rfl rfl hc102 rfl rfl rfl ?_
         refine VQ_gn rfl rfl rfl hc102 rfl rfl rfl ?_
         refine VQ_gn rfl rfl rfl hc102 rfl rfl rfl ?_
         refine VQ_y (fun _ _ => Y_pick_fe rfl hc102 rfl) rfl rfl rfl ?_
         obtain rfl := Option.some.inj hs103
         exact VQ_end fun a ha => ⟨(), ha.sub ⟨rfl, rfl, rfl, rfl, rfl, rfl, trivial⟩, trivial⟩
       simp only [List.take, List.drop]
       rintro _ _
       refine VQ_to (fun _ _ => rfl) (fun w114 hk115 => ?_)
       have ht116 := Kp.tr (Dw := False) hk115 hA hB
       replace hH := Hp.kp (Dw := False) hH hk115
       replace h94 := El.tr (Dw := False) h94 ht116
       replace hK := Tr.trans (Dw := False) hK ht116
       replace hr64 := Tr.trans (Dw := False) hr64 ht116
       replace hB := Nat.le_trans hB ht116.ex.size
       replace hA := ht116.new
       refine C_cond rfl (fun hc117 => ?_) (fun hc117 => ?_)
       ·rw [if_pos hc117] at h76
        refine C_seq ?_
        refine C_region ?_
        refine V_y (Y_assign rfl) rfl rfl rfl ?_
        refine V_to (fun _ _ => rfl) ?_
        obtain rfl := Option.some.inj h76
        obtain rfl := (h77 : Lp.rt _ = _)
        rw [Lp.andThen_rt] at hm
        obtain rfl := Option.some.inj hm
        refine C_ret ?_
        try simp only [↓inBlock_ret, ↓then_ret]
        exact retQ rfl (Res.one Tryz.results66 rfl) ⟨rfl, hK.kp⟩
       ·rw [if_neg (nt hc117)] at h76
        refine C_skip_to (fun _ _ => rfl) ?_
        refine C_seq ?_
        refine C_region ?_
        obtain ⟨h118, _⟩ := El_level_Test h94
        refine V_y (Y_loadA h118 Tryz.isAgg152 Tryz.sizeOf152 rfl) rfl rfl rfl ?_
        obtain ⟨x119, hx119, h76⟩ := Option.bind_eq_some_iff.1 h76
        refine V_call Tryz.call84 rfl rfl rfl rfl (portref2_testFault_c w114 hA x84 hx119) ?_
        rintro _ w120 ⟨rfl, hk121⟩
        have ht122 := Kp.tr (Dw := False) hk121 hA hB
        replace hH := Hp.kp (Dw := False) hH hk121
        replace hK := Tr.trans (Dw := False) hK ht122
        replace hr64 := Tr.trans (Dw := False) hr64 ht122
        refine V_y (Y_assign rfl) rfl rfl rfl ?_
        refine V_to (fun _ _ => rfl) ?_
        refine C_seq ?_
        refine C_region ?_
        refine V_y (Y_move rfl) rfl rfl rfl ?_
        refine V_y (Y_neq rfl rfl) rfl rfl rfl ?_
        refine V_to (fun _ _ => rfl) ?_
        refine C_cond rfl (fun hc123 => ?_) (fun hc123 => ?_)
        ·rw [if_pos hc123] at h76
         refine C_seq ?_
         refine C_region ?_
         refine V_y (Y_move rfl) rfl rfl rfl ?_
         refine V_y (Y_assign rfl) rfl rfl rfl ?_
         refine V_to (fun _ _ => rfl) ?_
         obtain rfl := Option.some.inj h76
         obtain rfl := (h77 : Lp.rt _ = _)
         rw [Lp.andThen_rt] at hm
         obtain rfl := Option.some.inj hm
         refine C_ret ?_
         try simp only [↓inBlock_ret, ↓then_ret]
         exact retQ rfl (Res.one Tryz.results66 rfl) ⟨rfl, hK.kp⟩
        ·rw [if_neg (nt hc123)] at h76
         refine C_skip_to (fun _ _ => rfl) ?_
         refine C_region ?_
         refine V_y (Y_addI rfl rfl) rfl rfl rfl ?_
         refine V_y (Y_move rfl) rfl rfl rfl ?_
         obtain rfl := Option.some.inj h76
         refine V_end (fun a ha124 => ?_)
         exact ⟨(), hlt79, h77, ⟨A73, ha124.sub ⟨rfl, rfl, rfl, (congrArg (fun z => some (Value.int .i64 z)) (w64_succ hlt79 hn82)), trivial⟩, ⟨hH, hr64⟩⟩⟩
     ·refine C_exit (fun a ha125 => ?_)
      exact ⟨((), A73), ha125.sub ⟨rfl, trivial⟩, ⟨(h80 (eq_of_dec hle78 hc83)).symm, hH, hr64⟩⟩
    rintro ⟨s63, A69⟩ w66 ⟨rfl, hH70, hk67⟩ a ha68
    rw [Lp.andThen_fin] at hm
    replace h23 := El.tr (Dw := False) h23 hk67
    replace hK := Tr.trans (Dw := False) hK hk67
    replace hB := Nat.le_trans hB hk67.ex.size
    replace hA := hk67.new
    replace hH : Hp w.heap.size A69 w66 ([]) := hH70
    refine C_at (n := ⟨115, [], none⟩) (fun _ _ => rfl) ?_ ha68
    refine C_seq ?_
    refine C_seq ?_
    refine C_region ?_
    have h127 := El_level_Level_2 h23
    refine V_y (Y_fieldAddr Tryz.underlying147 rfl Tryz.sizeOf145 (by decide) rfl) rfl rfl rfl ?_
    obtain ⟨v128, h129, h130⟩ := El.list h127
    refine V_y (Y_load h129 Tryz.isAgg145 rfl) rfl rfl rfl ?_
    refine V_y (Y_lenSl h130 rfl Tryz.underlying145 rfl) rfl rfl rfl ?_
    refine V_y (Y_move rfl) rfl rfl rfl ?_
    refine V_to (fun _ _ => rfl) ?_
    have hn151 := Sl.le h130
    obtain ⟨o131, ho131, hm⟩ := Option.bind_eq_some_iff.1 hm
    refine C_cutG (ι := (Unit × (Nat → Prop))) (fun ⟨s132, A138⟩ => []) (fun ⟨s132, A138⟩ => fun w' => o131 = .fin s132 ∧ Hp w.heap.size A138 w' ([]) ∧ Tr False w.heap.size A69 w66 A138 w') ?_ ?_
    ·refine C_block ?_
     refine C_range ho131 (fun k134 _ a w' => ∃ i : (Nat → Prop), Has ⟨115, [], none⟩ a ([(5, .pointer (some ⟨b12, 0, none⟩)), (65, v128), (66, .int .i64 (x3.targets.length : Int)), (67, .int .i64 (k134 : Int))]) ∧ Hp w.heap.size i w' ([]) ∧ Tr False w.heap.size A69 w66 i w') (fun a ha => ⟨A69, ha.sub ⟨rfl, rfl, rfl, rfl, trivial⟩, ⟨hH, Tr.refl (Dw := False) hA⟩⟩) ?_
     rintro K k134 _ a w141 ⟨A142, ha201, hH143, hr133⟩ hle147 K150 h149
     refine C_of ?_ ha201
     replace h23 := El.tr (Dw := False) h23 hr133
     replace h130 := Sl.tr (Dw := False) h130 hr133
     replace hK := Tr.trans (Dw := False) hK hr133
     replace hB := Nat.le_trans hB hr133.ex.size
     replace hA := hr133.new
     replace hH : Hp w.heap.size A142 w141 ([]) := hH143
     refine C_seq (C_region (V_y (Y_lss rfl rfl) rfl rfl rfl (V_to (fun _ _ => rfl) ?_)))
     refine C_seq ?_
     refine C_cond rfl (fun hc152 => ?_) (fun hc152 => ?_)
     ·have hlt148 := lt_of_dec hc152
      obtain ⟨x144, h145, h146⟩ := K150 hlt148
      refine C_skip_to (fun _ _ => rfl) ?_
      refine C_seq ?_
      refine C_block ?_
      refine C_seq ?_
      refine C_region ?_
      refine V_y (Y_move rfl) rfl rfl rfl ?_
      obtain ⟨x153, hx153, h145⟩ := Option.bind_eq_some_iff.1 h145
      refine V_indexAddr h130 hx153 Tryz.underlying145 Tryz.sizeOf49 rfl rfl rfl ?_
      intro b154 o155 h156
      obtain ⟨h157, _⟩ := El_level_Target h156
      refine V_y (Y_loadA h157 Tryz.isAgg49 Tryz.sizeOf49 rfl) rfl rfl rfl ?_
      refine V_alloc Tryz.zeroValue49 rfl ?_
      intro b158 w159 h160
      refine V_y (Y_assign rfl) rfl rfl rfl ?_
      refine V_storeNew h160 Tryz.sizeOf49 rfl rfl rfl rfl (by exact (List.forall_mem_cons.2 ⟨rfl, (List.forall_mem_cons.2 ⟨rfl, (List.forall_mem_cons.2 ⟨rfl, (fun _ h => nomatch h)⟩)⟩)⟩)) ?_
      intro w161 h162
      have hk164 := h162.kp (Dw := False)
      have h163 : El (α := level_Target) A142 w161 b158 0 x153 := h162.el hA ⟨[.int .i64 x153.kind], _, rfl, rfl, ⟨[.int .i64 x153.minutes], _, rfl, rfl, rfl⟩⟩
      have ht165 := Kp.tr (Dw := False) hk164 hA hB
      replace hH := Hp.kp (Dw := False) hH hk164
      replace h23 := El.tr (Dw := False) h23 ht165
      replace hK := Tr.trans (Dw := False) hK ht165
      replace hr133 := Tr.trans (Dw := False) hr133 ht165
      replace hB := Nat.le_trans hB ht165.ex.size
      replace hA := ht165.new
      refine V_to (fun _ _ => rfl) ?_
      refine C_seq ?_
      refine C_seq ?_
      refine C_region ?_
      have h166 := El_level_Target_0 h163
      refine V_y (Y_fieldAddr Tryz.underlying49 rfl Tryz.sizeOf3 (by decide) rfl) rfl rfl rfl ?_
      refine V_y (Y_load (El.int h166) Tryz.isAgg3 rfl) rfl rfl rfl ?_
      refine V_y (Y_lss rfl rfl) rfl rfl rfl ?_
      refine V_y (Y_move rfl) rfl rfl rfl ?_
      refine V_cut 4 (fun _ : Unit => [(5, .pointer (some ⟨b12, 0, none⟩)), (9, .int .i64 (k134 : Int)), (10, .pointer (some ⟨b158, 0, none⟩)), (65, v128), (66, .int .i64 (x3.targets.length : Int)), (67, .int .i64 (k134 : Int)), (79, .bool ((decide (x153.kind < 1)) || (decide ((3 : Int) < x153.kind))))]) (fun _ w' => w161 = w') ?_ ?_
      ·simp only [List.take, List.drop]
       rcases Bool.eq_false_or_eq_true (decide (x153.kind < 1)) with hc167 | hc167
       ·refine V_gn rfl rfl rfl hc167 rfl rfl rfl ?_
        refine V_gn rfl rfl rfl hc167 rfl rfl rfl ?_
        refine V_gn rfl rfl rfl hc167 rfl rfl rfl ?_
        refine V_y (Y_pick_te rfl hc167 rfl) rfl rfl rfl ?_
        exact V_end fun a ha => ⟨(), ha.sub ⟨rfl, rfl, rfl, rfl, rfl, rfl, (by rw [hc167]; rfl), trivial⟩, rfl⟩
       ·refine V_ge rfl rfl rfl hc167 ?_
        have h169 := El_level_Target_0 h163
        refine V_y (Y_fieldAddr Tryz.underlying49 rfl Tryz.sizeOf3 (by decide) rfl) rfl rfl rfl ?_
        refine V_ge rfl rfl rfl hc167 ?_
        refine V_y (Y_load (El.int h169) Tryz.isAgg3 rfl) rfl rfl rfl ?_
        refine V_ge rfl rfl rfl hc167 ?_
        refine V_y (Y_gtr rfl rfl) rfl rfl rfl ?_
        refine V_y (Y_pick_fe rfl hc167 rfl) rfl rfl rfl ?_
        exact V_end fun a ha => ⟨(), ha.sub ⟨rfl, rfl, rfl, rfl, rfl, rfl, (by rw [hc167]; rfl), trivial⟩, rfl⟩
      simp only [List.take, List.drop]
      rintro _ _ rfl
      refine V_y (Y_move rfl) rfl rfl rfl ?_
      refine V_cut 4 (fun _ : Unit => [(5, .pointer (some ⟨b12, 0, none⟩)), (9, .int .i64 (k134 : Int)), (10, .pointer (some ⟨b158, 0, none⟩)), (65, v128), (66, .int .i64 (x3.targets.length : Int)), (67, .int .i64 (k134 : Int)), (84, .bool (((decide (x153.kind < 1)) || (decide ((3 : Int) < x153.kind))) || (decide (x153.minutes < 0))))]) (fun _ w' => w161 = w') ?_ ?_
      ·simp only [List.take, List.drop]
       rcases Bool.eq_false_or_eq_true (((decide (x153.kind < 1)) || (decide ((3 : Int) < x153.kind)))) with hc170 | hc170
       ·refine V_gn rfl rfl rfl hc170 rfl rfl rfl ?_
        refine V_gn rfl rfl rfl hc170 rfl rfl rfl ?_
        refine V_gn rfl rfl rfl hc170 rfl rfl rfl ?_
        refine V_y (Y_pick_te rfl hc170 rfl) rfl rfl rfl ?_
        exact V_end fun a ha => ⟨(), ha.sub ⟨rfl, rfl, rfl, rfl, rfl, rfl, (by rw [hc170]; rfl), trivial⟩, rfl⟩
       ·refine V_ge rfl rfl rfl hc170 ?_
        have h172 := El_level_Target_1 h163
        refine V_y (Y_fieldAddr Tryz.underlying49 rfl Tryz.sizeOf3 (by decide) rfl) rfl rfl rfl ?_
        refine V_ge rfl rfl rfl hc170 ?_
        refine V_y (Y_load (El.int h172) Tryz.isAgg3 rfl) rfl rfl rfl ?_
        refine V_ge rfl rfl rfl hc170 ?_
        refine V_y (Y_lss rfl rfl) rfl rfl rfl ?_
        refine V_y (Y_pick_fe rfl hc170 rfl) rfl rfl rfl ?_
        exact V_end fun a ha => ⟨(), ha.sub ⟨rfl, rfl, rfl, rfl, rfl, rfl, (by rw [hc170]; rfl), trivial⟩, rfl⟩
      simp only [List.take, List.drop]
      rintro _ _ rfl
      refine V_y (Y_move rfl) rfl rfl rfl ?_
      refine V_cut 4 (fun _ : Unit => [(5, .pointer (some ⟨b12, 0, none⟩)), (9, .int .i64 (k134 : Int)), (10, .pointer (some ⟨b158, 0, none⟩)), (65, v128), (66, .int .i64 (x3.targets.length : Int)), (67, .int .i64 (k134 : Int)), (89, .bool ((((decide (x153.kind < 1)) || (decide ((3 : Int) < x153.kind))) || (decide (x153.minutes < 0))) || (decide ((100000 : Int) < x153.minutes))))]) (fun _ w' => w161 = w') ?_ ?_
      ·simp only [List.take, List.drop]
       rcases Bool.eq_false_or_eq_true ((((decide (x153.kind < 1)) || (decide ((3 : Int) < x153.kind))) || (decide (x153.minutes < 0)))) with hc173 | hc173
       ·refine V_gn rfl rfl rfl hc173 rfl rfl rfl ?_
        refine V_gn rfl rfl rfl hc173 rfl rfl rfl ?_
        refine V_gn rfl rfl rfl hc173 rfl rfl rfl ?_
        refine V_y (Y_pick_te rfl hc173 rfl) rfl rfl rfl ?_
        exact V_end fun a ha => ⟨(), ha.sub ⟨rfl, rfl, rfl, rfl, rfl, rfl, (by rw [hc173]; rfl), trivial⟩, rfl⟩
       ·refine V_ge rfl rfl rfl hc173 ?_
        have h175 := El_level_Target_1 h163
        refine V_y (Y_fieldAddr Tryz.underlying49 rfl Tryz.sizeOf3 (by decide) rfl) rfl rfl rfl ?_
        refine V_ge rfl rfl rfl hc173 ?_
        refine V_y (Y_load (El.int h175) Tryz.isAgg3 rfl) rfl rfl rfl ?_
        refine V_ge rfl rfl rfl hc173 ?_
        refine V_y (Y_gtr rfl rfl) rfl rfl rfl ?_
        refine V_y (Y_pick_fe rfl hc173 rfl) rfl rfl rfl ?_
        exact V_end fun a ha => ⟨(), ha.sub ⟨rfl, rfl, rfl, rfl, rfl, rfl, (by rw [hc173]; rfl), trivial⟩, rfl⟩
      simp only [List.take, List.drop]
      rintro _ _ rfl
      refine V_y (Y_move rfl) rfl rfl rfl ?_
      refine V_cut 4 (fun _ : Unit => [(5, .pointer (some ⟨b12, 0, none⟩)), (9, .int .i64 (k134 : Int)), (10, .pointer (some ⟨b158, 0, none⟩)), (65, v128), (66, .int .i64 (x3.targets.length : Int)), (67, .int .i64 (k134 : Int)), (94, .bool (((((decide (x153.kind < 1)) || (decide ((3 : Int) < x153.kind))) || (decide (x153.minutes < 0))) || (decide ((100000 : Int) < x153.minutes))) || (decide (x153.calendar < 0))))]) (fun _ w' => w161 = w') ?_ ?_
      ·simp only [List.take, List.drop]
       rcases Bool.eq_false_or_eq_true (((((decide (x153.kind < 1)) || (decide ((3 : Int) < x153.kind))) || (decide (x153.minutes < 0))) || (decide ((100000 : Int) < x153.minutes)))) with hc176 | hc176
       ·refine V_gn rfl rfl rfl hc176 rfl rfl rfl ?_
        refine V_gn rfl rfl rfl hc176 rfl rfl rfl ?_
        refine V_gn rfl rfl rfl hc176 rfl rfl rfl ?_
        refine V_y (Y_pick_te rfl hc176 rfl) rfl rfl rfl ?_
        exact V_end fun a ha => ⟨(), ha.sub ⟨rfl, rfl, rfl, rfl, rfl, rfl, (by rw [hc176]; rfl), trivial⟩, rfl⟩
       ·refine V_ge rfl rfl rfl hc176 ?_
        have h178 := El_level_Target_2 h163
        refine V_y (Y_fieldAddr Tryz.underlying49 rfl Tryz.sizeOf3 (by decide) rfl) rfl rfl rfl ?_
        refine V_ge rfl rfl rfl hc176 ?_
        refine V_y (Y_load (El.int h178) Tryz.isAgg3 rfl) rfl rfl rfl ?_
        refine V_ge rfl rfl rfl hc176 ?_
        refine V_y (Y_lss rfl rfl) rfl rfl rfl ?_
        refine V_y (Y_pick_fe rfl hc176 rfl) rfl rfl rfl ?_
        exact V_end fun a ha => ⟨(), ha.sub ⟨rfl, rfl, rfl, rfl, rfl, rfl, (by rw [hc176]; rfl), trivial⟩, rfl⟩
      simp only [List.take, List.drop]
      rintro _ _ rfl
      refine V_y (Y_move rfl) rfl rfl rfl ?_
      refine V_cut 4 (fun _ : Unit => [(5, .pointer (some ⟨b12, 0, none⟩)), (9, .int .i64 (k134 : Int)), (10, .pointer (some ⟨b158, 0, none⟩)), (65, v128), (66, .int .i64 (x3.targets.length : Int)), (67, .int .i64 (k134 : Int)), (99, .bool ((((((decide (x153.kind < 1)) || (decide ((3 : Int) < x153.kind))) || (decide (x153.minutes < 0))) || (decide ((100000 : Int) < x153.minutes))) || (decide (x153.calendar < 0))) || (decide ((20 : Int) ≤ x153.calendar))))]) (fun _ w' => w161 = w') ?_ ?_
      ·simp only [List.take, List.drop]
       rcases Bool.eq_false_or_eq_true ((((((decide (x153.kind < 1)) || (decide ((3 : Int) < x153.kind))) || (decide (x153.minutes < 0))) || (decide ((100000 : Int) < x153.minutes))) || (decide (x153.calendar < 0)))) with hc179 | hc179
       ·refine V_gn rfl rfl rfl hc179 rfl rfl rfl ?_
        refine V_gn rfl rfl rfl hc179 rfl rfl rfl ?_
        refine V_gn rfl rfl rfl hc179 rfl rfl rfl ?_
        refine V_y (Y_pick_te rfl hc179 rfl) rfl rfl rfl ?_
        exact V_end fun a ha => ⟨(), ha.sub ⟨rfl, rfl, rfl, rfl, rfl, rfl, (by rw [hc179]; rfl), trivial⟩, rfl⟩
       ·refine V_ge rfl rfl rfl hc179 ?_
        have h181 := El_level_Target_2 h163
        refine V_y (Y_fieldAddr Tryz.underlying49 rfl Tryz.sizeOf3 (by decide) rfl) rfl rfl rfl ?_
        refine V_ge rfl rfl rfl hc179 ?_
        refine V_y (Y_load (El.int h181) Tryz.isAgg3 rfl) rfl rfl rfl ?_
        refine V_ge rfl rfl rfl hc179 ?_
        refine V_y (Y_geq rfl rfl) rfl rfl rfl ?_
        refine V_y (Y_pick_fe rfl hc179 rfl) rfl rfl rfl ?_
        exact V_end fun a ha => ⟨(), ha.sub ⟨rfl, rfl, rfl, rfl, rfl, rfl, (by rw [hc179]; rfl), trivial⟩, rfl⟩
      simp only [List.take, List.drop]
      rintro _ _ rfl
      refine V_to (fun _ _ => rfl) ?_
      refine C_cond rfl (fun hc182 => ?_) (fun hc182 => ?_)
      ·rw [if_pos hc182] at h145
       refine C_seq ?_
       refine C_region ?_
       refine V_y (Y_assign rfl) rfl rfl rfl ?_
       refine V_to (fun _ _ => rfl) ?_
       obtain rfl := Option.some.inj h145
       obtain rfl := (h146 : Lp.rt _ = _)
       rw [Lp.andThen_rt] at hm
       obtain rfl := Option.some.inj hm
       refine C_ret ?_
       try simp only [↓inBlock_ret, ↓then_ret]
       exact retQ rfl (Res.one Tryz.results66 rfl) ⟨rfl, hK.kp⟩
      ·rw [if_neg (nt hc182)] at h145
       refine C_skip_to (fun _ _ => rfl) ?_
       refine C_seq ?_
       refine C_region_q (Dw := False) Tryz_mixed (by kernel_rfl) ?_
       refine VQ_y (fun w' hw' => Y_move rfl) rfl rfl rfl ?_
       refine VQ_y (fun w' hw' => Y_gtr rfl rfl) rfl rfl rfl ?_
       refine VQ_y (fun w' hw' => Y_move rfl) rfl rfl rfl ?_
       obtain ⟨s184, hs184, h145⟩ := Option.bind_eq_some_iff.1 h145
       refine VQ_cut 11 (fun _ : Unit => [(5, .pointer (some ⟨b12, 0, none⟩)), (65, v128), (66, .int .i64 (x3.targets.length : Int)), (67, .int .i64 (k134 : Int)), (113, .bool s184)]) (fun _ => True) ?_ ?_
       ·simp only [List.take, List.drop]
        rcases Bool.eq_false_or_eq_true (decide ((0 : Int) < (k134 : Int))) with hc183 | hc183
        ·rw [if_pos hc183] at hs184
         refine VQ_ge rfl rfl rfl hc183 ?_
         have h185 := El_level_Target_0 h163
         refine VQ_y (fun w' hw' => Y_fieldAddr Tryz.underlying49 rfl Tryz.sizeOf3 (by decide) rfl) rfl rfl rfl ?_
         refine VQ_ge rfl rfl rfl hc183 ?_
         refine VQ_y (fun w' hw' => Y_load (El.int (El.kp (Dw := False) h185 hw')) Tryz.isAgg3 rfl) rfl rfl rfl ?_
         refine VQ_ge rfl rfl rfl hc183 ?_
         have h186 := El_level_Level_2 h23
         refine VQ_y (fun w' hw' => Y_fieldAddr Tryz.underlying147 rfl Tryz.sizeOf145 (by decide) rfl) rfl rfl rfl ?_
         refine VQ_ge rfl rfl rfl hc183 ?_
         obtain ⟨v187, h188, h189⟩ := El.list h186
         refine VQ_y (fun w' hw' => Y_load ((World.cell?_of_block (hw'.block _ (World.block_lt_of_cell? _ _ h188))).trans h188) Tryz.isAgg145 rfl) rfl rfl rfl ?_
         refine VQ_ge rfl rfl rfl hc183 ?_
         refine VQ_y (fun w' hw' => Y_move rfl) rfl rfl rfl ?_
         refine VQ_ge rfl rfl rfl hc183 ?_
         refine VQ_y (fun w' hw' => Y_subI rfl rfl) rfl rfl rfl ?_
         refine VQ_ge rfl rfl rfl hc183 ?_
         obtain ⟨x190, hx190, hs184⟩ := Option.bind_eq_some_iff.1 hs184
         refine VQ_indexAddr h189 hx190 Tryz.underlying145 Tryz.sizeOf49 rfl rfl rfl ?_
         intro b191 o192 h193
         refine VQ_ge rfl rfl rfl hc183 ?_
         have h194 := El_level_Target_0 h193
         refine VQ_y (fun w' hw' => Y_fieldAddr Tryz.underlying49 rfl Tryz.sizeOf3 (by decide) rfl) rfl rfl rfl ?_
         refine VQ_ge rfl rfl rfl hc183 ?_
         refine VQ_y (fun w' hw' => Y_load (El.int (El.kp (Dw := False) h194 hw')) Tryz.isAgg3 rfl) rfl rfl rfl ?_
         refine VQ_ge rfl rfl rfl hc183 ?_
         refine VQ_y (fun w' hw' => Y_leq rfl rfl) rfl rfl rfl ?_
         refine VQ_y (fun _ _ => Y_pick_te rfl hc183 rfl) rfl rfl rfl ?_
         obtain rfl := Option.some.inj hs184
         exact VQ_end fun a ha => ⟨(), ha.sub ⟨rfl, rfl, rfl, rfl, rfl, trivial⟩, trivial⟩
        ·rw [if_neg (nt hc183)] at hs184
         refine VQ_gn rfl rfl rfl hc183 rfl rfl rfl ?_
         refine VQ_gn rfl rfl rfl hc183 rfl rfl rfl ?_
         refine VQ_gn rfl rfl rfl hc183 rfl rfl rfl ?_
         refine VQ_gn rfl rfl rfl hc183 rfl rfl rfl ?_
         refine VQ_gn rfl rfl rfl hc183 rfl rfl rfl ?_
         refine VQ_gn rfl rfl rfl hc183 rfl rfl rfl ?_
         refine VQ_gn rfl rfl rfl hc183 rfl rfl rfl ?_
         refine VQ_gn rfl rfl rfl hc183 rfl rfl rfl ?_
         refine VQ_gn rfl rfl rfl hc183 rfl rfl rfl ?_
         refine VQ_gn rfl rfl rfl hc183 rfl rfl rfl ?_
         refine VQ_y (fun _ _ => Y_pick_fe rfl hc183 rfl) rfl rfl rfl ?_
         obtain rfl := Option.some.inj hs184
         exact VQ_end fun a ha => ⟨(), ha.sub ⟨rfl, rfl, rfl, rfl, rfl, trivial⟩, trivial⟩
       simp only [List.take, List.drop]
       rintro _ _
       refine VQ_to (fun _ _ => rfl) (fun w195 hk196 => ?_)
       have ht197 := Kp.tr (Dw := False) hk196 hA hB
       replace hH := Hp.kp (Dw := False) hH hk196
       replace hK := Tr.trans (Dw := False) hK ht197
       replace hr133 := Tr.trans (Dw := False) hr133 ht197
       refine C_cond rfl (fun hc198 => ?_) (fun hc198 => ?_)
       ·rw [if_pos hc198] at h145
        refine C_seq ?_
        refine C_region ?_
        refine V_y (Y_assign rfl) rfl rfl rfl ?_
        refine V_to (fun _ _ => rfl) ?_
        obtain rfl := Option.some.inj h145
        obtain rfl := (h146 : Lp.rt _ = _)
        rw [Lp.andThen_rt] at hm
        obtain rfl := Option.some.inj hm
        refine C_ret ?_
        try simp only [↓inBlock_ret, ↓then_ret]
        exact retQ rfl (Res.one Tryz.results66 rfl) ⟨rfl, hK.kp⟩
       ·rw [if_neg (nt hc198)] at h145
        refine C_skip_to (fun _ _ => rfl) ?_
        refine C_region ?_
        refine V_y (Y_addI rfl rfl) rfl rfl rfl ?_
        refine V_y (Y_move rfl) rfl rfl rfl ?_
        obtain rfl := Option.some.inj h145
        refine V_end (fun a ha199 => ?_)
        exact ⟨(), hlt148, h146, ⟨A142, ha199.sub ⟨rfl, rfl, rfl, (congrArg (fun z => some (Value.int .i64 z)) (w64_succ hlt148 hn151)), trivial⟩, ⟨hH, hr133⟩⟩⟩
     ·refine C_exit (fun a ha200 => ?_)
      exact ⟨((), A142), ha200.sub trivial, ⟨(h149 (eq_of_dec hle147 hc152)).symm, hH, hr133⟩⟩
    rintro ⟨s132, A138⟩ w135 ⟨rfl, hH139, hk136⟩ a ha137
    rw [Lp.andThen_fin] at hm
    replace hK := Tr.trans (Dw := False) hK hk136
    replace hA := hk136.new
    replace hH : Hp w.heap.size A138 w135 ([]) := hH139
    refine C_at (n := ⟨115, [], none⟩) (fun _ _ => rfl) ?_ ha137
    refine C_seq ?_
    refine C_region ?_
    refine V_y (Y_assign rfl) rfl rfl rfl ?_
    refine V_to (fun _ _ => rfl) ?_
    obtain rfl := Option.some.inj hm
    refine C_ret ?_
    try simp only [↓inBlock_ret, ↓then_ret]
    exact retQ rfl (Res.one Tryz.results66 rfl) ⟨rfl, hK.kp⟩
set_option maxRecDepth 4000 in
set_option maxHeartbeats 4000000 in
theorem portref2_PolicyFault_c (w : World) {A : Nat → Prop} (hA : ∀ b, w.heap.size ≤ b → A b) (p : level_Policy) (v_p0 : Value) (h_p0 : Sl A w v_p0 p.pauses) (v_p1 : Value) (h_p1 : Sl A w v_p1 p.levels) {r : Int} (hm : portref2_PolicyFault p = some r) : Ret Tryz.prog 11 #[.agg #[v_p0, v_p1]] w fun v w' => v = .int .i64 r ∧ Kp False w w' := by
 unfold portref2_PolicyFault at hm
 refine enter Tryz.func11 rfl Tryz.ntmps11 rfl ?_
 have hA0 := hA
 have hB := Nat.le_refl w.heap.size
 have hK : Tr False w.heap.size A w A w := Tr.refl (Dw := False) hA
 have hH : Hp w.heap.size A w [] := Hp.nil
 refine C_seq ?_
 refine C_region ?_
 refine V_box rfl rfl ?_
 intro b5 w6 h7
 have hk9 := h7.kp (Dw := False)
 have h8 : El (α := level_Policy) A w6 b5 0 p := h7.el hA ⟨[v_p0], _, rfl, ⟨_, rfl, h_p0⟩, ⟨_, rfl, h_p1⟩⟩
 have ht10 := Kp.tr (Dw := False) hk9 hA hB
 replace hH := Hp.kp (Dw := False) hH hk9
 replace hK := Tr.trans (Dw := False) hK ht10
 replace hB := Nat.le_trans hB ht10.ex.size
 replace hA := ht10.new
 refine V_y (Y_assign rfl) rfl rfl rfl ?_
 refine V_to (fun _ _ => rfl) ?_
 refine C_seq ?_
 refine C_seq ?_
 refine C_region ?_
 have h11 := El_level_Policy_0 h8
 refine V_y (Y_fieldAddr Tryz.underlying25 rfl Tryz.sizeOf22 (by decide) rfl) rfl rfl rfl ?_
 obtain ⟨v12, h13, h14⟩ := El.list h11
 refine V_y (Y_load h13 Tryz.isAgg22 rfl) rfl rfl rfl ?_
 have hn15 := Sl.le h14
 refine V_y (Y_lenSl h14 rfl Tryz.underlying22 rfl) rfl rfl rfl ?_
 refine V_y (Y_move rfl) rfl rfl rfl ?_
 refine V_to (fun _ _ => rfl) ?_
 have hn32 := Sl.le h14
 obtain ⟨o16, ho16, hm⟩ := Option.bind_eq_some_iff.1 hm
 refine C_cutG (ι := Unit) (fun (s17 : Unit) => [(1, .pointer (some ⟨b5, 0, none⟩))]) (fun (s17 : Unit) => fun w' => o16 = .fin s17 ∧ w6 = w') ?_ ?_
 ·refine C_block ?_
  refine C_range ho16 (fun k19 _ a w' => ∃ i : Unit, Has ⟨52, [], none⟩ a ([(1, .pointer (some ⟨b5, 0, none⟩)), (8, v12), (9, .int .i64 (p.pauses.length : Int)), (10, .int .i64 (k19 : Int))]) ∧ w6 = w') (fun a ha => ⟨(), ha.sub ⟨rfl, rfl, rfl, rfl, trivial⟩, rfl⟩) ?_
  rintro K k19 _ a _ ⟨_, ha54, rfl⟩ hle28 K31 h30
  refine C_of ?_ ha54
  refine C_seq (C_region (V_y (Y_lss rfl rfl) rfl rfl rfl (V_to (fun _ _ => rfl) ?_)))
  refine C_seq ?_
  refine C_cond rfl (fun hc33 => ?_) (fun hc33 => ?_)
  ·have hlt29 := lt_of_dec hc33
   obtain ⟨x25, h26, h27⟩ := K31 hlt29
   refine C_skip_to (fun _ _ => rfl) ?_
   refine C_seq ?_
   refine C_block ?_
   refine C_seq ?_
   refine C_region ?_
   refine V_y (Y_move rfl) rfl rfl rfl ?_
   obtain ⟨x34, hx34, h26⟩ := Option.bind_eq_some_iff.1 h26
   refine V_indexAddr h14 hx34 Tryz.underlying22 Tryz.sizeOf3 rfl rfl rfl ?_
   intro b35 o36 h37
   refine V_y (Y_load (El.int h37) Tryz.isAgg3 rfl) rfl rfl rfl ?_
   refine V_y (Y_assign rfl) rfl rfl rfl ?_
   refine V_y (Y_assign rfl) rfl rfl rfl ?_
   refine V_to (fun _ _ => rfl) ?_
   refine C_seq ?_
   refine C_seq ?_
   refine C_region ?_
   refine V_y (Y_move rfl) rfl rfl rfl ?_
   refine V_y (Y_lss rfl rfl) rfl rfl rfl ?_
   refine V_y (Y_move rfl) rfl rfl rfl ?_
   refine V_cut 3 (fun _ : Unit => [(1, .pointer (some ⟨b5, 0, none⟩)), (3, .int .i64 (k19 : Int)), (4, .int .i64 x34), (8, v12), (9, .int .i64 (p.pauses.length : Int)), (10, .int .i64 (k19 : Int)), (20, .bool ((decide (x34 < 1)) || (decide ((4 : Int) < x34))))]) (fun _ w' => w6 = w') ?_ ?_
   ·simp only [List.take, List.drop]
    rcases Bool.eq_false_or_eq_true (decide (x34 < 1)) with hc38 | hc38
    ·refine V_gn rfl rfl rfl hc38 rfl rfl rfl ?_
     refine V_gn rfl rfl rfl hc38 rfl rfl rfl ?_
     refine V_y (Y_pick_te rfl hc38 rfl) rfl rfl rfl ?_
     exact V_end fun a ha => ⟨(), ha.sub ⟨rfl, rfl, rfl, rfl, rfl, rfl, (by rw [hc38]; rfl), trivial⟩, rfl⟩
    ·refine V_ge rfl rfl rfl hc38 ?_
     refine V_y (Y_move rfl) rfl rfl rfl ?_
     refine V_ge rfl rfl rfl hc38 ?_
     refine V_y (Y_gtr rfl rfl) rfl rfl rfl ?_
     refine V_y (Y_pick_fe rfl hc38 rfl) rfl rfl rfl ?_
     exact V_end fun a ha => ⟨(), ha.sub ⟨rfl, rfl, rfl, rfl, rfl, rfl, (by rw [hc38]; rfl), trivial⟩, rfl⟩
   simp only [List.take, List.drop]
   rintro _ _ rfl
   refine V_to (fun _ _ => rfl) ?_
   refine C_cond rfl (fun hc40 => ?_) (fun hc40 => ?_)
   ·rw [if_pos hc40] at h26
    refine C_seq ?_
    refine C_region ?_
    refine V_y (Y_assign rfl) rfl rfl rfl ?_
    refine V_to (fun _ _ => rfl) ?_
    obtain rfl := Option.some.inj h26
    obtain rfl := (h27 : Lp.rt _ = _)
    rw [Lp.andThen_rt] at hm
    obtain rfl := Option.some.inj hm
    refine C_ret ?_
    try simp only [↓inBlock_ret, ↓then_ret]
    exact retQ rfl (Res.one Tryz.results11 rfl) ⟨rfl, hK.kp⟩
   ·rw [if_neg (nt hc40)] at h26
    refine C_skip_to (fun _ _ => rfl) ?_
    refine C_seq ?_
    refine C_region ?_
    refine V_y (Y_move rfl) rfl rfl rfl ?_
    refine V_y (Y_gtr rfl rfl) rfl rfl rfl ?_
    refine V_y (Y_move rfl) rfl rfl rfl ?_
    obtain ⟨s42, hs42, h26⟩ := Option.bind_eq_some_iff.1 h26
    refine V_cut 9 (fun _ : Unit => [(1, .pointer (some ⟨b5, 0, none⟩)), (8, v12), (9, .int .i64 (p.pauses.length : Int)), (10, .int .i64 (k19 : Int)), (32, .bool s42)]) (fun _ w' => w6 = w') ?_ ?_
    ·simp only [List.take, List.drop]
     rcases Bool.eq_false_or_eq_true (decide ((0 : Int) < (k19 : Int))) with hc41 | hc41
     ·rw [if_pos hc41] at hs42
      refine V_ge rfl rfl rfl hc41 ?_
      refine V_y (Y_move rfl) rfl rfl rfl ?_
      refine V_ge rfl rfl rfl hc41 ?_
      have h43 := El_level_Policy_0 h8
      refine V_y (Y_fieldAddr Tryz.underlying25 rfl Tryz.sizeOf22 (by decide) rfl) rfl rfl rfl ?_
      refine V_ge rfl rfl rfl hc41 ?_
      obtain ⟨v44, h45, h46⟩ := El.list h43
      refine V_y (Y_load h45 Tryz.isAgg22 rfl) rfl rfl rfl ?_
      refine V_ge rfl rfl rfl hc41 ?_
      refine V_y (Y_move rfl) rfl rfl rfl ?_
      refine V_ge rfl rfl rfl hc41 ?_
      refine V_y (Y_subI rfl rfl) rfl rfl rfl ?_
      refine V_ge rfl rfl rfl hc41 ?_
      obtain ⟨x47, hx47, hs42⟩ := Option.bind_eq_some_iff.1 hs42
      refine V_indexAddr h46 hx47 Tryz.underlying22 Tryz.sizeOf3 rfl rfl rfl ?_
      intro b48 o49 h50
      refine V_ge rfl rfl rfl hc41 ?_
      refine V_y (Y_load (El.int h50) Tryz.isAgg3 rfl) rfl rfl rfl ?_
      refine V_ge rfl rfl rfl hc41 ?_
      refine V_y (Y_leq rfl rfl) rfl rfl rfl ?_
      refine V_y (Y_pick_te rfl hc41 rfl) rfl rfl rfl ?_
      obtain rfl := Option.some.inj hs42
      exact V_end fun a ha => ⟨(), ha.sub ⟨rfl, rfl, rfl, rfl, rfl, trivial⟩, rfl⟩
     ·rw [if_neg (nt hc41)] at hs42
      refine V_gn rfl rfl rfl hc41 rfl rfl rfl ?_
      refine V_gn rfl rfl rfl hc41 rfl rfl rfl ?_
      refine V_gn rfl rfl rfl hc41 rfl rfl rfl ?_
      refine V_gn rfl rfl rfl hc41 rfl rfl rfl ?_
      refine V_gn rfl rfl rfl hc41 rfl rfl rfl ?_
      refine V_gn rfl rfl rfl hc41 rfl rfl rfl ?_
      refine V_gn rfl rfl rfl hc41 rfl rfl rfl ?_
      refine V_gn rfl rfl rfl hc41 rfl rfl rfl ?_
      refine V_y (Y_pick_fe rfl hc41 rfl) rfl rfl rfl ?_
      obtain rfl := Option.some.inj hs42
      exact V_end fun a ha => ⟨(), ha.sub ⟨rfl, rfl, rfl, rfl, rfl, trivial⟩, rfl⟩
    simp only [List.take, List.drop]
    rintro _ _ rfl
    refine V_to (fun _ _ => rfl) ?_
    refine C_cond rfl (fun hc51 => ?_) (fun hc51 => ?_)
    ·rw [if_pos hc51] at h26
     refine C_seq ?_
     refine C_region ?_
     refine V_y (Y_assign rfl) rfl rfl rfl ?_
     refine V_to (fun _ _ => rfl) ?_
     obtain rfl := Option.some.inj h26
     obtain rfl := (h27 : Lp.rt _ = _)
     rw [Lp.andThen_rt] at hm
     obtain rfl := Option.some.inj hm
     refine C_ret ?_
     try simp only [↓inBlock_ret, ↓then_ret]
     exact retQ rfl (Res.one Tryz.results11 rfl) ⟨rfl, hK.kp⟩
    ·rw [if_neg (nt hc51)] at h26
     refine C_skip_to (fun _ _ => rfl) ?_
     refine C_region ?_
     refine V_y (Y_addI rfl rfl) rfl rfl rfl ?_
     refine V_y (Y_move rfl) rfl rfl rfl ?_
     obtain rfl := Option.some.inj h26
     refine V_end (fun a ha52 => ?_)
     exact ⟨(), hlt29, h27, ⟨(), ha52.sub ⟨rfl, rfl, rfl, (congrArg (fun z => some (Value.int .i64 z)) (w64_succ hlt29 hn32)), trivial⟩, rfl⟩⟩
  ·refine C_exit (fun a ha53 => ?_)
   exact ⟨(), ha53.sub ⟨rfl, trivial⟩, ⟨(h30 (eq_of_dec hle28 hc33)).symm, rfl⟩⟩
 rintro s17 _ ⟨rfl, rfl⟩ a ha22
 rw [Lp.andThen_fin] at hm
 refine C_at (n := ⟨52, [], none⟩) (fun _ _ => rfl) ?_ ha22
 refine C_seq ?_
 refine C_seq ?_
 refine C_region ?_
 have h55 := El_level_Policy_1 h8
 refine V_y (Y_fieldAddr Tryz.underlying25 rfl Tryz.sizeOf23 (by decide) rfl) rfl rfl rfl ?_
 obtain ⟨v56, h57, h58⟩ := El.list h55
 refine V_y (Y_load h57 Tryz.isAgg23 rfl) rfl rfl rfl ?_
 have hn59 := Sl.le h58
 refine V_y (Y_lenSl h58 rfl Tryz.underlying23 rfl) rfl rfl rfl ?_
 refine V_y (Y_gtr rfl rfl) rfl rfl rfl ?_
 refine V_to (fun _ _ => rfl) ?_
 refine C_cond rfl (fun hc60 => ?_) (fun hc60 => ?_)
 ·rw [if_pos hc60] at hm
  refine C_seq ?_
  refine C_region ?_
  refine V_y (Y_assign rfl) rfl rfl rfl ?_
  refine V_to (fun _ _ => rfl) ?_
  obtain rfl := Option.some.inj hm
  refine C_ret ?_
  try simp only [↓inBlock_ret, ↓then_ret]
  exact retQ rfl (Res.one Tryz.results11 rfl) ⟨rfl, hK.kp⟩
 ·rw [if_neg (nt hc60)] at hm
  refine C_skip_to (fun _ _ => rfl) ?_
  refine C_seq ?_
  refine C_seq ?_
  refine C_region ?_
  have h61 := El_level_Policy_1 h8
  refine V_y (Y_fieldAddr Tryz.underlying25 rfl Tryz.sizeOf23 (by decide) rfl) rfl rfl rfl ?_
  obtain ⟨v62, h63, h64⟩ := El.list h61
  refine V_y (Y_load h63 Tryz.isAgg23 rfl) rfl rfl rfl ?_
  have hn65 := Sl.le h64
  refine V_y (Y_lenSl h64 rfl Tryz.underlying23 rfl) rfl rfl rfl ?_
  refine V_y (Y_move rfl) rfl rfl rfl ?_
  refine V_to (fun _ _ => rfl) ?_
  obtain ⟨o66, ho66, hm⟩ := Option.bind_eq_some_iff.1 hm
  refine C_cutG (ι := (Unit × (Nat → Prop))) (fun ⟨s67, A73⟩ => []) (fun ⟨s67, A73⟩ => fun w' => o66 = .fin s67 ∧ Hp w.heap.size A73 w' ([]) ∧ Tr False w.heap.size A w6 A73 w') ?_ ?_
  ·refine C_block ?_
   refine C_range ho66 (fun k69 _ a w' => ∃ i : (Nat → Prop), Has ⟨52, [], none⟩ a ([(1, .pointer (some ⟨b5, 0, none⟩)), (40, .int .i64 (p.levels.length : Int)), (41, .int .i64 (k69 : Int))]) ∧ Hp w.heap.size i w' ([]) ∧ Tr False w.heap.size A w6 i w') (fun a ha => ⟨A, ha.sub ⟨rfl, rfl, rfl, trivial⟩, ⟨hH, Tr.refl (Dw := False) hA⟩⟩) ?_
   rintro K k69 _ a w76 ⟨A77, ha99, hH78, hr68⟩ hle82 K85 h84
   refine C_of ?_ ha99
   replace h8 := El.tr (Dw := False) h8 hr68
   replace hK := Tr.trans (Dw := False) hK hr68
   replace hB := Nat.le_trans hB hr68.ex.size
   replace hA := hr68.new
   replace hH : Hp w.heap.size A77 w76 ([]) := hH78
   refine C_seq (C_region (V_y (Y_lss rfl rfl) rfl rfl rfl (V_to (fun _ _ => rfl) ?_)))
   refine C_seq ?_
   refine C_cond rfl (fun hc87 => ?_) (fun hc87 => ?_)
   ·have hlt83 := lt_of_dec hc87
    obtain ⟨x79, h80, h81⟩ := K85 hlt83
    refine C_skip_to (fun _ _ => rfl) ?_
    refine C_seq ?_
    refine C_block ?_
    refine C_seq ?_
    refine C_region ?_
    refine V_y (Y_move rfl) rfl rfl rfl ?_
    refine V_y (Y_assign rfl) rfl rfl rfl ?_
    refine V_to (fun _ _ => rfl) ?_
    refine C_seq ?_
    refine C_region ?_
    have h88 := El_level_Policy_1 h8
    refine V_y (Y_fieldAddr Tryz.underlying25 rfl Tryz.sizeOf23 (by decide) rfl) rfl rfl rfl ?_
    obtain ⟨v89, h90, h91⟩ := El.list h88
    refine V_y (Y_load h90 Tryz.isAgg23 rfl) rfl rfl rfl ?_
    refine V_y (Y_move rfl) rfl rfl rfl ?_
    obtain ⟨x92, hx92, h80⟩ := Option.bind_eq_some_iff.1 h80
    refine V_call Tryz.call66 rfl rfl rfl rfl (portref2_levelFault_c w76 hA p.levels v89 h91 (k69 : Int) hx92) ?_
    rintro _ w93 ⟨rfl, hk94⟩
    have ht95 := Kp.tr (Dw := False) hk94 hA hB
    replace hH := Hp.kp (Dw := False) hH hk94
    replace hK := Tr.trans (Dw := False) hK ht95
    replace hr68 := Tr.trans (Dw := False) hr68 ht95
    refine V_y (Y_assign rfl) rfl rfl rfl ?_
    refine V_to (fun _ _ => rfl) ?_
    refine C_seq ?_
    refine C_region ?_
    refine V_y (Y_move rfl) rfl rfl rfl ?_
    refine V_y (Y_neq rfl rfl) rfl rfl rfl ?_
    refine V_to (fun _ _ => rfl) ?_
    refine C_cond rfl (fun hc96 => ?_) (fun hc96 => ?_)
    ·rw [if_pos hc96] at h80
     refine C_seq ?_
     refine C_region ?_
     refine V_y (Y_move rfl) rfl rfl rfl ?_
     refine V_y (Y_assign rfl) rfl rfl rfl ?_
     refine V_to (fun _ _ => rfl) ?_
     obtain rfl := Option.some.inj h80
     obtain rfl := (h81 : Lp.rt _ = _)
     rw [Lp.andThen_rt] at hm
     obtain rfl := Option.some.inj hm
     refine C_ret ?_
     try simp only [↓inBlock_ret, ↓then_ret]
     exact retQ rfl (Res.one Tryz.results11 rfl) ⟨rfl, hK.kp⟩
    ·rw [if_neg (nt hc96)] at h80
     refine C_skip_to (fun _ _ => rfl) ?_
     refine C_region ?_
     refine V_y (Y_addI rfl rfl) rfl rfl rfl ?_
     refine V_y (Y_move rfl) rfl rfl rfl ?_
     obtain rfl := Option.some.inj h80
     refine V_end (fun a ha97 => ?_)
     exact ⟨(), hlt83, h81, ⟨A77, ha97.sub ⟨rfl, rfl, (congrArg (fun z => some (Value.int .i64 z)) (w64_succ hlt83 hn65)), trivial⟩, ⟨hH, hr68⟩⟩⟩
   ·refine C_exit (fun a ha98 => ?_)
    exact ⟨((), A77), ha98.sub trivial, ⟨(h84 (eq_of_dec hle82 hc87)).symm, hH, hr68⟩⟩
  rintro ⟨s67, A73⟩ w70 ⟨rfl, hH74, hk71⟩ a ha72
  rw [Lp.andThen_fin] at hm
  replace hK := Tr.trans (Dw := False) hK hk71
  replace hA := hk71.new
  replace hH : Hp w.heap.size A73 w70 ([]) := hH74
  refine C_at (n := ⟨52, [], none⟩) (fun _ _ => rfl) ?_ ha72
  refine C_seq ?_
  refine C_region ?_
  refine V_y (Y_assign rfl) rfl rfl rfl ?_
  refine V_to (fun _ _ => rfl) ?_
  obtain rfl := Option.some.inj hm
  refine C_ret ?_
  try simp only [↓inBlock_ret, ↓then_ret]
  exact retQ rfl (Res.one Tryz.results11 rfl) ⟨rfl, hK.kp⟩
set_option maxRecDepth 4000 in
set_option maxHeartbeats 4000000 in
theorem portref2_HistoryFault_c (w : World) {A : Nat → Prop} (hA : ∀ b, w.heap.size ≤ b → A b) (l : (List level_Point)) (v_l : Value) (h_l : Sl A w v_l l) {r : Int} (hm : portref2_HistoryFault l = some r) : Ret Tryz.prog 8 #[v_l] w fun v w' => v = .int .i64 r ∧ Kp Dw w w' := by
 unfold portref2_HistoryFault at hm
 refine enter Tryz.func8 rfl Tryz.ntmps8 rfl ?_
 have hA0 := hA
 have hB := Nat.le_refl w.heap.size
 have hK : Tr Dw w.heap.size A w A w := Tr.refl (Dw := Dw) hA
 have hH : Hp w.heap.size A w [] := Hp.nil
 refine C_seq ?_
 refine C_region ?_
 refine V_y (Y_assign rfl) rfl rfl rfl ?_
 refine V_to (fun _ _ => rfl) ?_
 refine C_seq ?_
 refine C_seq ?_
 refine C_region ?_
 refine V_y (Y_move rfl) rfl rfl rfl ?_
 refine V_y (Y_lenSl h_l rfl Tryz.underlying26 rfl) rfl rfl rfl ?_
 refine V_y (Y_gtr rfl rfl) rfl rfl rfl ?_
 refine V_to (fun _ _ => rfl) ?_
 refine C_cond rfl (fun hc3 => ?_) (fun hc3 => ?_)
 ·rw [if_pos hc3] at hm
  refine C_seq ?_
  refine C_region ?_
  refine V_y (Y_assign rfl) rfl rfl rfl ?_
  refine V_to (fun _ _ => rfl) ?_
  obtain rfl := Option.some.inj hm
  refine C_ret ?_
  try simp only [↓inBlock_ret, ↓then_ret]
  exact retQ rfl (Res.one Tryz.results8 rfl) ⟨rfl, hK.kp⟩
 ·rw [if_neg (nt hc3)] at hm
  refine C_skip_to (fun _ _ => rfl) ?_
  refine C_seq ?_
  refine C_seq ?_
  refine C_region ?_
  refine V_y (Y_move rfl) rfl rfl rfl ?_
  refine V_y (Y_lenSl h_l rfl Tryz.underlying26 rfl) rfl rfl rfl ?_
  refine V_y (Y_move rfl) rfl rfl rfl ?_
  refine V_to (fun _ _ => rfl) ?_
  have hn25 := Sl.le h_l
  obtain ⟨o4, ho4, hm⟩ := Option.bind_eq_some_iff.1 hm
  refine C_cutG (ι := (Unit × (Nat → Prop))) (fun ⟨s5, A12⟩ => []) (fun ⟨s5, A12⟩ => fun w' => o4 = .fin s5 ∧ Hp w.heap.size A12 w' ([]) ∧ Tr Dw w.heap.size A w A12 w') ?_ ?_
  ·refine C_block ?_
   refine C_range ho4 (fun k7 _ a w' => ∃ i : (Nat → Prop), Has ⟨68, [], none⟩ a ([(0, v_l), (8, v_l), (9, .int .i64 (l.length : Int)), (10, .int .i64 (k7 : Int))]) ∧ Hp w.heap.size i w' ([]) ∧ Tr Dw w.heap.size A w i w') (fun a ha => ⟨A, ha.sub ⟨rfl, rfl, rfl, rfl, trivial⟩, ⟨hH, Tr.refl (Dw := Dw) hA⟩⟩) ?_
   rintro K k7 _ a w15 ⟨A16, ha82, hH17, hr6⟩ hle21 K24 h23
   refine C_of ?_ ha82
   replace h_l := Sl.tr (Dw := Dw) h_l hr6
   replace hK := Tr.trans (Dw := Dw) hK hr6
   replace hB := Nat.le_trans hB hr6.ex.size
   replace hA := hr6.new
   replace hH : Hp w.heap.size A16 w15 ([]) := hH17
   refine C_seq (C_region (V_y (Y_lss rfl rfl) rfl rfl rfl (V_to (fun _ _ => rfl) ?_)))
   refine C_seq ?_
   refine C_cond rfl (fun hc26 => ?_) (fun hc26 => ?_)
   ·have hlt22 := lt_of_dec hc26
    obtain ⟨x18, h19, h20⟩ := K24 hlt22
    refine C_skip_to (fun _ _ => rfl) ?_
    refine C_seq ?_
    refine C_block ?_
    refine C_seq ?_
    refine C_region ?_
    refine V_y (Y_move rfl) rfl rfl rfl ?_
    obtain ⟨x27, hx27, h19⟩ := Option.bind_eq_some_iff.1 h19
    refine V_indexAddr h_l hx27 Tryz.underlying26 Tryz.sizeOf41 rfl rfl rfl ?_
    intro b28 o29 h30
    obtain ⟨v31, h33, h32⟩ := El_level_Point h30
    refine V_y (Y_loadA h33 Tryz.isAgg41 Tryz.sizeOf41 rfl) rfl rfl rfl ?_
    refine V_alloc Tryz.zeroValue41 rfl ?_
    intro b34 w35 h36
    refine V_y (Y_assign rfl) rfl rfl rfl ?_
    have h41 : (v31).oneCell' = true := by obtain ⟨_, _, e, _⟩ := Sl.form h32; rw [e]; rfl
    refine V_storeNew h36 Tryz.sizeOf41 rfl rfl rfl rfl (by exact (List.forall_mem_cons.2 ⟨rfl, (List.forall_mem_cons.2 ⟨rfl, (List.forall_mem_cons.2 ⟨rfl, (List.forall_mem_cons.2 ⟨rfl, (List.forall_mem_cons.2 ⟨rfl, (List.forall_mem_cons.2 ⟨h41, (fun _ h => nomatch h)⟩)⟩)⟩)⟩)⟩)⟩)) ?_
    intro w37 h38
    have hk43 := h38.kp (Dw := Dw)
    have h42 : El (α := level_Point) A16 w37 b34 0 x27 := h38.el hA ⟨[.int .i64 x27.at_], _, rfl, rfl, ⟨[.int .i64 x27.kind], _, rfl, rfl, ⟨[.int .i64 x27.who], _, rfl, rfl, ⟨[.int .i64 x27.status], _, rfl, rfl, ⟨[.int .i64 x27.priority], _, rfl, rfl, ⟨_, rfl, h32⟩⟩⟩⟩⟩⟩
    have ht44 := Kp.tr (Dw := Dw) hk43 hA hB
    replace hH := Hp.kp (Dw := Dw) hH hk43
    replace h_l := Sl.tr (Dw := Dw) h_l ht44
    replace hK := Tr.trans (Dw := Dw) hK ht44
    replace hr6 := Tr.trans (Dw := Dw) hr6 ht44
    replace hB := Nat.le_trans hB ht44.ex.size
    replace hA := ht44.new
    refine V_to (fun _ _ => rfl) ?_
    refine C_block ?_
    refine C_seq ?_
    refine C_region ?_
    have h45 := El_level_Point_0 h42
    refine V_y (Y_fieldAddr Tryz.underlying41 rfl Tryz.sizeOf3 (by decide) rfl) rfl rfl rfl ?_
    refine V_y (Y_load (El.int h45) Tryz.isAgg3 rfl) rfl rfl rfl ?_
    refine V_call Tryz.call53 rfl rfl rfl rfl (portref2_IsMoment_c w37 x27.at_) ?_
    rintro _ _ ⟨rfl, rfl⟩
    refine V_y (Y_not rfl) rfl rfl rfl ?_
    refine V_y (Y_assign rfl) rfl rfl rfl ?_
    refine V_to (fun _ _ => rfl) ?_
    refine C_cond rfl (fun hc46 => ?_) (fun hc46 => ?_)
    ·rw [if_pos hc46] at h19
     refine C_seq ?_
     refine C_region ?_
     refine V_y (Y_assign rfl) rfl rfl rfl ?_
     refine V_to (fun _ _ => rfl) ?_
     obtain rfl := Option.some.inj h19
     obtain rfl := (h20 : Lp.rt _ = _)
     rw [Lp.andThen_rt] at hm
     obtain rfl := Option.some.inj hm
     refine C_ret ?_
     try simp only [↓inBlock_ret, ↓then_ret]
     exact retQ rfl (Res.one Tryz.results8 rfl) ⟨rfl, hK.kp⟩
    ·rw [if_neg (nt hc46)] at h19
     refine C_seq ?_
     refine C_region_q (Dw := Dw) Tryz_mixed (by kernel_rfl) ?_
     refine VQ_y (fun w' hw' => Y_move rfl) rfl rfl rfl ?_
     refine VQ_y (fun w' hw' => Y_gtr rfl rfl) rfl rfl rfl ?_
     refine VQ_y (fun w' hw' => Y_move rfl) rfl rfl rfl ?_
     obtain ⟨s48, hs48, h19⟩ := Option.bind_eq_some_iff.1 h19
     refine VQ_cut 10 (fun _ : Unit => [(0, v_l), (4, .pointer (some ⟨b34, 0, none⟩)), (8, v_l), (9, .int .i64 (l.length : Int)), (10, .int .i64 (k7 : Int)), (33, .bool s48)]) (fun _ => True) ?_ ?_
     ·simp only [List.take, List.drop]
      rcases Bool.eq_false_or_eq_true (decide ((0 : Int) < (k7 : Int))) with hc47 | hc47
      ·rw [if_pos hc47] at hs48
       refine VQ_ge rfl rfl rfl hc47 ?_
       have h49 := El_level_Point_0 h42
       refine VQ_y (fun w' hw' => Y_fieldAddr Tryz.underlying41 rfl Tryz.sizeOf3 (by decide) rfl) rfl rfl rfl ?_
       refine VQ_ge rfl rfl rfl hc47 ?_
       refine VQ_y (fun w' hw' => Y_load (El.int (El.kp (Dw := Dw) h49 hw')) Tryz.isAgg3 rfl) rfl rfl rfl ?_
       refine VQ_ge rfl rfl rfl hc47 ?_
       refine VQ_y (fun w' hw' => Y_move rfl) rfl rfl rfl ?_
       refine VQ_ge rfl rfl rfl hc47 ?_
       refine VQ_y (fun w' hw' => Y_move rfl) rfl rfl rfl ?_
       refine VQ_ge rfl rfl rfl hc47 ?_
       refine VQ_y (fun w' hw' => Y_subI rfl rfl) rfl rfl rfl ?_
       refine VQ_ge rfl rfl rfl hc47 ?_
       obtain ⟨x50, hx50, hs48⟩ := Option.bind_eq_some_iff.1 hs48
       refine VQ_indexAddr h_l hx50 Tryz.underlying26 Tryz.sizeOf41 rfl rfl rfl ?_
       intro b51 o52 h53
       refine VQ_ge rfl rfl rfl hc47 ?_
       have h54 := El_level_Point_0 h53
       refine VQ_y (fun w' hw' => Y_fieldAddr Tryz.underlying41 rfl Tryz.sizeOf3 (by decide) rfl) rfl rfl rfl ?_
       refine VQ_ge rfl rfl rfl hc47 ?_
       refine VQ_y (fun w' hw' => Y_load (El.int (El.kp (Dw := Dw) h54 hw')) Tryz.isAgg3 rfl) rfl rfl rfl ?_
       refine VQ_ge rfl rfl rfl hc47 ?_
       refine VQ_y (fun w' hw' => Y_lss rfl rfl) rfl rfl rfl ?_
       refine VQ_y (fun _ _ => Y_pick_te rfl hc47 rfl) rfl rfl rfl ?_
       obtain rfl := Option.some.inj hs48
       exact VQ_end fun a ha => ⟨(), ha.sub ⟨rfl, rfl, rfl, rfl, rfl, rfl, trivial⟩, trivial⟩
      ·rw [if_neg (nt hc47)] at hs48
       refine VQ_gn rfl rfl rfl hc47 rfl rfl rfl ?_
       refine VQ_gn rfl rfl rfl hc47 rfl rfl rfl ?_
       refine VQ_gn rfl rfl rfl hc47 rfl rfl rfl ?_
       refine VQ_gn rfl rfl rfl hc47 rfl rfl rfl ?_
       refine VQ_gn rfl rfl rfl hc47 rfl rfl rfl ?_
       refine VQ_gn rfl rfl rfl hc47 rfl rfl rfl ?_
       refine VQ_gn rfl rfl rfl hc47 rfl rfl rfl ?_
       refine VQ_gn rfl rfl rfl hc47 rfl rfl rfl ?_
       refine VQ_gn rfl rfl rfl hc47 rfl rfl rfl ?_
       refine VQ_y (fun _ _ => Y_pick_fe rfl hc47 rfl) rfl rfl rfl ?_
       obtain rfl := Option.some.inj hs48
       exact VQ_end fun a ha => ⟨(), ha.sub ⟨rfl, rfl, rfl, rfl, rfl, rfl, trivial⟩, trivial⟩
     simp only [List.take, List.drop]
     rintro _ _
     refine VQ_y (fun w' hw' => Y_assign rfl) rfl rfl rfl ?_
     refine VQ_to (fun _ _ => rfl) (fun w55 hk56 => ?_)
     have ht57 := Kp.tr (Dw := Dw) hk56 hA hB
     replace hH := Hp.kp (Dw := Dw) hH hk56
     replace h42 := El.tr (Dw := Dw) h42 ht57
     replace hK := Tr.trans (Dw := Dw) hK ht57
     replace hr6 := Tr.trans (Dw := Dw) hr6 ht57
     refine C_cond rfl (fun hc58 => ?_) (fun hc58 => ?_)
     ·rw [if_pos hc58] at h19
      refine C_seq ?_
      refine C_region ?_
      refine V_y (Y_assign rfl) rfl rfl rfl ?_
      refine V_to (fun _ _ => rfl) ?_
      obtain rfl := Option.some.inj h19
      obtain rfl := (h20 : Lp.rt _ = _)
      rw [Lp.andThen_rt] at hm
      obtain rfl := Option.some.inj hm
      refine C_ret ?_
      try simp only [↓inBlock_ret, ↓then_ret]
      exact retQ rfl (Res.one Tryz.results8 rfl) ⟨rfl, hK.kp⟩
     ·rw [if_neg (nt hc58)] at h19
      refine C_seq ?_
      refine C_region ?_
      have h59 := El_level_Point_1 h42
      refine V_y (Y_fieldAddr Tryz.underlying41 rfl Tryz.sizeOf3 (by decide) rfl) rfl rfl rfl ?_
      refine V_y (Y_load (El.int h59) Tryz.isAgg3 rfl) rfl rfl rfl ?_
      refine V_y (Y_lss rfl rfl) rfl rfl rfl ?_
      refine V_y (Y_move rfl) rfl rfl rfl ?_
      refine V_cut 4 (fun _ : Unit => [(0, v_l), (4, .pointer (some ⟨b34, 0, none⟩)), (8, v_l), (9, .int .i64 (l.length : Int)), (10, .int .i64 (k7 : Int)), (42, .bool ((decide (x27.kind < 1)) || (decide ((10 : Int) < x27.kind))))]) (fun _ w' => w55 = w') ?_ ?_
      ·simp only [List.take, List.drop]
       rcases Bool.eq_false_or_eq_true (decide (x27.kind < 1)) with hc60 | hc60
       ·refine V_gn rfl rfl rfl hc60 rfl rfl rfl ?_
        refine V_gn rfl rfl rfl hc60 rfl rfl rfl ?_
        refine V_gn rfl rfl rfl hc60 rfl rfl rfl ?_
        refine V_y (Y_pick_te rfl hc60 rfl) rfl rfl rfl ?_
        exact V_end fun a ha => ⟨(), ha.sub ⟨rfl, rfl, rfl, rfl, rfl, (by rw [hc60]; rfl), trivial⟩, rfl⟩
       ·refine V_ge rfl rfl rfl hc60 ?_
        have h62 := El_level_Point_1 h42
        refine V_y (Y_fieldAddr Tryz.underlying41 rfl Tryz.sizeOf3 (by decide) rfl) rfl rfl rfl ?_
        refine V_ge rfl rfl rfl hc60 ?_
        refine V_y (Y_load (El.int h62) Tryz.isAgg3 rfl) rfl rfl rfl ?_
        refine V_ge rfl rfl rfl hc60 ?_
        refine V_y (Y_gtr rfl rfl) rfl rfl rfl ?_
        refine V_y (Y_pick_fe rfl hc60 rfl) rfl rfl rfl ?_
        exact V_end fun a ha => ⟨(), ha.sub ⟨rfl, rfl, rfl, rfl, rfl, (by rw [hc60]; rfl), trivial⟩, rfl⟩
      simp only [List.take, List.drop]
      rintro _ _ rfl
      refine V_y (Y_assign rfl) rfl rfl rfl ?_
      refine V_to (fun _ _ => rfl) ?_
      refine C_cond rfl (fun hc63 => ?_) (fun hc63 => ?_)
      ·rw [if_pos hc63] at h19
       refine C_seq ?_
       refine C_region ?_
       refine V_y (Y_assign rfl) rfl rfl rfl ?_
       refine V_to (fun _ _ => rfl) ?_
       obtain rfl := Option.some.inj h19
       obtain rfl := (h20 : Lp.rt _ = _)
       rw [Lp.andThen_rt] at hm
       obtain rfl := Option.some.inj hm
       refine C_ret ?_
       try simp only [↓inBlock_ret, ↓then_ret]
       exact retQ rfl (Res.one Tryz.results8 rfl) ⟨rfl, hK.kp⟩
      ·rw [if_neg (nt hc63)] at h19
       refine C_seq ?_
       refine C_region ?_
       have h64 := El_level_Point_2 h42
       refine V_y (Y_fieldAddr Tryz.underlying41 rfl Tryz.sizeOf3 (by decide) rfl) rfl rfl rfl ?_
       refine V_y (Y_load (El.int h64) Tryz.isAgg3 rfl) rfl rfl rfl ?_
       refine V_y (Y_lss rfl rfl) rfl rfl rfl ?_
       refine V_y (Y_move rfl) rfl rfl rfl ?_
       refine V_cut 4 (fun _ : Unit => [(0, v_l), (4, .pointer (some ⟨b34, 0, none⟩)), (8, v_l), (9, .int .i64 (l.length : Int)), (10, .int .i64 (k7 : Int)), (51, .bool ((decide (x27.who < (-1))) || (decide ((40 : Int) < x27.who))))]) (fun _ w' => w55 = w') ?_ ?_
       ·simp only [List.take, List.drop]
        rcases Bool.eq_false_or_eq_true (decide (x27.who < (-1))) with hc65 | hc65
        ·refine V_gn rfl rfl rfl hc65 rfl rfl rfl ?_
         refine V_gn rfl rfl rfl hc65 rfl rfl rfl ?_
         refine V_gn rfl rfl rfl hc65 rfl rfl rfl ?_
         refine V_y (Y_pick_te rfl hc65 rfl) rfl rfl rfl ?_
         exact V_end fun a ha => ⟨(), ha.sub ⟨rfl, rfl, rfl, rfl, rfl, (by rw [hc65]; rfl), trivial⟩, rfl⟩
        ·refine V_ge rfl rfl rfl hc65 ?_
         have h67 := El_level_Point_2 h42
         refine V_y (Y_fieldAddr Tryz.underlying41 rfl Tryz.sizeOf3 (by decide) rfl) rfl rfl rfl ?_
         refine V_ge rfl rfl rfl hc65 ?_
         refine V_y (Y_load (El.int h67) Tryz.isAgg3 rfl) rfl rfl rfl ?_
         refine V_ge rfl rfl rfl hc65 ?_
         refine V_y (Y_gtr rfl rfl) rfl rfl rfl ?_
         refine V_y (Y_pick_fe rfl hc65 rfl) rfl rfl rfl ?_
         exact V_end fun a ha => ⟨(), ha.sub ⟨rfl, rfl, rfl, rfl, rfl, (by rw [hc65]; rfl), trivial⟩, rfl⟩
       simp only [List.take, List.drop]
       rintro _ _ rfl
       refine V_y (Y_move rfl) rfl rfl rfl ?_
       refine V_cut 4 (fun _ : Unit => [(0, v_l), (4, .pointer (some ⟨b34, 0, none⟩)), (8, v_l), (9, .int .i64 (l.length : Int)), (10, .int .i64 (k7 : Int)), (56, .bool (((decide (x27.who < (-1))) || (decide ((40 : Int) < x27.who))) || (decide (x27.status < 1))))]) (fun _ w' => w55 = w') ?_ ?_
       ·simp only [List.take, List.drop]
        rcases Bool.eq_false_or_eq_true (((decide (x27.who < (-1))) || (decide ((40 : Int) < x27.who)))) with hc68 | hc68
        ·refine V_gn rfl rfl rfl hc68 rfl rfl rfl ?_
         refine V_gn rfl rfl rfl hc68 rfl rfl rfl ?_
         refine V_gn rfl rfl rfl hc68 rfl rfl rfl ?_
         refine V_y (Y_pick_te rfl hc68 rfl) rfl rfl rfl ?_
         exact V_end fun a ha => ⟨(), ha.sub ⟨rfl, rfl, rfl, rfl, rfl, (by rw [hc68]; rfl), trivial⟩, rfl⟩
        ·refine V_ge rfl rfl rfl hc68 ?_
         have h70 := El_level_Point_3 h42
         refine V_y (Y_fieldAddr Tryz.underlying41 rfl Tryz.sizeOf3 (by decide) rfl) rfl rfl rfl ?_
         refine V_ge rfl rfl rfl hc68 ?_
         refine V_y (Y_load (El.int h70) Tryz.isAgg3 rfl) rfl rfl rfl ?_
         refine V_ge rfl rfl rfl hc68 ?_
         refine V_y (Y_lss rfl rfl) rfl rfl rfl ?_
         refine V_y (Y_pick_fe rfl hc68 rfl) rfl rfl rfl ?_
         exact V_end fun a ha => ⟨(), ha.sub ⟨rfl, rfl, rfl, rfl, rfl, (by rw [hc68]; rfl), trivial⟩, rfl⟩
       simp only [List.take, List.drop]
       rintro _ _ rfl
       refine V_y (Y_move rfl) rfl rfl rfl ?_
       refine V_cut 4 (fun _ : Unit => [(0, v_l), (4, .pointer (some ⟨b34, 0, none⟩)), (8, v_l), (9, .int .i64 (l.length : Int)), (10, .int .i64 (k7 : Int)), (61, .bool ((((decide (x27.who < (-1))) || (decide ((40 : Int) < x27.who))) || (decide (x27.status < 1))) || (decide ((6 : Int) < x27.status))))]) (fun _ w' => w55 = w') ?_ ?_
       ·simp only [List.take, List.drop]
        rcases Bool.eq_false_or_eq_true ((((decide (x27.who < (-1))) || (decide ((40 : Int) < x27.who))) || (decide (x27.status < 1)))) with hc71 | hc71
        ·refine V_gn rfl rfl rfl hc71 rfl rfl rfl ?_
         refine V_gn rfl rfl rfl hc71 rfl rfl rfl ?_
         refine V_gn rfl rfl rfl hc71 rfl rfl rfl ?_
         refine V_y (Y_pick_te rfl hc71 rfl) rfl rfl rfl ?_
         exact V_end fun a ha => ⟨(), ha.sub ⟨rfl, rfl, rfl, rfl, rfl, (by rw [hc71]; rfl), trivial⟩, rfl⟩
        ·refine V_ge rfl rfl rfl hc71 ?_
         have h73 := El_level_Point_3 h42
         refine V_y (Y_fieldAddr Tryz.underlying41 rfl Tryz.sizeOf3 (by decide) rfl) rfl rfl rfl ?_
         refine V_ge rfl rfl rfl hc71 ?_
         refine V_y (Y_load (El.int h73) Tryz.isAgg3 rfl) rfl rfl rfl ?_
         refine V_ge rfl rfl rfl hc71 ?_
         refine V_y (Y_gtr rfl rfl) rfl rfl rfl ?_
         refine V_y (Y_pick_fe rfl hc71 rfl) rfl rfl rfl ?_
         exact V_end fun a ha => ⟨(), ha.sub ⟨rfl, rfl, rfl, rfl, rfl, (by rw [hc71]; rfl), trivial⟩, rfl⟩
       simp only [List.take, List.drop]
       rintro _ _ rfl
       refine V_y (Y_assign rfl) rfl rfl rfl ?_
       refine V_to (fun _ _ => rfl) ?_
       refine C_cond rfl (fun hc74 => ?_) (fun hc74 => ?_)
       ·rw [if_pos hc74] at h19
        refine C_seq ?_
        refine C_region ?_
        refine V_y (Y_assign rfl) rfl rfl rfl ?_
        refine V_to (fun _ _ => rfl) ?_
        obtain rfl := Option.some.inj h19
        obtain rfl := (h20 : Lp.rt _ = _)
        rw [Lp.andThen_rt] at hm
        obtain rfl := Option.some.inj hm
        refine C_ret ?_
        try simp only [↓inBlock_ret, ↓then_ret]
        exact retQ rfl (Res.one Tryz.results8 rfl) ⟨rfl, hK.kp⟩
       ·rw [if_neg (nt hc74)] at h19
        refine C_seq ?_
        refine C_region ?_
        have h75 := El_level_Point_5 h42
        refine V_y (Y_fieldAddr Tryz.underlying41 rfl Tryz.sizeOf39 (by decide) rfl) rfl rfl rfl ?_
        obtain ⟨v76, h77, h78⟩ := El.list h75
        refine V_y (Y_load h77 Tryz.isAgg39 rfl) rfl rfl rfl ?_
        refine V_y (Y_lenSl h78 rfl Tryz.underlying39 rfl) rfl rfl rfl ?_
        refine V_y (Y_gtr rfl rfl) rfl rfl rfl ?_
        refine V_y (Y_assign rfl) rfl rfl rfl ?_
        refine V_to (fun _ _ => rfl) ?_
        refine C_cond rfl (fun hc79 => ?_) (fun hc79 => ?_)
        ·rw [if_pos hc79] at h19
         refine C_seq ?_
         refine C_region ?_
         refine V_y (Y_assign rfl) rfl rfl rfl ?_
         refine V_to (fun _ _ => rfl) ?_
         obtain rfl := Option.some.inj h19
         obtain rfl := (h20 : Lp.rt _ = _)
         rw [Lp.andThen_rt] at hm
         obtain rfl := Option.some.inj hm
         refine C_ret ?_
         try simp only [↓inBlock_ret, ↓then_ret]
         exact retQ rfl (Res.one Tryz.results8 rfl) ⟨rfl, hK.kp⟩
        ·rw [if_neg (nt hc79)] at h19
         refine C_skip_to (fun _ _ => rfl) ?_
         refine C_region ?_
         refine V_y (Y_addI rfl rfl) rfl rfl rfl ?_
         refine V_y (Y_move rfl) rfl rfl rfl ?_
         obtain rfl := Option.some.inj h19
         refine V_end (fun a ha80 => ?_)
         exact ⟨(), hlt22, h20, ⟨A16, ha80.sub ⟨rfl, rfl, rfl, (congrArg (fun z => some (Value.int .i64 z)) (w64_succ hlt22 hn25)), trivial⟩, ⟨hH, hr6⟩⟩⟩
   ·refine C_exit (fun a ha81 => ?_)
    exact ⟨((), A16), ha81.sub trivial, ⟨(h23 (eq_of_dec hle21 hc26)).symm, hH, hr6⟩⟩
  rintro ⟨s5, A12⟩ w9 ⟨rfl, hH13, hk10⟩ a ha11
  rw [Lp.andThen_fin] at hm
  replace hK := Tr.trans (Dw := Dw) hK hk10
  replace hA := hk10.new
  replace hH : Hp w.heap.size A12 w9 ([]) := hH13
  refine C_at (n := ⟨68, [], none⟩) (fun _ _ => rfl) ?_ ha11
  refine C_seq ?_
  refine C_region ?_
  refine V_y (Y_assign rfl) rfl rfl rfl ?_
  refine V_to (fun _ _ => rfl) ?_
  obtain rfl := Option.some.inj hm
  refine C_ret ?_
  try simp only [↓inBlock_ret, ↓then_ret]
  exact retQ rfl (Res.one Tryz.results8 rfl) ⟨rfl, hK.kp⟩
set_option maxRecDepth 4000 in
set_option maxHeartbeats 4000000 in
theorem portref2_ticking_turn_c (w : World) {A : Nat → Prop} {B : Nat} (hB : B ≤ w.heap.size) (hA : ∀ b, w.heap.size ≤ b → A b) (t : portref2_ticking) (b_t : Nat) (v_t : Value) (m : Int) (calendar : Int) {L : List Ob} (hH : Hp B A w (obC b_t [.int .i64 t.c.kind, .int .i64 t.c.level, .int .i64 t.c.minutes, .int .i64 t.c.start, .int .i64 t.c.stop, .int .i64 t.c.end_, v_t, .int .i64 t.now, .int .i64 t.at_, .int .i64 t.cal] 56 :: obS (α := level_Piece) 67 v_t t.c.pieces :: L)) {r : portref2_ticking} (hm : portref2_ticking_turn t m calendar = some r) : Ret Tryz.prog 20 #[.pointer (some ⟨b_t, 0, none⟩), .int .i64 m, .int .i64 calendar] w fun v w' => ∃ u1_0, ∃ A1 : Nat → Prop, v = .tuple #[] ∧ Hp B A1 w' (obC b_t [.int .i64 r.c.kind, .int .i64 r.c.level, .int .i64 r.c.minutes, .int .i64 r.c.start, .int .i64 r.c.stop, .int .i64 r.c.end_, u1_0, .int .i64 r.now, .int .i64 r.at_, .int .i64 r.cal] 56 :: obS (α := level_Piece) 67 u1_0 r.c.pieces :: L) ∧ Tr Dw B A w A1 w' := by
 unfold portref2_ticking_turn at hm
 refine enter Tryz.func20 rfl Tryz.ntmps20 rfl ?_
 have hK : Tr Dw B A w A w := Tr.refl (Dw := Dw) hA
 refine C_seq ?_
 refine C_seq ?_
 refine C_region ?_
 refine V_y (Y_move rfl) rfl rfl rfl ?_
 refine V_y (Y_move rfl) rfl rfl rfl ?_
 refine V_y (Y_nilCheck rfl) rfl rfl rfl ?_
 refine V_y (Y_fieldAddrC (off2 := 7) Tryz.underlying56 rfl Tryz.sizeOf3 (by decide) rfl rfl) rfl rfl rfl ?_
 refine V_y (Y_load (Hp.cell (j := 7) hH (i := 0) rfl rfl) Tryz.isAgg3 rfl) rfl rfl rfl ?_
 refine V_y (Y_eql rfl rfl) rfl rfl rfl ?_
 refine V_to (fun _ _ => rfl) ?_
 refine C_cond rfl (fun hc3 => ?_) (fun hc3 => ?_)
 ·rw [if_pos hc3] at hm
  obtain rfl := Option.some.inj hm
  refine C_ret ?_
  try simp only [↓inBlock_ret, ↓then_ret]
  exact retQ rfl (Res.zero Tryz.results20) ⟨v_t, A, rfl, hH, hK⟩
 ·rw [if_neg (nt hc3)] at hm
  refine C_skip_to (fun _ _ => rfl) ?_
  refine C_seq ?_
  refine C_seq ?_
  refine C_region ?_
  refine V_y (Y_move rfl) rfl rfl rfl ?_
  refine V_y (Y_nilCheck rfl) rfl rfl rfl ?_
  refine V_y (Y_fieldAddrC (off2 := 7) Tryz.underlying56 rfl Tryz.sizeOf3 (by decide) rfl rfl) rfl rfl rfl ?_
  refine V_y (Y_load (Hp.cell (j := 7) hH (i := 0) rfl rfl) Tryz.isAgg3 rfl) rfl rfl rfl ?_
  refine V_y (Y_geq rfl rfl) rfl rfl rfl ?_
  refine V_y (Y_move rfl) rfl rfl rfl ?_
  refine V_cut 7 (fun _ : Unit => [(0, .pointer (some ⟨b_t, 0, none⟩)), (1, .int .i64 m), (2, .int .i64 calendar), (24, .bool ((decide ((0 : Int) ≤ t.now)) && (decide (t.at_ < m))))]) (fun _ w' => w = w') ?_ ?_
  ·simp only [List.take, List.drop]
   rcases Bool.eq_false_or_eq_true (decide ((0 : Int) ≤ t.now)) with hc4 | hc4
   ·refine V_ge rfl rfl rfl hc4 ?_
    refine V_y (Y_move rfl) rfl rfl rfl ?_
    refine V_ge rfl rfl rfl hc4 ?_
    refine V_y (Y_move rfl) rfl rfl rfl ?_
    refine V_ge rfl rfl rfl hc4 ?_
    refine V_y (Y_nilCheck rfl) rfl rfl rfl ?_
    refine V_ge rfl rfl rfl hc4 ?_
    refine V_y (Y_fieldAddrC (off2 := 8) Tryz.underlying56 rfl Tryz.sizeOf3 (by decide) rfl rfl) rfl rfl rfl ?_
    refine V_ge rfl rfl rfl hc4 ?_
    refine V_y (Y_load (Hp.cell (j := 8) hH (i := 0) rfl rfl) Tryz.isAgg3 rfl) rfl rfl rfl ?_
    refine V_ge rfl rfl rfl hc4 ?_
    refine V_y (Y_gtr rfl rfl) rfl rfl rfl ?_
    refine V_y (Y_pick_te rfl hc4 rfl) rfl rfl rfl ?_
    exact V_end fun a ha => ⟨(), ha.sub ⟨rfl, rfl, rfl, (by rw [hc4]; rfl), trivial⟩, rfl⟩
   ·refine V_gn rfl rfl rfl hc4 rfl rfl rfl ?_
    refine V_gn rfl rfl rfl hc4 rfl rfl rfl ?_
    refine V_gn rfl rfl rfl hc4 rfl rfl rfl ?_
    refine V_gn rfl rfl rfl hc4 rfl rfl rfl ?_
    refine V_gn rfl rfl rfl hc4 rfl rfl rfl ?_
    refine V_gn rfl rfl rfl hc4 rfl rfl rfl ?_
    refine V_y (Y_pick_fe rfl hc4 rfl) rfl rfl rfl ?_
    exact V_end fun a ha => ⟨(), ha.sub ⟨rfl, rfl, rfl, (by rw [hc4]; rfl), trivial⟩, rfl⟩
  simp only [List.take, List.drop]
  rintro _ _ rfl
  refine V_to (fun _ _ => rfl) ?_
  obtain ⟨s7, ho6, hm⟩ := Option.bind_eq_some_iff.1 hm
  refine C_cutG (ι := (Value × (Nat → Prop))) (fun ⟨v9, A14⟩ => [(0, .pointer (some ⟨b_t, 0, none⟩)), (1, .int .i64 m), (2, .int .i64 calendar)]) (fun ⟨v9, A14⟩ => fun w' => Hp B A14 w' (obC b_t [.int .i64 s7.c.kind, .int .i64 s7.c.level, .int .i64 s7.c.minutes, .int .i64 s7.c.start, .int .i64 s7.c.stop, .int .i64 s7.c.end_, v9, .int .i64 s7.now, .int .i64 s7.at_, .int .i64 s7.cal] 56 :: obS (α := level_Piece) 67 v9 s7.c.pieces :: L) ∧ Tr Dw B A w A14 w') ?_ ?_
  ·have hr8 : Tr Dw B A w A w := Tr.refl (Dw := Dw) hA
   refine C_cond rfl (fun hc16 => ?_) (fun hc16 => ?_)
   ·rw [if_pos hc16] at ho6
    refine C_region_ch (Dw := Dw) A 22 [(1, 0), (1, 1), (1, 2), (1, 3), (1, 4), (0, 5), (1, 6), (1, 7), (1, 8), (0, 9), (1, 10), (1, 11), (1, 12), (1, 13), (0, 14), (1, 15), (2, 16), (4, 17), (1, 18), (1, 19), (1, 20), (4, 21)] Tryz_mixed (by kernel_rfl) (fun w17 hk18 => ?_)
    have ht19 := Kp.tr (Dw := Dw) hk18 hA hB
    replace hH := Hp.kp (Dw := Dw) hH hk18
    replace hr8 := Tr.trans (Dw := Dw) hr8 ht19
    replace hB := Nat.le_trans hB ht19.ex.size
    replace hA := ht19.new
    refine CH_q2 (Dw := Dw) rfl ?_
    refine VQ_y (fun w' hw' => Y_move rfl) rfl rfl rfl ?_
    refine VQ_CH (Dw := Dw) ?_
    refine CH_q2 (Dw := Dw) rfl ?_
    refine VQ_y (fun w' hw' => Y_move rfl) rfl rfl rfl ?_
    refine VQ_CH (Dw := Dw) ?_
    refine CH_q2 (Dw := Dw) rfl ?_
    refine VQ_y (fun w' hw' => Y_nilCheck rfl) rfl rfl rfl ?_
    refine VQ_CH (Dw := Dw) ?_
    refine CH_q2 (Dw := Dw) rfl ?_
    refine VQ_y (fun w' hw' => Y_fieldAddrC (off2 := 0) Tryz.underlying56 rfl Tryz.sizeOf47 (by decide) rfl rfl) rfl rfl rfl ?_
    refine VQ_CH (Dw := Dw) ?_
    refine CH_q2 (Dw := Dw) rfl ?_
    refine VQ_y (fun w' hw' => Y_fieldAddrC (off2 := 6) Tryz.underlying47 rfl Tryz.sizeOf45 (by decide) rfl rfl) rfl rfl rfl ?_
    refine VQ_CH (Dw := Dw) ?_
    refine CH_q1 (Dw := Dw) rfl ?_
    refine VQ_y (fun w' hw' => Y_load ((World.cell?_of_block (hw'.block _ (World.block_lt_of_cell? _ _ (Hp.cell (j := 6) hH (i := 0) rfl rfl)))).trans (Hp.cell (j := 6) hH (i := 0) rfl rfl)) Tryz.isAgg45 rfl) rfl rfl rfl ?_
    refine VQ_CH (Dw := Dw) ?_
    refine CH_q2 (Dw := Dw) rfl ?_
    refine VQ_y (fun w' hw' => Y_move rfl) rfl rfl rfl ?_
    refine VQ_CH (Dw := Dw) ?_
    refine CH_q2 (Dw := Dw) rfl ?_
    refine VQ_y (fun w' hw' => Y_nilCheck rfl) rfl rfl rfl ?_
    refine VQ_CH (Dw := Dw) ?_
    refine CH_q2 (Dw := Dw) rfl ?_
    refine VQ_y (fun w' hw' => Y_fieldAddrC (off2 := 8) Tryz.underlying56 rfl Tryz.sizeOf3 (by decide) rfl rfl) rfl rfl rfl ?_
    refine VQ_CH (Dw := Dw) ?_
    refine CH_q1 (Dw := Dw) rfl ?_
    refine VQ_y (fun w' hw' => Y_load ((World.cell?_of_block (hw'.block _ (World.block_lt_of_cell? _ _ (Hp.cell (j := 8) hH (i := 0) rfl rfl)))).trans (Hp.cell (j := 8) hH (i := 0) rfl rfl)) Tryz.isAgg3 rfl) rfl rfl rfl ?_
    refine VQ_CH (Dw := Dw) ?_
    refine CH_q2 (Dw := Dw) rfl ?_
    refine VQ_y (fun w' hw' => Y_move rfl) rfl rfl rfl ?_
    refine VQ_CH (Dw := Dw) ?_
    refine CH_q2 (Dw := Dw) rfl ?_
    refine VQ_y (fun w' hw' => Y_move rfl) rfl rfl rfl ?_
    refine VQ_CH (Dw := Dw) ?_
    refine CH_q2 (Dw := Dw) rfl ?_
    refine VQ_y (fun w' hw' => Y_nilCheck rfl) rfl rfl rfl ?_
    refine VQ_CH (Dw := Dw) ?_
    refine CH_q2 (Dw := Dw) rfl ?_
    refine VQ_y (fun w' hw' => Y_fieldAddrC (off2 := 7) Tryz.underlying56 rfl Tryz.sizeOf3 (by decide) rfl rfl) rfl rfl rfl ?_
    refine VQ_CH (Dw := Dw) ?_
    refine CH_q1 (Dw := Dw) rfl ?_
    refine VQ_y (fun w' hw' => Y_load ((World.cell?_of_block (hw'.block _ (World.block_lt_of_cell? _ _ (Hp.cell (j := 7) hH (i := 0) rfl rfl)))).trans (Hp.cell (j := 7) hH (i := 0) rfl rfl)) Tryz.isAgg3 rfl) rfl rfl rfl ?_
    refine VQ_CH (Dw := Dw) ?_
    refine CH_q2 (Dw := Dw) rfl ?_
    refine VQ_y (fun w' hw' => Y_build Tryz.underlying67 Tryz.zeroValue67 (Tryz_places67 _ Tryz.underlying67) rfl (by with_unfolding_all rfl)) rfl rfl rfl ?_
    refine VQ_CH (Dw := Dw) ?_
    refine CH_l1 (Dw := Dw) (k := 0) rfl ?_
    refine V_buildSlice (Dw := Dw) (cells := #[.int .i64 t.at_, .int .i64 m, .int .i64 t.now]) (l := ([(⟨t.at_, m, t.now⟩ : level_Piece)] : List level_Piece)) (len := 1) Tryz.underlying45 Tryz.sizeOf67 Tryz.zeroValue67 rfl (by kernel_rfl) (show (1 * 3 : Nat) ≠ 0 by decide) (show (1 * 3 : Nat) ≤ 2 ^ 24 by decide) hA ⟨[.int .i64 t.at_, .int .i64 m, .int .i64 t.now], _, rfl, ⟨[.int .i64 t.at_], _, rfl, rfl, ⟨[.int .i64 m], _, rfl, rfl, rfl⟩⟩, rfl⟩ rfl rfl ?_
    intro v20 w21 hk23 h22
    have ht24 := Kp.tr (Dw := Dw) hk23 hA hB
    replace hH := Hp.kp (Dw := Dw) hH hk23
    replace hr8 := Tr.trans (Dw := Dw) hr8 ht24
    replace hB := Nat.le_trans hB ht24.ex.size
    replace hA := ht24.new
    refine V_CH (Dw := Dw) (hk23) ?_
    refine CH_l1 (Dw := Dw) (k := 2) rfl ?_
    obtain ⟨x25, hx25, ho6⟩ := Option.bind_eq_some_iff.1 ho6
    refine V_appendH (Dw := Dw) (e := 67) (v := v_t) (l := t.c.pieces) (ti := Tryz.t67) (bytes := 24) (lim := 5864062014805) hH (i := 1) rfl h22 hx25 Tryz.underlying45 Tryz_info67 rfl rfl rfl rfl (by decide) (by decide) (by decide) hB hA rfl rfl rfl ?_
    intro v26 w27 A28 hH29 ht30
    replace hr8 := Tr.trans (Dw := Dw) hr8 ht30
    replace hB := Nat.le_trans hB ht30.ex.size
    replace hA := ht30.new
    replace hH : Hp B A28 w27 (obC b_t [.int .i64 t.c.kind, .int .i64 t.c.level, .int .i64 t.c.minutes, .int .i64 t.c.start, .int .i64 t.c.stop, .int .i64 t.c.end_, v_t, .int .i64 t.now, .int .i64 t.at_, .int .i64 t.cal] 56 :: obS (α := level_Piece) 67 v26 x25 :: L) := hH29
    refine V_CHw (Dw := Dw) ?_
    refine CH_q2 (Dw := Dw) rfl ?_
    refine VQ_y (fun w' hw' => Y_nilCheck rfl) rfl rfl rfl ?_
    refine VQ_CH (Dw := Dw) ?_
    refine CH_q2 (Dw := Dw) rfl ?_
    refine VQ_y (fun w' hw' => Y_fieldAddrC (off2 := 0) Tryz.underlying56 rfl Tryz.sizeOf47 (by decide) rfl rfl) rfl rfl rfl ?_
    refine VQ_CH (Dw := Dw) ?_
    refine CH_q2 (Dw := Dw) rfl ?_
    refine VQ_y (fun w' hw' => Y_fieldAddrC (off2 := 6) Tryz.underlying47 rfl Tryz.sizeOf45 (by decide) rfl rfl) rfl rfl rfl ?_
    refine VQ_CH (Dw := Dw) ?_
    refine CH_l1 (Dw := Dw) (k := 2) rfl ?_
    have h36 : (v26).oneCell' = true := by obtain ⟨_, _, e, _⟩ := Sl.form (Hp.any (α := level_Piece) (e := 67) (v := v26) (l := x25) hH (i := 1) rfl); rw [e]; rfl
    refine V_storeC (Dw := Dw) (off := 6) (ds := [.int .i64 t.c.kind, .int .i64 t.c.level, .int .i64 t.c.minutes, .int .i64 t.c.start, .int .i64 t.c.stop, .int .i64 t.c.end_, v26, .int .i64 t.now, .int .i64 t.at_, .int .i64 t.cal]) hH (i := 0) rfl Tryz.sizeOf45 (by rw [← Array.length_toList, Value.cells_one h36]; rfl) (Nat.le_of_ble_eq_true rfl) (by intro u hu; rw [Value.cells_one h36] at hu; simp at hu; subst hu; assumption) (by rw [Value.cells_one h36]; rfl) hB hA rfl rfl ?_
    intro w31 hH32 ht33
    replace hr8 := Tr.trans (Dw := Dw) hr8 ht33
    replace hH : Hp B A28 w31 (obC b_t [.int .i64 t.c.kind, .int .i64 t.c.level, .int .i64 t.c.minutes, .int .i64 t.c.start, .int .i64 t.c.stop, .int .i64 t.c.end_, v26, .int .i64 t.now, .int .i64 t.at_, .int .i64 t.cal] 56 :: obS (α := level_Piece) 67 v26 x25 :: L) := hH32
    refine V_CHw (Dw := Dw) ?_
    refine CH_tail (Dw := Dw) ?_
    show V _ _ _ _ [] _ _
    obtain rfl := Option.some.inj ho6
    refine V_end (fun a ha37 => ?_)
    exact ⟨(v26, A28), ha37.sub ⟨rfl, rfl, rfl, trivial⟩, ⟨hH, hr8⟩⟩
   ·rw [if_neg (nt hc16)] at ho6
    obtain rfl := Option.some.inj ho6
    refine C_skip (fun a ha38 => ?_)
    exact ⟨(v_t, A), ha38.sub ⟨rfl, rfl, rfl, trivial⟩, ⟨hH, hr8⟩⟩
  rintro ⟨v9, A14⟩ w11 ⟨hH15, hk12⟩ a ha13
  replace hK := Tr.trans (Dw := Dw) hK hk12
  replace hB := Nat.le_trans hB hk12.ex.size
  replace hA := hk12.new
  replace hH : Hp B A14 w11 (obC b_t [.int .i64 s7.c.kind, .int .i64 s7.c.level, .int .i64 s7.c.minutes, .int .i64 s7.c.start, .int .i64 s7.c.stop, .int .i64 s7.c.end_, v9, .int .i64 s7.now, .int .i64 s7.at_, .int .i64 s7.cal] 56 :: obS (α := level_Piece) 67 v9 s7.c.pieces :: L) := hH15
  refine C_at (n := ⟨54, [], none⟩) (fun _ _ => rfl) ?_ ha13
  refine C_region ?_
  refine V_y (Y_move rfl) rfl rfl rfl ?_
  refine V_y (Y_move rfl) rfl rfl rfl ?_
  refine V_y (Y_move rfl) rfl rfl rfl ?_
  refine V_y (Y_move rfl) rfl rfl rfl ?_
  refine V_y (Y_nilCheck rfl) rfl rfl rfl ?_
  refine V_y (Y_fieldAddrC (off2 := 7) Tryz.underlying56 rfl Tryz.sizeOf3 (by decide) rfl rfl) rfl rfl rfl ?_
  refine V_storeC (Dw := Dw) (off := 7) (ds := [.int .i64 s7.c.kind, .int .i64 s7.c.level, .int .i64 s7.c.minutes, .int .i64 s7.c.start, .int .i64 s7.c.stop, .int .i64 s7.c.end_, v9, .int .i64 calendar, .int .i64 s7.at_, .int .i64 s7.cal]) hH (i := 0) rfl Tryz.sizeOf3 rfl (Nat.le_of_ble_eq_true rfl) (by simp [Value.cells, Value.oneCell']) rfl hB hA rfl rfl ?_
  intro w39 hH40 ht41
  replace hK := Tr.trans (Dw := Dw) hK ht41
  replace hB := Nat.le_trans hB ht41.ex.size
  replace hA := ht41.new
  replace hH : Hp B A14 w39 (obC b_t [.int .i64 s7.c.kind, .int .i64 s7.c.level, .int .i64 s7.c.minutes, .int .i64 s7.c.start, .int .i64 s7.c.stop, .int .i64 s7.c.end_, v9, .int .i64 calendar, .int .i64 s7.at_, .int .i64 s7.cal] 56 :: obS (α := level_Piece) 67 v9 s7.c.pieces :: L) := hH40
  refine V_y (Y_nilCheck rfl) rfl rfl rfl ?_
  refine V_y (Y_fieldAddrC (off2 := 8) Tryz.underlying56 rfl Tryz.sizeOf3 (by decide) rfl rfl) rfl rfl rfl ?_
  refine V_storeC (Dw := Dw) (off := 8) (ds := [.int .i64 s7.c.kind, .int .i64 s7.c.level, .int .i64 s7.c.minutes, .int .i64 s7.c.start, .int .i64 s7.c.stop, .int .i64 s7.c.end_, v9, .int .i64 calendar, .int .i64 m, .int .i64 s7.cal]) hH (i := 0) rfl Tryz.sizeOf3 rfl (Nat.le_of_ble_eq_true rfl) (by simp [Value.cells, Value.oneCell']) rfl hB hA rfl rfl ?_
  intro w42 hH43 ht44
  replace hK := Tr.trans (Dw := Dw) hK ht44
  replace hH : Hp B A14 w42 (obC b_t [.int .i64 s7.c.kind, .int .i64 s7.c.level, .int .i64 s7.c.minutes, .int .i64 s7.c.start, .int .i64 s7.c.stop, .int .i64 s7.c.end_, v9, .int .i64 calendar, .int .i64 m, .int .i64 s7.cal] 56 :: obS (α := level_Piece) 67 v9 s7.c.pieces :: L) := hH43
  refine V_end (fun a ha45 => ?_)
  obtain rfl := Option.some.inj hm
  try simp only [↓inBlock_ret, ↓then_ret]
  exact normQ (retQ rfl (Res.zero Tryz.results20) ⟨v9, A14, rfl, hH, hK⟩ a ha45)
set_option maxRecDepth 4000 in
set_option maxHeartbeats 4000000 in
theorem portref2_ticking_end_c (w : World) {A : Nat → Prop} {B : Nat} (hB : B ≤ w.heap.size) (hA : ∀ b, w.heap.size ≤ b → A b) (t : portref2_ticking) (b_t : Nat) (v_t : Value) (m : Int) (how : Int) {L : List Ob} (hH : Hp B A w (obC b_t [.int .i64 t.c.kind, .int .i64 t.c.level, .int .i64 t.c.minutes, .int .i64 t.c.start, .int .i64 t.c.stop, .int .i64 t.c.end_, v_t, .int .i64 t.now, .int .i64 t.at_, .int .i64 t.cal] 56 :: obS (α := level_Piece) 67 v_t t.c.pieces :: L)) {r : portref2_ticking} (hm : portref2_ticking_end t m how = some r) : Ret Tryz.prog 16 #[.pointer (some ⟨b_t, 0, none⟩), .int .i64 m, .int .i64 how] w fun v w' => ∃ u1_0, ∃ A1 : Nat → Prop, v = .tuple #[] ∧ Hp B A1 w' (obC b_t [.int .i64 r.c.kind, .int .i64 r.c.level, .int .i64 r.c.minutes, .int .i64 r.c.start, .int .i64 r.c.stop, .int .i64 r.c.end_, u1_0, .int .i64 r.now, .int .i64 r.at_, .int .i64 r.cal] 56 :: obS (α := level_Piece) 67 u1_0 r.c.pieces :: L) ∧ Tr Dw B A w A1 w' := by
 unfold portref2_ticking_end at hm
 refine enter Tryz.func16 rfl Tryz.ntmps16 rfl ?_
 have hK : Tr Dw B A w A w := Tr.refl (Dw := Dw) hA
 refine C_seq ?_
 refine C_region ?_
 refine V_y (Y_move rfl) rfl rfl rfl ?_
 refine V_y (Y_move rfl) rfl rfl rfl ?_
 replace hH : Hp B A w (obS (α := level_Piece) 67 v_t t.c.pieces :: obC b_t [.int .i64 t.c.kind, .int .i64 t.c.level, .int .i64 t.c.minutes, .int .i64 t.c.start, .int .i64 t.c.stop, .int .i64 t.c.end_, v_t, .int .i64 t.now, .int .i64 t.at_, .int .i64 t.cal] 56 :: L) := Hp.front hH (i := 1) rfl
 replace hH : Hp B A w (obC b_t [.int .i64 t.c.kind, .int .i64 t.c.level, .int .i64 t.c.minutes, .int .i64 t.c.start, .int .i64 t.c.stop, .int .i64 t.c.end_, v_t, .int .i64 t.now, .int .i64 t.at_, .int .i64 t.cal] 56 :: obS (α := level_Piece) 67 v_t t.c.pieces :: L) := Hp.front hH (i := 1) rfl
 obtain ⟨x3, hx3, hm⟩ := Option.bind_eq_some_iff.1 hm
 refine V_call Tryz.call20 rfl rfl rfl rfl (portref2_ticking_turn_c (Dw := Dw) w hB hA t b_t v_t m (-1) hH hx3) ?_
 rintro _ w6 ⟨v4, A7, rfl, hH8, ht9⟩
 replace hK := Tr.trans (Dw := Dw) hK ht9
 replace hB := Nat.le_trans hB ht9.ex.size
 replace hA := ht9.new
 replace hH : Hp B A7 w6 (obC b_t [.int .i64 x3.c.kind, .int .i64 x3.c.level, .int .i64 x3.c.minutes, .int .i64 x3.c.start, .int .i64 x3.c.stop, .int .i64 x3.c.end_, v4, .int .i64 x3.now, .int .i64 x3.at_, .int .i64 x3.cal] 56 :: obS (α := level_Piece) 67 v4 x3.c.pieces :: L) := hH8
 refine V_to (fun _ _ => rfl) ?_
 refine C_region ?_
 refine V_y (Y_move rfl) rfl rfl rfl ?_
 refine V_y (Y_move rfl) rfl rfl rfl ?_
 refine V_y (Y_move rfl) rfl rfl rfl ?_
 refine V_y (Y_move rfl) rfl rfl rfl ?_
 refine V_y (Y_nilCheck rfl) rfl rfl rfl ?_
 refine V_y (Y_fieldAddrC (off2 := 0) Tryz.underlying56 rfl Tryz.sizeOf47 (by decide) rfl rfl) rfl rfl rfl ?_
 refine V_y (Y_fieldAddrC (off2 := 4) Tryz.underlying47 rfl Tryz.sizeOf3 (by decide) rfl rfl) rfl rfl rfl ?_
 refine V_storeC (Dw := Dw) (off := 4) (ds := [.int .i64 x3.c.kind, .int .i64 x3.c.level, .int .i64 x3.c.minutes, .int .i64 x3.c.start, .int .i64 m, .int .i64 x3.c.end_, v4, .int .i64 x3.now, .int .i64 x3.at_, .int .i64 x3.cal]) hH (i := 0) rfl Tryz.sizeOf3 rfl (Nat.le_of_ble_eq_true rfl) (by simp [Value.cells, Value.oneCell']) rfl hB hA rfl rfl ?_
 intro w10 hH11 ht12
 replace hK := Tr.trans (Dw := Dw) hK ht12
 replace hB := Nat.le_trans hB ht12.ex.size
 replace hA := ht12.new
 replace hH : Hp B A7 w10 (obC b_t [.int .i64 x3.c.kind, .int .i64 x3.c.level, .int .i64 x3.c.minutes, .int .i64 x3.c.start, .int .i64 m, .int .i64 x3.c.end_, v4, .int .i64 x3.now, .int .i64 x3.at_, .int .i64 x3.cal] 56 :: obS (α := level_Piece) 67 v4 x3.c.pieces :: L) := hH11
 refine V_y (Y_nilCheck rfl) rfl rfl rfl ?_
 refine V_y (Y_fieldAddrC (off2 := 0) Tryz.underlying56 rfl Tryz.sizeOf47 (by decide) rfl rfl) rfl rfl rfl ?_
 refine V_y (Y_fieldAddrC (off2 := 5) Tryz.underlying47 rfl Tryz.sizeOf3 (by decide) rfl rfl) rfl rfl rfl ?_
 refine V_storeC (Dw := Dw) (off := 5) (ds := [.int .i64 x3.c.kind, .int .i64 x3.c.level, .int .i64 x3.c.minutes, .int .i64 x3.c.start, .int .i64 m, .int .i64 how, v4, .int .i64 x3.now, .int .i64 x3.at_, .int .i64 x3.cal]) hH (i := 0) rfl Tryz.sizeOf3 rfl (Nat.le_of_ble_eq_true rfl) (by simp [Value.cells, Value.oneCell']) rfl hB hA rfl rfl ?_
 intro w13 hH14 ht15
 replace hK := Tr.trans (Dw := Dw) hK ht15
 replace hH : Hp B A7 w13 (obC b_t [.int .i64 x3.c.kind, .int .i64 x3.c.level, .int .i64 x3.c.minutes, .int .i64 x3.c.start, .int .i64 m, .int .i64 how, v4, .int .i64 x3.now, .int .i64 x3.at_, .int .i64 x3.cal] 56 :: obS (α := level_Piece) 67 v4 x3.c.pieces :: L) := hH14
 refine V_end (fun a ha16 => ?_)
 obtain rfl := Option.some.inj hm
 try simp only [↓inBlock_ret, ↓then_ret]
 exact normQ (retQ rfl (Res.zero Tryz.results16) ⟨v4, A7, rfl, hH, hK⟩ a ha16)
set_option maxRecDepth 4000 in
set_option maxHeartbeats 4000000 in
theorem portref2_over_c (w : World) (status : Int) : Ret Tryz.prog 17 #[.int .i64 status] w fun v w' => v = .bool (portref2_over status) ∧ w = w' := by
 generalize hm : portref2_over status = r
 unfold portref2_over at hm
 refine enter Tryz.func17 rfl Tryz.ntmps17 rfl ?_
 refine C_seq ?_
 refine C_region ?_
 refine V_y (Y_assign rfl) rfl rfl rfl ?_
 refine V_to (fun _ _ => rfl) ?_
 refine C_seq ?_
 refine C_region ?_
 refine V_y (Y_move rfl) rfl rfl rfl ?_
 refine V_y (Y_eql rfl rfl) rfl rfl rfl ?_
 refine V_y (Y_move rfl) rfl rfl rfl ?_
 refine V_cut 3 (fun _ : Unit => [(8, .bool ((status == 5) || (status == 6)))]) (fun _ w' => w = w') ?_ ?_
 ·simp only [List.take, List.drop]
  rcases Bool.eq_false_or_eq_true (status == 5) with hc1 | hc1
  ·refine V_gn rfl rfl rfl hc1 rfl rfl rfl ?_
   refine V_gn rfl rfl rfl hc1 rfl rfl rfl ?_
   refine V_y (Y_pick_te rfl hc1 rfl) rfl rfl rfl ?_
   exact V_end fun a ha => ⟨(), ha.sub ⟨(by rw [hc1]; rfl), trivial⟩, rfl⟩
  ·refine V_ge rfl rfl rfl hc1 ?_
   refine V_y (Y_move rfl) rfl rfl rfl ?_
   refine V_ge rfl rfl rfl hc1 ?_
   refine V_y (Y_eql rfl rfl) rfl rfl rfl ?_
   refine V_y (Y_pick_fe rfl hc1 rfl) rfl rfl rfl ?_
   exact V_end fun a ha => ⟨(), ha.sub ⟨(by rw [hc1]; rfl), trivial⟩, rfl⟩
 simp only [List.take, List.drop]
 rintro _ _ rfl
 refine V_y (Y_assign rfl) rfl rfl rfl ?_
 refine V_to (fun _ _ => rfl) ?_
 obtain rfl := hm
 refine C_ret ?_
 try simp only [↓inBlock_ret, ↓then_ret]
 exact retQ rfl (Res.one Tryz.results17 rfl) ⟨rfl, rfl⟩
set_option maxRecDepth 4000 in
set_option maxHeartbeats 4000000 in
theorem portref2_levelIn_1_1_c (w : World) {A : Nat → Prop} (hA : ∀ b, w.heap.size ≤ b → A b) (t : level_Test) (p1 : Int) (b_p1 : Nat) (h_p1 : El A w b_p1 0 p1) (p2 : (List api_Value)) (b_p2 : Nat) (h_p2 : El A w b_p2 0 p2) {r : Bool} (hm : portref2_levelIn_1_1 t p1 p2 = some r) : Ret Tryz.prog 72 #[.agg #[.int .i64 t.field, .int .i64 t.value.kind, .int .i64 t.value.int, .string t.value.text], .pointer (some ⟨b_p1, 0, none⟩), .pointer (some ⟨b_p2, 0, none⟩)] w fun v w' => v = .bool r ∧ Kp Dw w w' := by
 unfold portref2_levelIn_1_1 at hm
 refine enter Tryz.func72 rfl Tryz.ntmps72 rfl ?_
 have hA0 := hA
 have hB := Nat.le_refl w.heap.size
 have hK : Tr Dw w.heap.size A w A w := Tr.refl (Dw := Dw) hA
 have hH : Hp w.heap.size A w [] := Hp.nil
 refine C_seq ?_
 refine C_region ?_
 refine V_box rfl rfl ?_
 intro b1 w2 h3
 have hk5 := h3.kp (Dw := Dw)
 have h4 : El (α := level_Test) A w2 b1 0 t := h3.el hA ⟨[.int .i64 t.field], _, rfl, rfl, ⟨[.int .i64 t.value.kind], _, rfl, rfl, ⟨[.int .i64 t.value.int], _, rfl, rfl, rfl⟩⟩⟩
 have ht6 := Kp.tr (Dw := Dw) hk5 hA hB
 replace hH := Hp.kp (Dw := Dw) hH hk5
 replace h_p1 := El.tr (Dw := Dw) h_p1 ht6
 replace h_p2 := El.tr (Dw := Dw) h_p2 ht6
 replace hK := Tr.trans (Dw := Dw) hK ht6
 replace hB := Nat.le_trans hB ht6.ex.size
 replace hA := ht6.new
 refine V_y (Y_assign rfl) rfl rfl rfl ?_
 refine V_to (fun _ _ => rfl) ?_
 refine C_seq ?_
 refine C_region ?_
 refine V_y (Y_build Tryz.underlying150 Tryz.zeroValue150 (Tryz_places150 _ Tryz.underlying150) rfl (by with_unfolding_all rfl)) rfl rfl rfl ?_
 refine V_allocH (Dw := Dw) (B := w.heap.size) hH Tryz.zeroValue150 hB hA rfl ?_
 intro b7 w9 A10 hH11 ht12
 replace h_p1 := El.tr (Dw := Dw) h_p1 ht12
 replace h_p2 := El.tr (Dw := Dw) h_p2 ht12
 replace h4 := El.tr (Dw := Dw) h4 ht12
 replace hK := Tr.trans (Dw := Dw) hK ht12
 replace hB := Nat.le_trans hB ht12.ex.size
 replace hA := ht12.new
 replace hH : Hp w.heap.size A10 w9 (obC b7 [.int .i64 0, .int .i64 0, .string ByteArray.empty] 150 :: []) := hH11
 refine V_storeC (Dw := Dw) (off := 0) (ds := [.int .i64 0, .int .i64 0, .string ByteArray.empty]) hH (i := 0) rfl Tryz.sizeOf150 rfl (Nat.le_of_ble_eq_true rfl) (by simp [Value.cells, Value.oneCell']) rfl hB hA rfl rfl ?_
 intro w13 hH14 ht15
 replace h_p1 := El.tr (Dw := Dw) h_p1 ht15
 replace h_p2 := El.tr (Dw := Dw) h_p2 ht15
 replace h4 := El.tr (Dw := Dw) h4 ht15
 replace hK := Tr.trans (Dw := Dw) hK ht15
 replace hB := Nat.le_trans hB ht15.ex.size
 replace hA := ht15.new
 replace hH : Hp w.heap.size A10 w13 (obC b7 [.int .i64 0, .int .i64 0, .string ByteArray.empty] 150 :: []) := hH14
 refine V_to (fun _ _ => rfl) ?_
 refine C_seq ?_
 refine C_seq ?_
 refine C_region ?_
 have h16 := El_level_Test_0 h4
 refine V_y (Y_fieldAddr Tryz.underlying152 rfl Tryz.sizeOf3 (by decide) rfl) rfl rfl rfl ?_
 refine V_y (Y_load (El.int h16) Tryz.isAgg3 rfl) rfl rfl rfl ?_
 refine V_y (Y_lss rfl rfl) rfl rfl rfl ?_
 refine V_to (fun _ _ => rfl) ?_
 obtain ⟨s18, ho17, hm⟩ := Option.bind_eq_some_iff.1 hm
 refine C_cutG (ι := (Nat → Prop)) (fun (A23 : (Nat → Prop)) => [(3, .pointer (some ⟨b1, 0, none⟩)), (5, .pointer (some ⟨b7, 0, none⟩))]) (fun (A23 : (Nat → Prop)) => fun w' => Hp w.heap.size A23 w' (obC b7 [.int .i64 s18.kind, .int .i64 s18.int, .string s18.text] 150 :: []) ∧ Tr Dw w.heap.size A10 w13 A23 w') ?_ ?_
 ·have hr19 : Tr Dw w.heap.size A10 w13 A10 w13 := Tr.refl (Dw := Dw) hA
  refine C_cond rfl (fun hc25 => ?_) (fun hc25 => ?_)
  ·rw [if_pos hc25] at ho17
   refine C_region ?_
   refine V_y (Y_load (El.int h_p1) Tryz.isAgg3 rfl) rfl rfl rfl ?_
   refine V_y (Y_build Tryz.underlying150 Tryz.zeroValue150 (Tryz_places150 _ Tryz.underlying150) rfl (by with_unfolding_all rfl)) rfl rfl rfl ?_
   refine V_storeC (Dw := Dw) (off := 0) (ds := [.int .i64 2, .int .i64 p1, .string ByteArray.empty]) hH (i := 0) rfl Tryz.sizeOf150 rfl (Nat.le_of_ble_eq_true rfl) (by simp [Value.cells, Value.oneCell']) rfl hB hA rfl rfl ?_
   intro w26 hH27 ht28
   replace hr19 := Tr.trans (Dw := Dw) hr19 ht28
   replace hH : Hp w.heap.size A10 w26 (obC b7 [.int .i64 2, .int .i64 p1, .string ByteArray.empty] 150 :: []) := hH27
   obtain rfl := Option.some.inj ho17
   refine V_end (fun a ha29 => ?_)
   exact ⟨A10, ha29.sub ⟨rfl, rfl, trivial⟩, ⟨hH, hr19⟩⟩
  ·rw [if_neg (nt hc25)] at ho17
   refine C_seq ?_
   refine C_region ?_
   have h30 := El_level_Test_0 h4
   refine V_y (Y_fieldAddr Tryz.underlying152 rfl Tryz.sizeOf3 (by decide) rfl) rfl rfl rfl ?_
   refine V_y (Y_load (El.int h30) Tryz.isAgg3 rfl) rfl rfl rfl ?_
   obtain ⟨v31, h32, h33⟩ := El.list h_p2
   refine V_y (Y_load h32 Tryz.isAgg39 rfl) rfl rfl rfl ?_
   refine V_y (Y_lenSl h33 rfl Tryz.underlying39 rfl) rfl rfl rfl ?_
   refine V_y (Y_lss rfl rfl) rfl rfl rfl ?_
   refine V_to (fun _ _ => rfl) ?_
   obtain ⟨s35, ho34, ho17⟩ := Option.bind_eq_some_iff.1 ho17
   refine C_cutG (ι := (Nat → Prop)) (fun (A40 : (Nat → Prop)) => [(3, .pointer (some ⟨b1, 0, none⟩)), (5, .pointer (some ⟨b7, 0, none⟩))]) (fun (A40 : (Nat → Prop)) => fun w' => Hp w.heap.size A40 w' (obC b7 [.int .i64 s35.kind, .int .i64 s35.int, .string s35.text] 150 :: []) ∧ Tr Dw w.heap.size A10 w13 A40 w') ?_ ?_
   ·have hr36 : Tr Dw w.heap.size A10 w13 A10 w13 := Tr.refl (Dw := Dw) hA
    refine C_cond rfl (fun hc42 => ?_) (fun hc42 => ?_)
    ·rw [if_pos hc42] at ho34
     refine C_region ?_
     obtain ⟨v43, h44, h45⟩ := El.list h_p2
     refine V_y (Y_load h44 Tryz.isAgg39 rfl) rfl rfl rfl ?_
     have h46 := El_level_Test_0 h4
     refine V_y (Y_fieldAddr Tryz.underlying152 rfl Tryz.sizeOf3 (by decide) rfl) rfl rfl rfl ?_
     refine V_y (Y_load (El.int h46) Tryz.isAgg3 rfl) rfl rfl rfl ?_
     obtain ⟨x47, hx47, ho34⟩ := Option.bind_eq_some_iff.1 ho34
     refine V_indexAddr h45 hx47 Tryz.underlying39 Tryz.sizeOf150 rfl rfl rfl ?_
     intro b48 o49 h50
     obtain ⟨h51, _⟩ := El_api_Value h50
     refine V_y (Y_loadA h51 Tryz.isAgg150 Tryz.sizeOf150 rfl) rfl rfl rfl ?_
     refine V_storeC (Dw := Dw) (off := 0) (ds := [.int .i64 x47.kind, .int .i64 x47.int, .string x47.text]) hH (i := 0) rfl Tryz.sizeOf150 rfl (Nat.le_of_ble_eq_true rfl) (by simp [Value.cells, Value.oneCell']) rfl hB hA rfl rfl ?_
     intro w52 hH53 ht54
     replace hr36 := Tr.trans (Dw := Dw) hr36 ht54
     replace hH : Hp w.heap.size A10 w52 (obC b7 [.int .i64 x47.kind, .int .i64 x47.int, .string x47.text] 150 :: []) := hH53
     obtain rfl := Option.some.inj ho34
     refine V_end (fun a ha55 => ?_)
     exact ⟨A10, ha55.sub ⟨rfl, rfl, trivial⟩, ⟨hH, hr36⟩⟩
    ·rw [if_neg (nt hc42)] at ho34
     obtain rfl := Option.some.inj ho34
     refine C_skip (fun a ha56 => ?_)
     exact ⟨A10, ha56.sub ⟨rfl, rfl, trivial⟩, ⟨hH, hr36⟩⟩
   rintro A40 w37 ⟨hH41, hk38⟩ a ha39
   replace hr19 := Tr.trans (Dw := Dw) hr19 hk38
   replace hA := hk38.new
   replace hH : Hp w.heap.size A40 w37 (obC b7 [.int .i64 s35.kind, .int .i64 s35.int, .string s35.text] 150 :: []) := hH41
   obtain rfl := Option.some.inj ho17
   exact ⟨A40, ha39.sub ⟨rfl, rfl, trivial⟩, ⟨hH, hr19⟩⟩
 rintro A23 w20 ⟨hH24, hk21⟩ a ha22
 replace h4 := El.tr (Dw := Dw) h4 hk21
 replace hK := Tr.trans (Dw := Dw) hK hk21
 replace hA := hk21.new
 replace hH : Hp w.heap.size A23 w20 (obC b7 [.int .i64 s18.kind, .int .i64 s18.int, .string s18.text] 150 :: []) := hH24
 refine C_at (n := ⟨26, [], none⟩) (fun _ _ => rfl) ?_ ha22
 refine C_seq ?_
 refine C_region ?_
 refine V_y (Y_loadA (Hp.part (off := 0) (n := 3) (ds := [.int .i64 s18.kind, .int .i64 s18.int, .string s18.text]) hH (i := 0) rfl rfl) Tryz.isAgg150 Tryz.sizeOf150 rfl) rfl rfl rfl ?_
 have h58 := El_level_Test_1 h4
 refine V_y (Y_fieldAddr Tryz.underlying152 rfl Tryz.sizeOf150 (by decide) rfl) rfl rfl rfl ?_
 obtain ⟨h59, _⟩ := El_api_Value h58
 refine V_y (Y_loadA h59 Tryz.isAgg150 Tryz.sizeOf150 rfl) rfl rfl rfl ?_
 refine V_y (Y_neqA (fun w => Tryz_eqt150_10000 s18.kind s18.int s18.text t.value.kind t.value.int t.value.text w) Tryz_eqg150 rfl rfl) rfl rfl rfl ?_
 refine V_y (Y_assign rfl) rfl rfl rfl ?_
 refine V_to (fun _ _ => rfl) ?_
 obtain rfl := Option.some.inj hm
 refine C_ret ?_
 try simp only [↓inBlock_ret, ↓then_ret]
 exact retQ rfl (Res.one Tryz.results72 rfl) ⟨rfl, hK.kp⟩
set_option maxRecDepth 4000 in
set_option maxHeartbeats 4000000 in
theorem portref2_levelIn_1_c (w : World) {A : Nat → Prop} (hA : ∀ b, w.heap.size ≤ b → A b) (l : level_Level) (v_l0 : Value) (h_l0 : Sl A w v_l0 l.tests) (v_l1 : Value) (h_l1 : Sl A w v_l1 l.targets) (p1 : Int) (b_p1 : Nat) (h_p1 : El A w b_p1 0 p1) (p2 : (List api_Value)) (b_p2 : Nat) (h_p2 : El A w b_p2 0 p2) {r : Bool} (hm : portref2_levelIn_1 l p1 p2 = some r) : Ret Tryz.prog 70 #[.agg #[.string l.name, v_l0, v_l1], .pointer (some ⟨b_p1, 0, none⟩), .pointer (some ⟨b_p2, 0, none⟩)] w fun v w' => v = .bool r ∧ Kp Dw w w' := by
 unfold portref2_levelIn_1 at hm
 refine enter Tryz.func70 rfl Tryz.ntmps70 rfl ?_
 have hA0 := hA
 have hB := Nat.le_refl w.heap.size
 have hK : Tr Dw w.heap.size A w A w := Tr.refl (Dw := Dw) hA
 have hH : Hp w.heap.size A w [] := Hp.nil
 refine C_seq ?_
 refine C_region ?_
 refine V_box rfl rfl ?_
 intro b5 w6 h7
 have hk9 := h7.kp (Dw := Dw)
 have h8 : El (α := level_Level) A w6 b5 0 l := h7.el hA ⟨[.string l.name], _, rfl, rfl, ⟨[v_l0], _, rfl, ⟨_, rfl, h_l0⟩, ⟨_, rfl, h_l1⟩⟩⟩
 have ht10 := Kp.tr (Dw := Dw) hk9 hA hB
 replace h_p1 := El.tr (Dw := Dw) h_p1 ht10
 replace h_p2 := El.tr (Dw := Dw) h_p2 ht10
 replace hK := Tr.trans (Dw := Dw) hK ht10
 replace hB := Nat.le_trans hB ht10.ex.size
 replace hA := ht10.new
 refine V_y (Y_assign rfl) rfl rfl rfl ?_
 refine V_to (fun _ _ => rfl) ?_
 refine C_seq ?_
 refine C_region ?_
 have h11 := El_level_Level_1 h8
 refine V_y (Y_fieldAddr Tryz.underlying147 rfl Tryz.sizeOf144 (by decide) rfl) rfl rfl rfl ?_
 obtain ⟨v12, h13, h14⟩ := El.list h11
 refine V_y (Y_load h13 Tryz.isAgg144 rfl) rfl rfl rfl ?_
 refine V_y (Y_makeFunc rfl rfl) rfl rfl rfl ?_
 obtain ⟨x16, hx16, hm⟩ := Option.bind_eq_some_iff.1 hm
 refine V_call Tryz.call71 rfl rfl rfl rfl (slices_ContainsFunc_Llevel_Test_level_Test_c (Dw := Dw) w6 hA l.tests v12 h14 (fun y24 => portref2_levelIn_1_1 y24 p1 p2) 72 #[] #[.pointer (some ⟨b_p1, 0, none⟩), .pointer (some ⟨b_p2, 0, none⟩)] Tryz.call72 (fun w20 A21 ht22 h23 y17 r18 h19 => (portref2_levelIn_1_1_c (Dw := Dw) w20 h23 y17 p1 b_p1 (El.tr (Dw := Dw) h_p1 ht22) p2 b_p2 (El.tr (Dw := Dw) h_p2 ht22) h19).mono (fun _ _ h => ⟨h.1, h.2⟩)) hx16) ?_
 rintro _ w25 ⟨rfl, hk26⟩
 have ht27 := Kp.tr (Dw := Dw) hk26 hA hB
 replace hK := Tr.trans (Dw := Dw) hK ht27
 refine V_y (Y_not rfl) rfl rfl rfl ?_
 refine V_y (Y_assign rfl) rfl rfl rfl ?_
 refine V_to (fun _ _ => rfl) ?_
 obtain rfl := Option.some.inj hm
 refine C_ret ?_
 try simp only [↓inBlock_ret, ↓then_ret]
 exact retQ rfl (Res.one Tryz.results70 rfl) ⟨rfl, hK.kp⟩
set_option maxRecDepth 4000 in
set_option maxHeartbeats 4000000 in
theorem portref2_levelIn_c (w : World) {A : Nat → Prop} (hA : ∀ b, w.heap.size ≤ b → A b) (p : level_Policy) (v_p0 : Value) (h_p0 : Sl A w v_p0 p.pauses) (v_p1 : Value) (h_p1 : Sl A w v_p1 p.levels) (priority : Int) (values : (List api_Value)) (v_values : Value) (h_values : Sl A w v_values values) {r : Int} (hm : portref2_levelIn p priority values = some r) : Ret Tryz.prog 18 #[.agg #[v_p0, v_p1], .int .i64 priority, v_values] w fun v w' => v = .int .i64 r ∧ Kp Dw w w' := by
 unfold portref2_levelIn at hm
 refine enter Tryz.func18 rfl Tryz.ntmps18 rfl ?_
 have hA0 := hA
 have hB := Nat.le_refl w.heap.size
 have hK : Tr Dw w.heap.size A w A w := Tr.refl (Dw := Dw) hA
 have hH : Hp w.heap.size A w [] := Hp.nil
 refine C_seq ?_
 refine C_region ?_
 refine V_box rfl rfl ?_
 intro b7 w9 h10
 have hk12 := h10.kp (Dw := Dw)
 have h11 : El (α := level_Policy) A w9 b7 0 p := h10.el hA ⟨[v_p0], _, rfl, ⟨_, rfl, h_p0⟩, ⟨_, rfl, h_p1⟩⟩
 have ht13 := Kp.tr (Dw := Dw) hk12 hA hB
 replace h_values := Sl.tr (Dw := Dw) h_values ht13
 replace hK := Tr.trans (Dw := Dw) hK ht13
 replace hB := Nat.le_trans hB ht13.ex.size
 replace hA := ht13.new
 refine V_box rfl rfl ?_
 intro b14 w15 h16
 have hk18 := h16.kp (Dw := Dw)
 have h17 : El (α := Int) A w15 b14 0 priority := h16.el hA rfl
 have ht19 := Kp.tr (Dw := Dw) hk18 hA hB
 replace h_values := Sl.tr (Dw := Dw) h_values ht19
 replace h11 := El.tr (Dw := Dw) h11 ht19
 replace hK := Tr.trans (Dw := Dw) hK ht19
 replace hB := Nat.le_trans hB ht19.ex.size
 replace hA := ht19.new
 refine V_box rfl rfl ?_
 intro b20 w21 h22
 have h27 : (v_values).oneCell' = true := by obtain ⟨_, _, e, _⟩ := Sl.form h_values; rw [e]; rfl
 have hk24 := h22.kp (Dw := Dw)
 have h23 : El (α := (List api_Value)) A w21 b20 0 values := h22.el hA (by rw [Value.cells_one h27]; exact ⟨_, rfl, h_values⟩)
 have ht28 := Kp.tr (Dw := Dw) hk24 hA hB
 replace h11 := El.tr (Dw := Dw) h11 ht28
 replace h17 := El.tr (Dw := Dw) h17 ht28
 replace hK := Tr.trans (Dw := Dw) hK ht28
 replace hB := Nat.le_trans hB ht28.ex.size
 replace hA := ht28.new
 refine V_y (Y_assign rfl) rfl rfl rfl ?_
 refine V_to (fun _ _ => rfl) ?_
 refine C_seq ?_
 refine C_region ?_
 have h29 := El_level_Policy_1 h11
 refine V_y (Y_fieldAddr Tryz.underlying25 rfl Tryz.sizeOf23 (by decide) rfl) rfl rfl rfl ?_
 obtain ⟨v30, h31, h32⟩ := El.list h29
 refine V_y (Y_load h31 Tryz.isAgg23 rfl) rfl rfl rfl ?_
 refine V_y (Y_makeFunc rfl rfl) rfl rfl rfl ?_
 obtain ⟨x34, hx34, hm⟩ := Option.bind_eq_some_iff.1 hm
 refine V_call Tryz.call69 rfl rfl rfl rfl (slices_IndexFunc_Llevel_Level_level_Level_c (Dw := Dw) w21 hA p.levels v30 h32 (fun y46 => portref2_levelIn_1 y46 priority values) 70 #[] #[.pointer (some ⟨b14, 0, none⟩), .pointer (some ⟨b20, 0, none⟩)] Tryz.call70 (fun w42 A43 ht44 h45 y35 v36 h37 v38 h39 r40 h41 => (portref2_levelIn_1_c (Dw := Dw) w42 h45 y35 v36 h37 v38 h39 priority b14 (El.tr (Dw := Dw) h17 ht44) values b20 (El.tr (Dw := Dw) h23 ht44) h41).mono (fun _ _ h => ⟨h.1, h.2⟩)) hx34) ?_
 rintro _ w47 ⟨rfl, hk48⟩
 have ht49 := Kp.tr (Dw := Dw) hk48 hA hB
 replace hK := Tr.trans (Dw := Dw) hK ht49
 refine V_y (Y_assign rfl) rfl rfl rfl ?_
 refine V_to (fun _ _ => rfl) ?_
 obtain rfl := Option.some.inj hm
 refine C_ret ?_
 try simp only [↓inBlock_ret, ↓then_ret]
 exact retQ rfl (Res.one Tryz.results18 rfl) ⟨rfl, hK.kp⟩
end Go.Proofs.YtfbiebageicnaaaGreatDoor.W
