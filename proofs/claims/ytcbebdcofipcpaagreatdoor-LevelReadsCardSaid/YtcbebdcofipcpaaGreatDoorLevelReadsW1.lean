/-
  Written by program (gen.py) from the IR of the dump: each function computes its model.
-/
import Derived.Test.YtcbebdcofipcpaaGreatDoorLevelReadsW0
namespace Go.Proofs.YtcbebdcofipcpaaGreatDoor.W
open Go Go.RowKit Go.Pu Go.Gw Go.Proofs Go.Proofs.YtcbebdcofipcpaaGreatDoor.M
set_option linter.unusedVariables false
set_option linter.unusedSimpArgs false
variable {Dw : Prop}

set_option maxRecDepth 4000 in
set_option maxHeartbeats 4000000 in
theorem level_name_c (w : World) (s : ByteArray) {r : Bool} (hm : level_name s = some r) : Ret Tryz.prog 57 #[.string s] w fun v w' => v = .bool r ∧ w = w' := by
  unfold level_name at hm
  refine enter Tryz.func57 rfl Tryz.ntmps57 rfl ?_
  refine C_seq ?_
  refine C_region ?_
  refine V_y (Y_assign rfl) rfl rfl rfl ?_
  refine V_to (fun _ _ => rfl) ?_
  refine C_seq ?_
  refine C_seq ?_
  refine C_region ?_
  refine V_y (Y_move rfl) rfl rfl rfl ?_
  refine V_y (Y_lenStr rfl Tryz.underlying9 rfl) rfl rfl rfl ?_
  refine V_y (Y_move rfl) rfl rfl rfl ?_
  refine V_to (fun _ _ => rfl) ?_
  obtain ⟨o1, ho1, hm⟩ := Option.bind_eq_some_iff.1 hm
  refine C_cutG (ι := Int) (fun (s2 : Int) => [(0, .string s)]) (fun (s2 : Int) => fun w' => o1 = .fin s2 ∧ w = w') ?_ ?_
  · refine C_block ?_
    refine C_while ho1 (fun s8 a w' => ∃ i : Unit, Has ⟨41, [], none⟩ a ([(0, .string s), (6, .int .i64 (s.size : Int)), (7, .int .i64 s8)]) ∧ w = w') (fun a ha => ⟨(), ha.sub ⟨rfl, rfl, rfl, trivial⟩, rfl⟩) ?_
    rintro K s8 a _ ⟨_, ha30, rfl⟩ K16
    refine C_of ?_ ha30
    obtain ⟨x10, h11, h12⟩ := K16
    refine C_seq ?_
    refine C_region ?_
    refine V_y (Y_lss rfl rfl) rfl rfl rfl ?_
    refine V_to (fun _ _ => rfl) ?_
    refine C_seq ?_
    refine C_cond rfl (fun hc17 => ?_) (fun hc17 => ?_)
    · rw [if_pos hc17] at h11
      refine C_skip_to (fun _ _ => rfl) ?_
      refine C_seq ?_
      refine C_block ?_
      refine C_seq ?_
      refine C_region ?_
      refine V_y (Y_move rfl) rfl rfl rfl ?_
      refine V_y (Y_assign rfl) rfl rfl rfl ?_
      refine V_to (fun _ _ => rfl) ?_
      refine C_seq ?_
      refine C_region ?_
      refine V_y (Y_move rfl) rfl rfl rfl ?_
      refine V_y (Y_move rfl) rfl rfl rfl ?_
      obtain ⟨x18, hx18, h11⟩ := Option.bind_eq_some_iff.1 h11
      refine V_y (Y_indexS hx18 Tryz.underlying9 rfl rfl) rfl rfl rfl ?_
      refine V_y (Y_assign rfl) rfl rfl rfl ?_
      refine V_to (fun _ _ => rfl) ?_
      refine C_seq ?_
      refine C_region ?_
      refine V_y (Y_move rfl) rfl rfl rfl ?_
      refine V_y (Y_geq rfl rfl) rfl rfl rfl ?_
      refine V_y (Y_move rfl) rfl rfl rfl ?_
      refine V_cut 3 (fun _ : Unit => [(0, .string s), (4, .int .u8 (x18.toNat : Int)), (6, .int .i64 (s.size : Int)), (7, .int .i64 s8), (18, .bool ((decide ((97 : Int) ≤ (x18.toNat : Int))) && (decide ((x18.toNat : Int) ≤ 122))))]) (fun _ w' => w = w') ?_ ?_
      · simp only [List.take, List.drop]
        rcases Bool.eq_false_or_eq_true (decide ((97 : Int) ≤ (x18.toNat : Int))) with hc19 | hc19
        · refine V_ge rfl rfl rfl hc19 ?_
          refine V_y (Y_move rfl) rfl rfl rfl ?_
          refine V_ge rfl rfl rfl hc19 ?_
          refine V_y (Y_leq rfl rfl) rfl rfl rfl ?_
          refine V_y (Y_pick_te rfl hc19 rfl) rfl rfl rfl ?_
          exact V_end fun a ha => ⟨(), ha.sub ⟨rfl, rfl, rfl, rfl, (by rw [hc19]; rfl), trivial⟩, rfl⟩
        · refine V_gn rfl rfl rfl hc19 rfl rfl rfl ?_
          refine V_gn rfl rfl rfl hc19 rfl rfl rfl ?_
          refine V_y (Y_pick_fe rfl hc19 rfl) rfl rfl rfl ?_
          exact V_end fun a ha => ⟨(), ha.sub ⟨rfl, rfl, rfl, rfl, (by rw [hc19]; rfl), trivial⟩, rfl⟩
      simp only [List.take, List.drop]
      rintro _ _ rfl
      refine V_y (Y_not rfl) rfl rfl rfl ?_
      refine V_y (Y_move rfl) rfl rfl rfl ?_
      refine V_cut 8 (fun _ : Unit => [(0, .string s), (4, .int .u8 (x18.toNat : Int)), (6, .int .i64 (s.size : Int)), (7, .int .i64 s8), (28, .bool ((!((decide ((97 : Int) ≤ (x18.toNat : Int))) && (decide ((x18.toNat : Int) ≤ 122)))) && (!((decide ((48 : Int) ≤ (x18.toNat : Int))) && (decide ((x18.toNat : Int) ≤ 57))))))]) (fun _ w' => w = w') ?_ ?_
      · simp only [List.take, List.drop]
        rcases Bool.eq_false_or_eq_true (!((decide ((97 : Int) ≤ (x18.toNat : Int))) && (decide ((x18.toNat : Int) ≤ 122)))) with hc21 | hc21
        · refine V_ge rfl rfl rfl hc21 ?_
          refine V_y (Y_move rfl) rfl rfl rfl ?_
          refine V_ge rfl rfl rfl hc21 ?_
          refine V_y (Y_geq rfl rfl) rfl rfl rfl ?_
          refine V_ge rfl rfl rfl hc21 ?_
          refine V_y (Y_move rfl) rfl rfl rfl ?_
          refine V_cut 3 (fun _ : Unit => [(0, .string s), (4, .int .u8 (x18.toNat : Int)), (6, .int .i64 (s.size : Int)), (7, .int .i64 s8), (20, .bool (!((decide ((97 : Int) ≤ (x18.toNat : Int))) && (decide ((x18.toNat : Int) ≤ 122))))), (26, .bool ((decide ((48 : Int) ≤ (x18.toNat : Int))) && (decide ((x18.toNat : Int) ≤ 57))))]) (fun _ w' => w = w') ?_ ?_
          · simp only [List.take, List.drop]
            rcases Bool.eq_false_or_eq_true (decide ((48 : Int) ≤ (x18.toNat : Int))) with hc23 | hc23
            · refine V_ge rfl rfl rfl hc23 ?_
              refine V_y (Y_move rfl) rfl rfl rfl ?_
              refine V_ge rfl rfl rfl hc23 ?_
              refine V_y (Y_leq rfl rfl) rfl rfl rfl ?_
              refine V_ge rfl rfl rfl hc21 ?_
              refine V_y (Y_pick_te rfl hc23 rfl) rfl rfl rfl ?_
              exact V_end fun a ha => ⟨(), ha.sub ⟨rfl, rfl, rfl, rfl, rfl, (by rw [hc23]; rfl), trivial⟩, rfl⟩
            · refine V_gn rfl rfl rfl hc23 rfl rfl rfl ?_
              refine V_gn rfl rfl rfl hc23 rfl rfl rfl ?_
              refine V_ge rfl rfl rfl hc21 ?_
              refine V_y (Y_pick_fe rfl hc23 rfl) rfl rfl rfl ?_
              exact V_end fun a ha => ⟨(), ha.sub ⟨rfl, rfl, rfl, rfl, rfl, (by rw [hc23]; rfl), trivial⟩, rfl⟩
          simp only [List.take, List.drop]
          rintro _ _ rfl
          refine V_ge rfl rfl rfl hc21 ?_
          refine V_y (Y_not rfl) rfl rfl rfl ?_
          refine V_y (Y_pick_te rfl hc21 rfl) rfl rfl rfl ?_
          exact V_end fun a ha => ⟨(), ha.sub ⟨rfl, rfl, rfl, rfl, (by rw [hc21]; rfl), trivial⟩, rfl⟩
        · refine V_gn rfl rfl rfl hc21 rfl rfl rfl ?_
          refine V_gn rfl rfl rfl hc21 rfl rfl rfl ?_
          refine V_gn rfl rfl rfl hc21 rfl rfl rfl ?_
          refine V_gu rfl rfl rfl rfl rfl ?_
          refine V_gu rfl rfl rfl rfl rfl ?_
          refine V_gn rfl rfl rfl hc21 rfl rfl rfl ?_
          refine V_gn rfl rfl rfl hc21 rfl rfl rfl ?_
          refine V_y (Y_pick_fe rfl hc21 rfl) rfl rfl rfl ?_
          exact V_end fun a ha => ⟨(), ha.sub ⟨rfl, rfl, rfl, rfl, (by rw [hc21]; rfl), trivial⟩, rfl⟩
      simp only [List.take, List.drop]
      rintro _ _ rfl
      refine V_y (Y_move rfl) rfl rfl rfl ?_
      refine V_cut 3 (fun _ : Unit => [(0, .string s), (6, .int .i64 (s.size : Int)), (7, .int .i64 s8), (32, .bool (((!((decide ((97 : Int) ≤ (x18.toNat : Int))) && (decide ((x18.toNat : Int) ≤ 122)))) && (!((decide ((48 : Int) ≤ (x18.toNat : Int))) && (decide ((x18.toNat : Int) ≤ 57))))) && ((x18.toNat : Int) != 95)))]) (fun _ w' => w = w') ?_ ?_
      · simp only [List.take, List.drop]
        rcases Bool.eq_false_or_eq_true (((!((decide ((97 : Int) ≤ (x18.toNat : Int))) && (decide ((x18.toNat : Int) ≤ 122)))) && (!((decide ((48 : Int) ≤ (x18.toNat : Int))) && (decide ((x18.toNat : Int) ≤ 57)))))) with hc25 | hc25
        · refine V_ge rfl rfl rfl hc25 ?_
          refine V_y (Y_move rfl) rfl rfl rfl ?_
          refine V_ge rfl rfl rfl hc25 ?_
          refine V_y (Y_neq rfl rfl) rfl rfl rfl ?_
          refine V_y (Y_pick_te rfl hc25 rfl) rfl rfl rfl ?_
          exact V_end fun a ha => ⟨(), ha.sub ⟨rfl, rfl, rfl, (by rw [hc25]; rfl), trivial⟩, rfl⟩
        · refine V_gn rfl rfl rfl hc25 rfl rfl rfl ?_
          refine V_gn rfl rfl rfl hc25 rfl rfl rfl ?_
          refine V_y (Y_pick_fe rfl hc25 rfl) rfl rfl rfl ?_
          exact V_end fun a ha => ⟨(), ha.sub ⟨rfl, rfl, rfl, (by rw [hc25]; rfl), trivial⟩, rfl⟩
      simp only [List.take, List.drop]
      rintro _ _ rfl
      refine V_to (fun _ _ => rfl) ?_
      refine C_cond rfl (fun hc27 => ?_) (fun hc27 => ?_)
      · rw [if_pos hc27] at h11
        refine C_seq ?_
        refine C_region ?_
        refine V_y (Y_assign rfl) rfl rfl rfl ?_
        refine V_to (fun _ _ => rfl) ?_
        obtain rfl := Option.some.inj h11
        obtain rfl := (h12 : Lp.rt _ = _)
        rw [Lp.andThen_rt] at hm
        obtain rfl := Option.some.inj hm
        refine C_ret ?_
        try simp only [↓inBlock_ret, ↓then_ret]
        exact retQ rfl (Res.one Tryz.results57 rfl) ⟨rfl, rfl⟩
      · rw [if_neg (nt hc27)] at h11
        refine C_skip_to (fun _ _ => rfl) ?_
        refine C_region ?_
        refine V_y (Y_addI rfl rfl) rfl rfl rfl ?_
        refine V_y (Y_move rfl) rfl rfl rfl ?_
        obtain rfl := Option.some.inj h11
        refine V_end (fun a ha28 => ?_)
        exact ⟨w64 (s8 + 1), h12, ⟨(), ha28.sub ⟨rfl, rfl, rfl, trivial⟩, rfl⟩⟩
    · rw [if_neg (nt hc17)] at h11
      obtain rfl := Option.some.inj h11
      refine C_exit (fun a ha29 => ?_)
      exact ⟨s8, ha29.sub ⟨rfl, trivial⟩, ⟨h12.symm, rfl⟩⟩
  rintro s2 _ ⟨rfl, rfl⟩ a ha7
  rw [Lp.andThen_fin] at hm
  refine C_at (n := ⟨41, [], none⟩) (fun _ _ => rfl) ?_ ha7
  refine C_seq ?_
  refine C_region ?_
  refine V_y (Y_move rfl) rfl rfl rfl ?_
  refine V_y (Y_sneq rfl rfl) rfl rfl rfl ?_
  refine V_y (Y_move rfl) rfl rfl rfl ?_
  refine V_cut 4 (fun _ : Unit => [(40, .bool ((!(strEq s (⟨#[]⟩ : ByteArray))) && (decide ((s.size : Int) ≤ 20))))]) (fun _ w' => w = w') ?_ ?_
  · simp only [List.take, List.drop]
    rcases Bool.eq_false_or_eq_true (!(strEq s (⟨#[]⟩ : ByteArray))) with hc31 | hc31
    · refine V_ge rfl rfl rfl hc31 ?_
      refine V_y (Y_move rfl) rfl rfl rfl ?_
      refine V_ge rfl rfl rfl hc31 ?_
      refine V_y (Y_lenStr rfl Tryz.underlying9 rfl) rfl rfl rfl ?_
      refine V_ge rfl rfl rfl hc31 ?_
      refine V_y (Y_leq rfl rfl) rfl rfl rfl ?_
      refine V_y (Y_pick_te rfl hc31 rfl) rfl rfl rfl ?_
      exact V_end fun a ha => ⟨(), ha.sub ⟨(by rw [hc31]; rfl), trivial⟩, rfl⟩
    · refine V_gn rfl rfl rfl hc31 rfl rfl rfl ?_
      refine V_gn rfl rfl rfl hc31 rfl rfl rfl ?_
      refine V_gn rfl rfl rfl hc31 rfl rfl rfl ?_
      refine V_y (Y_pick_fe rfl hc31 rfl) rfl rfl rfl ?_
      exact V_end fun a ha => ⟨(), ha.sub ⟨(by rw [hc31]; rfl), trivial⟩, rfl⟩
  simp only [List.take, List.drop]
  rintro _ _ rfl
  refine V_y (Y_assign rfl) rfl rfl rfl ?_
  refine V_to (fun _ _ => rfl) ?_
  obtain rfl := Option.some.inj hm
  refine C_ret ?_
  try simp only [↓inBlock_ret, ↓then_ret]
  exact retQ rfl (Res.one Tryz.results57 rfl) ⟨rfl, rfl⟩

set_option maxRecDepth 4000 in
set_option maxHeartbeats 4000000 in
theorem level_checkTest_c (w : World) {A : Nat → Prop} (hA : ∀ b, w.heap.size ≤ b → A b) (t : level_Test) (before : Int) {r : Int} (hm : level_checkTest t before = some r) : Ret Tryz.prog 71 #[.agg #[.int .i64 t.field, .int .i64 t.value.kind, .int .i64 t.value.int, .string t.value.text], .int .i64 before] w fun v w' => v = .int .i64 r ∧ Kp Dw w w' := by
  unfold level_checkTest at hm
  refine enter Tryz.func71 rfl Tryz.ntmps71 rfl ?_
  have hA0 := hA
  have hB := Nat.le_refl w.heap.size
  have hK : Tr Dw w.heap.size A w A w := Tr.refl (Dw := Dw) hA
  have hH : Hp w.heap.size A w [] := Hp.nil
  refine C_seq ?_
  refine C_region ?_
  refine V_box rfl rfl ?_
  intro b1 w2 h3
  have hk5 := h3.kp (Dw := Dw)
  have h4 : El (α := level_Test) A w2 b1 0 t := h3.el hA ⟨[.int .i64 t.field], _, rfl, rfl, ⟨[.int .i64 t.value.kind], _, rfl, rfl, ⟨[.int .i64 t.value.int], _, rfl, rfl, rfl⟩⟩⟩
  have ht6 := Kp.tr (Dw := Dw) hk5 hA hB
  replace hH := Hp.kp (Dw := Dw) hH hk5
  replace hK := Tr.trans (Dw := Dw) hK ht6
  replace hB := Nat.le_trans hB ht6.ex.size
  replace hA := ht6.new
  refine V_y (Y_assign rfl) rfl rfl rfl ?_
  refine V_to (fun _ _ => rfl) ?_
  refine C_seq ?_
  refine C_seq ?_
  refine C_region ?_
  have h7 := El_level_Test_0 h4
  refine V_y (Y_fieldAddr Tryz.underlying51 rfl Tryz.sizeOf3 (by decide) rfl) rfl rfl rfl ?_
  refine V_y (Y_load (El.int h7) Tryz.isAgg3 rfl) rfl rfl rfl ?_
  refine V_call Tryz.call56 rfl rfl rfl rfl (level_within_c w2 t.field (-1) 19) ?_
  rintro _ _ ⟨rfl, rfl⟩
  refine V_y (Y_not rfl) rfl rfl rfl ?_
  refine V_to (fun _ _ => rfl) ?_
  refine C_cond rfl (fun hc8 => ?_) (fun hc8 => ?_)
  · rw [if_pos hc8] at hm
    refine C_seq ?_
    refine C_region ?_
    refine V_y (Y_assign rfl) rfl rfl rfl ?_
    refine V_to (fun _ _ => rfl) ?_
    obtain rfl := Option.some.inj hm
    refine C_ret ?_
    try simp only [↓inBlock_ret, ↓then_ret]
    exact retQ rfl (Res.one Tryz.results71 rfl) ⟨rfl, hK.kp⟩
  · rw [if_neg (nt hc8)] at hm
    refine C_skip_to (fun _ _ => rfl) ?_
    refine C_seq ?_
    refine C_seq ?_
    refine C_region ?_
    have h9 := El_level_Test_0 h4
    refine V_y (Y_fieldAddr Tryz.underlying51 rfl Tryz.sizeOf3 (by decide) rfl) rfl rfl rfl ?_
    refine V_y (Y_load (El.int h9) Tryz.isAgg3 rfl) rfl rfl rfl ?_
    refine V_y (Y_move rfl) rfl rfl rfl ?_
    refine V_y (Y_leq rfl rfl) rfl rfl rfl ?_
    refine V_to (fun _ _ => rfl) ?_
    refine C_cond rfl (fun hc10 => ?_) (fun hc10 => ?_)
    · rw [if_pos hc10] at hm
      refine C_seq ?_
      refine C_region ?_
      refine V_y (Y_assign rfl) rfl rfl rfl ?_
      refine V_to (fun _ _ => rfl) ?_
      obtain rfl := Option.some.inj hm
      refine C_ret ?_
      try simp only [↓inBlock_ret, ↓then_ret]
      exact retQ rfl (Res.one Tryz.results71 rfl) ⟨rfl, hK.kp⟩
    · rw [if_neg (nt hc10)] at hm
      refine C_skip_to (fun _ _ => rfl) ?_
      refine C_seq ?_
      refine C_region ?_
      have h11 := El_level_Test_1 h4
      refine V_y (Y_fieldAddr Tryz.underlying51 rfl Tryz.sizeOf49 (by decide) rfl) rfl rfl rfl ?_
      obtain ⟨h12, _⟩ := El_api_Value h11
      refine V_y (Y_loadA h12 Tryz.isAgg49 Tryz.sizeOf49 rfl) rfl rfl rfl ?_
      refine V_alloc Tryz.zeroValue49 rfl ?_
      intro b13 w14 h15
      refine V_storeNew h15 Tryz.sizeOf49 rfl rfl rfl rfl (by exact (List.forall_mem_cons.2 ⟨rfl, (List.forall_mem_cons.2 ⟨rfl, (List.forall_mem_cons.2 ⟨rfl, (fun _ h => nomatch h)⟩)⟩)⟩)) ?_
      intro w17 h18
      have hk20 := h18.kp (Dw := Dw)
      have h19 : El (α := api_Value) A w17 b13 0 t.value := h18.el hA ⟨[.int .i64 t.value.kind], _, rfl, rfl, ⟨[.int .i64 t.value.int], _, rfl, rfl, rfl⟩⟩
      have ht21 := Kp.tr (Dw := Dw) hk20 hA hB
      replace hH := Hp.kp (Dw := Dw) hH hk20
      replace h4 := El.tr (Dw := Dw) h4 ht21
      replace h11 := El.tr (Dw := Dw) h11 ht21
      replace hK := Tr.trans (Dw := Dw) hK ht21
      replace hB := Nat.le_trans hB ht21.ex.size
      replace hA := ht21.new
      refine V_to (fun _ _ => rfl) ?_
      refine C_seq ?_
      refine C_seq ?_
      refine C_region ?_
      have h22 := El_api_Value_0 h19
      refine V_y (Y_fieldAddr Tryz.underlying49 rfl Tryz.sizeOf3 (by decide) rfl) rfl rfl rfl ?_
      refine V_y (Y_load (El.int h22) Tryz.isAgg3 rfl) rfl rfl rfl ?_
      refine V_call Tryz.call56 rfl rfl rfl rfl (level_within_c w17 t.value.kind 0 6) ?_
      rintro _ _ ⟨rfl, rfl⟩
      refine V_y (Y_not rfl) rfl rfl rfl ?_
      refine V_y (Y_move rfl) rfl rfl rfl ?_
      refine V_cut 9 (fun _ : Unit => [(5, .pointer (some ⟨b13, 0, none⟩)), (31, .bool ((!(level_within t.value.kind 0 6)) || ((t.field == (-1)) && (t.value.kind != 2))))]) (fun _ w' => w17 = w') ?_ ?_
      · simp only [List.take, List.drop]
        rcases Bool.eq_false_or_eq_true (!(level_within t.value.kind 0 6)) with hc23 | hc23
        · refine V_gn rfl rfl rfl hc23 rfl rfl rfl ?_
          refine V_gn rfl rfl rfl hc23 rfl rfl rfl ?_
          refine V_gn rfl rfl rfl hc23 rfl rfl rfl ?_
          refine V_gn rfl rfl rfl hc23 rfl rfl rfl ?_
          refine V_gu rfl rfl rfl rfl rfl ?_
          refine V_gu rfl rfl rfl rfl rfl ?_
          refine V_gu rfl rfl rfl rfl rfl ?_
          refine V_gn rfl rfl rfl hc23 rfl rfl rfl ?_
          refine V_y (Y_pick_te rfl hc23 rfl) rfl rfl rfl ?_
          exact V_end fun a ha => ⟨(), ha.sub ⟨rfl, (by rw [hc23]; rfl), trivial⟩, rfl⟩
        · refine V_ge rfl rfl rfl hc23 ?_
          have h25 := El_level_Test_0 h4
          refine V_y (Y_fieldAddr Tryz.underlying51 rfl Tryz.sizeOf3 (by decide) rfl) rfl rfl rfl ?_
          refine V_ge rfl rfl rfl hc23 ?_
          refine V_y (Y_load (El.int h25) Tryz.isAgg3 rfl) rfl rfl rfl ?_
          refine V_ge rfl rfl rfl hc23 ?_
          refine V_y (Y_eql rfl rfl) rfl rfl rfl ?_
          refine V_ge rfl rfl rfl hc23 ?_
          refine V_y (Y_move rfl) rfl rfl rfl ?_
          refine V_cut 4 (fun _ : Unit => [(5, .pointer (some ⟨b13, 0, none⟩)), (22, .bool (!(level_within t.value.kind 0 6))), (30, .bool ((t.field == (-1)) && (t.value.kind != 2)))]) (fun _ w' => w17 = w') ?_ ?_
          · simp only [List.take, List.drop]
            rcases Bool.eq_false_or_eq_true (t.field == (-1)) with hc26 | hc26
            · refine V_ge rfl rfl rfl hc26 ?_
              have h28 := El_api_Value_0 h19
              refine V_y (Y_fieldAddr Tryz.underlying49 rfl Tryz.sizeOf3 (by decide) rfl) rfl rfl rfl ?_
              refine V_ge rfl rfl rfl hc26 ?_
              refine V_y (Y_load (El.int h28) Tryz.isAgg3 rfl) rfl rfl rfl ?_
              refine V_ge rfl rfl rfl hc26 ?_
              refine V_y (Y_neq rfl rfl) rfl rfl rfl ?_
              refine V_ge rfl rfl rfl hc23 ?_
              refine V_y (Y_pick_te rfl hc26 rfl) rfl rfl rfl ?_
              exact V_end fun a ha => ⟨(), ha.sub ⟨rfl, rfl, (by rw [hc26]; rfl), trivial⟩, rfl⟩
            · refine V_gn rfl rfl rfl hc26 rfl rfl rfl ?_
              refine V_gn rfl rfl rfl hc26 rfl rfl rfl ?_
              refine V_gn rfl rfl rfl hc26 rfl rfl rfl ?_
              refine V_ge rfl rfl rfl hc23 ?_
              refine V_y (Y_pick_fe rfl hc26 rfl) rfl rfl rfl ?_
              exact V_end fun a ha => ⟨(), ha.sub ⟨rfl, rfl, (by rw [hc26]; rfl), trivial⟩, rfl⟩
          simp only [List.take, List.drop]
          rintro _ _ rfl
          refine V_y (Y_pick_fe rfl hc23 rfl) rfl rfl rfl ?_
          exact V_end fun a ha => ⟨(), ha.sub ⟨rfl, (by rw [hc23]; rfl), trivial⟩, rfl⟩
      simp only [List.take, List.drop]
      rintro _ _ rfl
      refine V_to (fun _ _ => rfl) ?_
      refine C_cond rfl (fun hc29 => ?_) (fun hc29 => ?_)
      · rw [if_pos hc29] at hm
        refine C_seq ?_
        refine C_region ?_
        refine V_y (Y_assign rfl) rfl rfl rfl ?_
        refine V_to (fun _ _ => rfl) ?_
        obtain rfl := Option.some.inj hm
        refine C_ret ?_
        try simp only [↓inBlock_ret, ↓then_ret]
        exact retQ rfl (Res.one Tryz.results71 rfl) ⟨rfl, hK.kp⟩
      · rw [if_neg (nt hc29)] at hm
        refine C_skip_to (fun _ _ => rfl) ?_
        refine C_seq ?_
        refine C_seq ?_
        refine C_region ?_
        have h30 := El_api_Value_1 h19
        refine V_y (Y_fieldAddr Tryz.underlying49 rfl Tryz.sizeOf3 (by decide) rfl) rfl rfl rfl ?_
        refine V_y (Y_load (El.int h30) Tryz.isAgg3 rfl) rfl rfl rfl ?_
        refine V_y (Y_neq rfl rfl) rfl rfl rfl ?_
        refine V_y (Y_move rfl) rfl rfl rfl ?_
        refine V_cut 9 (fun _ : Unit => [(5, .pointer (some ⟨b13, 0, none⟩)), (44, .bool ((t.value.int != 0) && ((t.value.kind == 0) || (t.value.kind == 3))))]) (fun _ w' => w17 = w') ?_ ?_
        · simp only [List.take, List.drop]
          rcases Bool.eq_false_or_eq_true (t.value.int != 0) with hc31 | hc31
          · refine V_ge rfl rfl rfl hc31 ?_
            have h33 := El_api_Value_0 h19
            refine V_y (Y_fieldAddr Tryz.underlying49 rfl Tryz.sizeOf3 (by decide) rfl) rfl rfl rfl ?_
            refine V_ge rfl rfl rfl hc31 ?_
            refine V_y (Y_load (El.int h33) Tryz.isAgg3 rfl) rfl rfl rfl ?_
            refine V_ge rfl rfl rfl hc31 ?_
            refine V_y (Y_eql rfl rfl) rfl rfl rfl ?_
            refine V_ge rfl rfl rfl hc31 ?_
            refine V_y (Y_move rfl) rfl rfl rfl ?_
            refine V_cut 4 (fun _ : Unit => [(5, .pointer (some ⟨b13, 0, none⟩)), (35, .bool (t.value.int != 0)), (43, .bool ((t.value.kind == 0) || (t.value.kind == 3)))]) (fun _ w' => w17 = w') ?_ ?_
            · simp only [List.take, List.drop]
              rcases Bool.eq_false_or_eq_true (t.value.kind == 0) with hc34 | hc34
              · refine V_gn rfl rfl rfl hc34 rfl rfl rfl ?_
                refine V_gn rfl rfl rfl hc34 rfl rfl rfl ?_
                refine V_gn rfl rfl rfl hc34 rfl rfl rfl ?_
                refine V_ge rfl rfl rfl hc31 ?_
                refine V_y (Y_pick_te rfl hc34 rfl) rfl rfl rfl ?_
                exact V_end fun a ha => ⟨(), ha.sub ⟨rfl, rfl, (by rw [hc34]; rfl), trivial⟩, rfl⟩
              · refine V_ge rfl rfl rfl hc34 ?_
                have h36 := El_api_Value_0 h19
                refine V_y (Y_fieldAddr Tryz.underlying49 rfl Tryz.sizeOf3 (by decide) rfl) rfl rfl rfl ?_
                refine V_ge rfl rfl rfl hc34 ?_
                refine V_y (Y_load (El.int h36) Tryz.isAgg3 rfl) rfl rfl rfl ?_
                refine V_ge rfl rfl rfl hc34 ?_
                refine V_y (Y_eql rfl rfl) rfl rfl rfl ?_
                refine V_ge rfl rfl rfl hc31 ?_
                refine V_y (Y_pick_fe rfl hc34 rfl) rfl rfl rfl ?_
                exact V_end fun a ha => ⟨(), ha.sub ⟨rfl, rfl, (by rw [hc34]; rfl), trivial⟩, rfl⟩
            simp only [List.take, List.drop]
            rintro _ _ rfl
            refine V_y (Y_pick_te rfl hc31 rfl) rfl rfl rfl ?_
            exact V_end fun a ha => ⟨(), ha.sub ⟨rfl, (by rw [hc31]; rfl), trivial⟩, rfl⟩
          · refine V_gn rfl rfl rfl hc31 rfl rfl rfl ?_
            refine V_gn rfl rfl rfl hc31 rfl rfl rfl ?_
            refine V_gn rfl rfl rfl hc31 rfl rfl rfl ?_
            refine V_gn rfl rfl rfl hc31 rfl rfl rfl ?_
            refine V_gu rfl rfl rfl rfl rfl ?_
            refine V_gu rfl rfl rfl rfl rfl ?_
            refine V_gu rfl rfl rfl rfl rfl ?_
            refine V_gn rfl rfl rfl hc31 rfl rfl rfl ?_
            refine V_y (Y_pick_fe rfl hc31 rfl) rfl rfl rfl ?_
            exact V_end fun a ha => ⟨(), ha.sub ⟨rfl, (by rw [hc31]; rfl), trivial⟩, rfl⟩
        simp only [List.take, List.drop]
        rintro _ _ rfl
        refine V_y (Y_move rfl) rfl rfl rfl ?_
        refine V_cut 9 (fun _ : Unit => [(5, .pointer (some ⟨b13, 0, none⟩)), (54, .bool (((t.value.int != 0) && ((t.value.kind == 0) || (t.value.kind == 3))) || ((!(strEq t.value.text (⟨#[]⟩ : ByteArray))) && (t.value.kind != 3))))]) (fun _ w' => w17 = w') ?_ ?_
        · simp only [List.take, List.drop]
          rcases Bool.eq_false_or_eq_true (((t.value.int != 0) && ((t.value.kind == 0) || (t.value.kind == 3)))) with hc37 | hc37
          · refine V_gn rfl rfl rfl hc37 rfl rfl rfl ?_
            refine V_gn rfl rfl rfl hc37 rfl rfl rfl ?_
            refine V_gn rfl rfl rfl hc37 rfl rfl rfl ?_
            refine V_gn rfl rfl rfl hc37 rfl rfl rfl ?_
            refine V_gu rfl rfl rfl rfl rfl ?_
            refine V_gu rfl rfl rfl rfl rfl ?_
            refine V_gu rfl rfl rfl rfl rfl ?_
            refine V_gn rfl rfl rfl hc37 rfl rfl rfl ?_
            refine V_y (Y_pick_te rfl hc37 rfl) rfl rfl rfl ?_
            exact V_end fun a ha => ⟨(), ha.sub ⟨rfl, (by rw [hc37]; rfl), trivial⟩, rfl⟩
          · refine V_ge rfl rfl rfl hc37 ?_
            have h39 := El_api_Value_2 h19
            refine V_y (Y_fieldAddr Tryz.underlying49 rfl Tryz.sizeOf9 (by decide) rfl) rfl rfl rfl ?_
            refine V_ge rfl rfl rfl hc37 ?_
            refine V_y (Y_load (El.str h39) Tryz.isAgg9 rfl) rfl rfl rfl ?_
            refine V_ge rfl rfl rfl hc37 ?_
            refine V_y (Y_sneq rfl rfl) rfl rfl rfl ?_
            refine V_ge rfl rfl rfl hc37 ?_
            refine V_y (Y_move rfl) rfl rfl rfl ?_
            refine V_cut 4 (fun _ : Unit => [(5, .pointer (some ⟨b13, 0, none⟩)), (45, .bool ((t.value.int != 0) && ((t.value.kind == 0) || (t.value.kind == 3)))), (53, .bool ((!(strEq t.value.text (⟨#[]⟩ : ByteArray))) && (t.value.kind != 3)))]) (fun _ w' => w17 = w') ?_ ?_
            · simp only [List.take, List.drop]
              rcases Bool.eq_false_or_eq_true (!(strEq t.value.text (⟨#[]⟩ : ByteArray))) with hc40 | hc40
              · refine V_ge rfl rfl rfl hc40 ?_
                have h42 := El_api_Value_0 h19
                refine V_y (Y_fieldAddr Tryz.underlying49 rfl Tryz.sizeOf3 (by decide) rfl) rfl rfl rfl ?_
                refine V_ge rfl rfl rfl hc40 ?_
                refine V_y (Y_load (El.int h42) Tryz.isAgg3 rfl) rfl rfl rfl ?_
                refine V_ge rfl rfl rfl hc40 ?_
                refine V_y (Y_neq rfl rfl) rfl rfl rfl ?_
                refine V_ge rfl rfl rfl hc37 ?_
                refine V_y (Y_pick_te rfl hc40 rfl) rfl rfl rfl ?_
                exact V_end fun a ha => ⟨(), ha.sub ⟨rfl, rfl, (by rw [hc40]; rfl), trivial⟩, rfl⟩
              · refine V_gn rfl rfl rfl hc40 rfl rfl rfl ?_
                refine V_gn rfl rfl rfl hc40 rfl rfl rfl ?_
                refine V_gn rfl rfl rfl hc40 rfl rfl rfl ?_
                refine V_ge rfl rfl rfl hc37 ?_
                refine V_y (Y_pick_fe rfl hc40 rfl) rfl rfl rfl ?_
                exact V_end fun a ha => ⟨(), ha.sub ⟨rfl, rfl, (by rw [hc40]; rfl), trivial⟩, rfl⟩
            simp only [List.take, List.drop]
            rintro _ _ rfl
            refine V_y (Y_pick_fe rfl hc37 rfl) rfl rfl rfl ?_
            exact V_end fun a ha => ⟨(), ha.sub ⟨rfl, (by rw [hc37]; rfl), trivial⟩, rfl⟩
        simp only [List.take, List.drop]
        rintro _ _ rfl
        refine V_to (fun _ _ => rfl) ?_
        refine C_cond rfl (fun hc43 => ?_) (fun hc43 => ?_)
        · rw [if_pos hc43] at hm
          refine C_seq ?_
          refine C_region ?_
          refine V_y (Y_assign rfl) rfl rfl rfl ?_
          refine V_to (fun _ _ => rfl) ?_
          obtain rfl := Option.some.inj hm
          refine C_ret ?_
          try simp only [↓inBlock_ret, ↓then_ret]
          exact retQ rfl (Res.one Tryz.results71 rfl) ⟨rfl, hK.kp⟩
        · rw [if_neg (nt hc43)] at hm
          refine C_skip_to (fun _ _ => rfl) ?_
          refine C_seq ?_
          refine C_region ?_
          refine V_y (Y_assign rfl) rfl rfl rfl ?_
          refine V_to (fun _ _ => rfl) ?_
          refine C_seq ?_
          refine C_seq ?_
          refine C_region ?_
          have h44 := El_api_Value_0 h19
          refine V_y (Y_fieldAddr Tryz.underlying49 rfl Tryz.sizeOf3 (by decide) rfl) rfl rfl rfl ?_
          refine V_y (Y_load (El.int h44) Tryz.isAgg3 rfl) rfl rfl rfl ?_
          refine V_to (fun _ _ => rfl) ?_
          obtain ⟨s46, ho45, hm⟩ := Option.bind_eq_some_iff.1 hm
          refine C_cutG (ι := Unit) (fun (_ : Unit) => [(5, .pointer (some ⟨b13, 0, none⟩)), (6, .bool s46)]) (fun (_ : Unit) => fun w' => w17 = w') ?_ ?_
          · refine C_block ?_
            refine C_seq ?_
            refine C_region ?_
            refine V_y (Y_eql rfl rfl) rfl rfl rfl ?_
            refine V_y (Y_assign rfl) rfl rfl rfl ?_
            refine V_to (fun _ _ => rfl) ?_
            obtain ⟨s52, ho51, ho45⟩ := Option.bind_eq_some_iff.1 ho45
            refine C_cutG (ι := Unit) (fun (_ : Unit) => [(5, .pointer (some ⟨b13, 0, none⟩)), (6, .bool s52)]) (fun (_ : Unit) => fun w' => w17 = w') ?_ ?_
            · refine C_cond rfl (fun hc57 => ?_) (fun hc57 => ?_)
              · rw [if_pos hc57] at ho51
                refine C_region ?_
                have h58 := El_api_Value_1 h19
                refine V_y (Y_fieldAddr Tryz.underlying49 rfl Tryz.sizeOf3 (by decide) rfl) rfl rfl rfl ?_
                refine V_y (Y_load (El.int h58) Tryz.isAgg3 rfl) rfl rfl rfl ?_
                refine V_call Tryz.call56 rfl rfl rfl rfl (level_within_c w17 t.value.int 0 1) ?_
                rintro _ _ ⟨rfl, rfl⟩
                refine V_y (Y_assign rfl) rfl rfl rfl ?_
                obtain rfl := Option.some.inj ho51
                refine V_end (fun a ha59 => ?_)
                exact ⟨(), ha59.sub ⟨rfl, rfl, trivial⟩, rfl⟩
              · rw [if_neg (nt hc57)] at ho51
                refine C_seq ?_
                refine C_region ?_
                refine V_y (Y_eql rfl rfl) rfl rfl rfl ?_
                refine V_y (Y_assign rfl) rfl rfl rfl ?_
                refine V_to (fun _ _ => rfl) ?_
                obtain ⟨s61, ho60, ho51⟩ := Option.bind_eq_some_iff.1 ho51
                refine C_cutG (ι := Unit) (fun (_ : Unit) => [(5, .pointer (some ⟨b13, 0, none⟩)), (6, .bool s61)]) (fun (_ : Unit) => fun w' => w17 = w') ?_ ?_
                · refine C_cond rfl (fun hc66 => ?_) (fun hc66 => ?_)
                  · rw [if_pos hc66] at ho60
                    refine C_region ?_
                    have h67 := El_api_Value_1 h19
                    refine V_y (Y_fieldAddr Tryz.underlying49 rfl Tryz.sizeOf3 (by decide) rfl) rfl rfl rfl ?_
                    refine V_y (Y_load (El.int h67) Tryz.isAgg3 rfl) rfl rfl rfl ?_
                    refine V_call Tryz.call56 rfl rfl rfl rfl (level_within_c w17 t.value.int 0 19) ?_
                    rintro _ _ ⟨rfl, rfl⟩
                    refine V_y (Y_assign rfl) rfl rfl rfl ?_
                    obtain rfl := Option.some.inj ho60
                    refine V_end (fun a ha68 => ?_)
                    exact ⟨(), ha68.sub ⟨rfl, rfl, trivial⟩, rfl⟩
                  · rw [if_neg (nt hc66)] at ho60
                    refine C_seq ?_
                    refine C_region ?_
                    refine V_y (Y_eql rfl rfl) rfl rfl rfl ?_
                    refine V_y (Y_assign rfl) rfl rfl rfl ?_
                    refine V_to (fun _ _ => rfl) ?_
                    obtain ⟨s70, ho69, ho60⟩ := Option.bind_eq_some_iff.1 ho60
                    refine C_cutG (ι := Unit) (fun (_ : Unit) => [(5, .pointer (some ⟨b13, 0, none⟩)), (6, .bool s70)]) (fun (_ : Unit) => fun w' => w17 = w') ?_ ?_
                    · refine C_cond rfl (fun hc75 => ?_) (fun hc75 => ?_)
                      · rw [if_pos hc75] at ho69
                        refine C_region ?_
                        have h76 := El_api_Value_1 h19
                        refine V_y (Y_fieldAddr Tryz.underlying49 rfl Tryz.sizeOf3 (by decide) rfl) rfl rfl rfl ?_
                        refine V_y (Y_load (El.int h76) Tryz.isAgg3 rfl) rfl rfl rfl ?_
                        refine V_call Tryz.call56 rfl rfl rfl rfl (level_within_c w17 t.value.int 0 3000000) ?_
                        rintro _ _ ⟨rfl, rfl⟩
                        refine V_y (Y_assign rfl) rfl rfl rfl ?_
                        obtain rfl := Option.some.inj ho69
                        refine V_end (fun a ha77 => ?_)
                        exact ⟨(), ha77.sub ⟨rfl, rfl, trivial⟩, rfl⟩
                      · rw [if_neg (nt hc75)] at ho69
                        refine C_seq ?_
                        refine C_region ?_
                        refine V_y (Y_eql rfl rfl) rfl rfl rfl ?_
                        refine V_y (Y_assign rfl) rfl rfl rfl ?_
                        refine V_to (fun _ _ => rfl) ?_
                        obtain ⟨s79, ho78, ho69⟩ := Option.bind_eq_some_iff.1 ho69
                        refine C_cutG (ι := Unit) (fun (_ : Unit) => [(5, .pointer (some ⟨b13, 0, none⟩)), (6, .bool s79)]) (fun (_ : Unit) => fun w' => w17 = w') ?_ ?_
                        · refine C_cond rfl (fun hc84 => ?_) (fun hc84 => ?_)
                          · rw [if_pos hc84] at ho78
                            refine C_region ?_
                            have h85 := El_api_Value_1 h19
                            refine V_y (Y_fieldAddr Tryz.underlying49 rfl Tryz.sizeOf3 (by decide) rfl) rfl rfl rfl ?_
                            refine V_y (Y_load (El.int h85) Tryz.isAgg3 rfl) rfl rfl rfl ?_
                            refine V_call Tryz.call56 rfl rfl rfl rfl (level_within_c w17 t.value.int 1 40) ?_
                            rintro _ _ ⟨rfl, rfl⟩
                            refine V_y (Y_assign rfl) rfl rfl rfl ?_
                            obtain rfl := Option.some.inj ho78
                            refine V_end (fun a ha86 => ?_)
                            exact ⟨(), ha86.sub ⟨rfl, rfl, trivial⟩, rfl⟩
                          · rw [if_neg (nt hc84)] at ho78
                            obtain rfl := Option.some.inj ho78
                            refine C_skip (fun a ha87 => ?_)
                            exact ⟨(), ha87.sub ⟨rfl, rfl, trivial⟩, rfl⟩
                        rintro _ _ rfl a ha83
                        obtain rfl := Option.some.inj ho69
                        exact ⟨(), ha83.sub ⟨rfl, rfl, trivial⟩, rfl⟩
                    rintro _ _ rfl a ha74
                    obtain rfl := Option.some.inj ho60
                    exact ⟨(), ha74.sub ⟨rfl, rfl, trivial⟩, rfl⟩
                rintro _ _ rfl a ha65
                obtain rfl := Option.some.inj ho51
                exact ⟨(), ha65.sub ⟨rfl, rfl, trivial⟩, rfl⟩
            rintro _ _ rfl a ha56
            obtain rfl := Option.some.inj ho45
            exact ⟨(), ha56.sub ⟨rfl, rfl, trivial⟩, rfl⟩
          rintro _ _ rfl a ha50
          refine C_at (n := ⟨102, [], none⟩) (fun _ _ => rfl) ?_ ha50
          refine C_seq ?_
          refine C_seq ?_
          refine C_region ?_
          refine V_y (Y_move rfl) rfl rfl rfl ?_
          refine V_y (Y_not rfl) rfl rfl rfl ?_
          refine V_to (fun _ _ => rfl) ?_
          refine C_cond rfl (fun hc92 => ?_) (fun hc92 => ?_)
          · rw [if_pos hc92] at hm
            refine C_seq ?_
            refine C_region ?_
            refine V_y (Y_assign rfl) rfl rfl rfl ?_
            refine V_to (fun _ _ => rfl) ?_
            obtain rfl := Option.some.inj hm
            refine C_ret ?_
            try simp only [↓inBlock_ret, ↓then_ret]
            exact retQ rfl (Res.one Tryz.results71 rfl) ⟨rfl, hK.kp⟩
          · rw [if_neg (nt hc92)] at hm
            refine C_skip_to (fun _ _ => rfl) ?_
            refine C_seq ?_
            refine C_seq ?_
            refine C_region ?_
            have h93 := El_api_Value_2 h19
            refine V_y (Y_fieldAddr Tryz.underlying49 rfl Tryz.sizeOf9 (by decide) rfl) rfl rfl rfl ?_
            refine V_y (Y_load (El.str h93) Tryz.isAgg9 rfl) rfl rfl rfl ?_
            refine V_y (Y_lenStr rfl Tryz.underlying9 rfl) rfl rfl rfl ?_
            refine V_y (Y_gtr rfl rfl) rfl rfl rfl ?_
            refine V_to (fun _ _ => rfl) ?_
            refine C_cond rfl (fun hc94 => ?_) (fun hc94 => ?_)
            · rw [if_pos hc94] at hm
              refine C_seq ?_
              refine C_region ?_
              refine V_y (Y_assign rfl) rfl rfl rfl ?_
              refine V_to (fun _ _ => rfl) ?_
              obtain rfl := Option.some.inj hm
              refine C_ret ?_
              try simp only [↓inBlock_ret, ↓then_ret]
              exact retQ rfl (Res.one Tryz.results71 rfl) ⟨rfl, hK.kp⟩
            · rw [if_neg (nt hc94)] at hm
              refine C_skip_to (fun _ _ => rfl) ?_
              refine C_seq ?_
              refine C_seq ?_
              refine C_region ?_
              have h95 := El_api_Value_2 h19
              refine V_y (Y_fieldAddr Tryz.underlying49 rfl Tryz.sizeOf9 (by decide) rfl) rfl rfl rfl ?_
              refine V_y (Y_load (El.str h95) Tryz.isAgg9 rfl) rfl rfl rfl ?_
              refine V_y (Y_lenStr rfl Tryz.underlying9 rfl) rfl rfl rfl ?_
              refine V_y (Y_move rfl) rfl rfl rfl ?_
              refine V_to (fun _ _ => rfl) ?_
              obtain ⟨o96, ho96, hm⟩ := Option.bind_eq_some_iff.1 hm
              refine C_cutG (ι := Int) (fun (s97 : Int) => []) (fun (s97 : Int) => fun w' => o96 = .fin s97 ∧ w17 = w') ?_ ?_
              · refine C_block ?_
                refine C_while ho96 (fun s103 a w' => ∃ i : Unit, Has ⟨102, [], none⟩ a ([(5, .pointer (some ⟨b13, 0, none⟩)), (85, .int .i64 (t.value.text.size : Int)), (86, .int .i64 s103)]) ∧ w17 = w') (fun a ha => ⟨(), ha.sub ⟨rfl, rfl, rfl, trivial⟩, rfl⟩) ?_
                rintro K s103 a _ ⟨_, ha121, rfl⟩ K111
                refine C_of ?_ ha121
                obtain ⟨x105, h106, h107⟩ := K111
                refine C_seq ?_
                refine C_region ?_
                refine V_y (Y_lss rfl rfl) rfl rfl rfl ?_
                refine V_to (fun _ _ => rfl) ?_
                refine C_seq ?_
                refine C_cond rfl (fun hc112 => ?_) (fun hc112 => ?_)
                · rw [if_pos hc112] at h106
                  refine C_skip_to (fun _ _ => rfl) ?_
                  refine C_seq ?_
                  refine C_block ?_
                  refine C_seq ?_
                  refine C_region ?_
                  refine V_y (Y_move rfl) rfl rfl rfl ?_
                  refine V_y (Y_assign rfl) rfl rfl rfl ?_
                  refine V_to (fun _ _ => rfl) ?_
                  refine C_seq ?_
                  refine C_region ?_
                  have h113 := El_api_Value_2 h19
                  refine V_y (Y_fieldAddr Tryz.underlying49 rfl Tryz.sizeOf9 (by decide) rfl) rfl rfl rfl ?_
                  refine V_y (Y_load (El.str h113) Tryz.isAgg9 rfl) rfl rfl rfl ?_
                  refine V_y (Y_move rfl) rfl rfl rfl ?_
                  obtain ⟨x114, hx114, h106⟩ := Option.bind_eq_some_iff.1 h106
                  refine V_y (Y_indexS hx114 Tryz.underlying9 rfl rfl) rfl rfl rfl ?_
                  refine V_y (Y_lss rfl rfl) rfl rfl rfl ?_
                  refine V_y (Y_move rfl) rfl rfl rfl ?_
                  obtain ⟨s116, hs116, h106⟩ := Option.bind_eq_some_iff.1 h106
                  refine V_cut 6 (fun _ : Unit => [(5, .pointer (some ⟨b13, 0, none⟩)), (85, .int .i64 (t.value.text.size : Int)), (86, .int .i64 s103), (100, .bool s116)]) (fun _ w' => w17 = w') ?_ ?_
                  · simp only [List.take, List.drop]
                    rcases Bool.eq_false_or_eq_true (decide ((x114.toNat : Int) < 32)) with hc115 | hc115
                    · rw [if_pos hc115] at hs116
                      refine V_gn rfl rfl rfl hc115 rfl rfl rfl ?_
                      refine V_gn rfl rfl rfl hc115 rfl rfl rfl ?_
                      refine V_gn rfl rfl rfl hc115 rfl rfl rfl ?_
                      refine V_gn rfl rfl rfl hc115 rfl rfl rfl ?_
                      refine V_gn rfl rfl rfl hc115 rfl rfl rfl ?_
                      refine V_y (Y_pick_te rfl hc115 rfl) rfl rfl rfl ?_
                      obtain rfl := Option.some.inj hs116
                      exact V_end fun a ha => ⟨(), ha.sub ⟨rfl, rfl, rfl, rfl, trivial⟩, rfl⟩
                    · rw [if_neg (nt hc115)] at hs116
                      refine V_ge rfl rfl rfl hc115 ?_
                      have h117 := El_api_Value_2 h19
                      refine V_y (Y_fieldAddr Tryz.underlying49 rfl Tryz.sizeOf9 (by decide) rfl) rfl rfl rfl ?_
                      refine V_ge rfl rfl rfl hc115 ?_
                      refine V_y (Y_load (El.str h117) Tryz.isAgg9 rfl) rfl rfl rfl ?_
                      refine V_ge rfl rfl rfl hc115 ?_
                      refine V_y (Y_move rfl) rfl rfl rfl ?_
                      refine V_ge rfl rfl rfl hc115 ?_
                      refine V_y (Y_indexS hx114 Tryz.underlying9 rfl rfl) rfl rfl rfl ?_
                      refine V_ge rfl rfl rfl hc115 ?_
                      refine V_y (Y_eql rfl rfl) rfl rfl rfl ?_
                      refine V_y (Y_pick_fe rfl hc115 rfl) rfl rfl rfl ?_
                      obtain rfl := Option.some.inj hs116
                      exact V_end fun a ha => ⟨(), ha.sub ⟨rfl, rfl, rfl, rfl, trivial⟩, rfl⟩
                  simp only [List.take, List.drop]
                  rintro _ _ rfl
                  refine V_to (fun _ _ => rfl) ?_
                  refine C_cond rfl (fun hc118 => ?_) (fun hc118 => ?_)
                  · rw [if_pos hc118] at h106
                    refine C_seq ?_
                    refine C_region ?_
                    refine V_y (Y_assign rfl) rfl rfl rfl ?_
                    refine V_to (fun _ _ => rfl) ?_
                    obtain rfl := Option.some.inj h106
                    obtain rfl := (h107 : Lp.rt _ = _)
                    rw [Lp.andThen_rt] at hm
                    obtain rfl := Option.some.inj hm
                    refine C_ret ?_
                    try simp only [↓inBlock_ret, ↓then_ret]
                    exact retQ rfl (Res.one Tryz.results71 rfl) ⟨rfl, hK.kp⟩
                  · rw [if_neg (nt hc118)] at h106
                    refine C_skip_to (fun _ _ => rfl) ?_
                    refine C_region ?_
                    refine V_y (Y_addI rfl rfl) rfl rfl rfl ?_
                    refine V_y (Y_move rfl) rfl rfl rfl ?_
                    obtain rfl := Option.some.inj h106
                    refine V_end (fun a ha119 => ?_)
                    exact ⟨w64 (s103 + 1), h107, ⟨(), ha119.sub ⟨rfl, rfl, rfl, trivial⟩, rfl⟩⟩
                · rw [if_neg (nt hc112)] at h106
                  obtain rfl := Option.some.inj h106
                  refine C_exit (fun a ha120 => ?_)
                  exact ⟨s103, ha120.sub trivial, ⟨h107.symm, rfl⟩⟩
              rintro s97 _ ⟨rfl, rfl⟩ a ha102
              rw [Lp.andThen_fin] at hm
              refine C_at (n := ⟨102, [], none⟩) (fun _ _ => rfl) ?_ ha102
              refine C_seq ?_
              refine C_region ?_
              refine V_y (Y_assign rfl) rfl rfl rfl ?_
              refine V_to (fun _ _ => rfl) ?_
              obtain rfl := Option.some.inj hm
              refine C_ret ?_
              try simp only [↓inBlock_ret, ↓then_ret]
              exact retQ rfl (Res.one Tryz.results71 rfl) ⟨rfl, hK.kp⟩

set_option maxRecDepth 4000 in
set_option maxHeartbeats 4000000 in
theorem level_checkLevel_c (w : World) {A : Nat → Prop} (hA : ∀ b, w.heap.size ≤ b → A b) (l : level_Level) (v_l0 : Value) (h_l0 : Sl A w v_l0 l.tests) (v_l1 : Value) (h_l1 : Sl A w v_l1 l.targets) {r : Int} (hm : level_checkLevel l = some r) : Ret Tryz.prog 58 #[.agg #[.string l.name, v_l0, v_l1]] w fun v w' => v = .int .i64 r ∧ Kp Dw w w' := by
  unfold level_checkLevel at hm
  refine enter Tryz.func58 rfl Tryz.ntmps58 rfl ?_
  have hA0 := hA
  have hB := Nat.le_refl w.heap.size
  have hK : Tr Dw w.heap.size A w A w := Tr.refl (Dw := Dw) hA
  have hH : Hp w.heap.size A w [] := Hp.nil
  refine C_seq ?_
  refine C_region ?_
  refine V_box rfl rfl ?_
  intro b5 w6 h7
  have hk9 := h7.kp (Dw := Dw)
  have h8 : El (α := level_Level) A w6 b5 0 l := h7.el hA ⟨[.string l.name], _, rfl, rfl, ⟨[v_l0], _, rfl, ⟨_, rfl, h_l0⟩, ⟨_, rfl, h_l1⟩⟩⟩
  have ht10 := Kp.tr (Dw := Dw) hk9 hA hB
  replace hH := Hp.kp (Dw := Dw) hH hk9
  replace h_l0 := Sl.tr (Dw := Dw) h_l0 ht10
  replace h_l1 := Sl.tr (Dw := Dw) h_l1 ht10
  replace hK := Tr.trans (Dw := Dw) hK ht10
  replace hB := Nat.le_trans hB ht10.ex.size
  replace hA := ht10.new
  refine V_y (Y_assign rfl) rfl rfl rfl ?_
  refine V_to (fun _ _ => rfl) ?_
  refine C_seq ?_
  refine C_seq ?_
  refine C_region ?_
  have h11 := El_level_Level_1 h8
  refine V_y (Y_fieldAddr Tryz.underlying46 rfl Tryz.sizeOf43 (by decide) rfl) rfl rfl rfl ?_
  obtain ⟨v12, h13, h14⟩ := El.list h11
  refine V_y (Y_load h13 Tryz.isAgg43 rfl) rfl rfl rfl ?_
  refine V_y (Y_lenSl h14 rfl Tryz.underlying43 rfl) rfl rfl rfl ?_
  refine V_y (Y_gtr rfl rfl) rfl rfl rfl ?_
  refine V_to (fun _ _ => rfl) ?_
  refine C_cond rfl (fun hc15 => ?_) (fun hc15 => ?_)
  · rw [if_pos hc15] at hm
    refine C_seq ?_
    refine C_region ?_
    refine V_y (Y_assign rfl) rfl rfl rfl ?_
    refine V_to (fun _ _ => rfl) ?_
    obtain rfl := Option.some.inj hm
    refine C_ret ?_
    try simp only [↓inBlock_ret, ↓then_ret]
    exact retQ rfl (Res.one Tryz.results58 rfl) ⟨rfl, hK.kp⟩
  · rw [if_neg (nt hc15)] at hm
    refine C_skip_to (fun _ _ => rfl) ?_
    refine C_seq ?_
    refine C_region ?_
    refine V_y (Y_assign rfl) rfl rfl rfl ?_
    refine V_to (fun _ _ => rfl) ?_
    refine C_seq ?_
    refine C_seq ?_
    refine C_region ?_
    have h16 := El_level_Level_1 h8
    refine V_y (Y_fieldAddr Tryz.underlying46 rfl Tryz.sizeOf43 (by decide) rfl) rfl rfl rfl ?_
    obtain ⟨v17, h18, h19⟩ := El.list h16
    refine V_y (Y_load h18 Tryz.isAgg43 rfl) rfl rfl rfl ?_
    refine V_y (Y_lenSl h19 rfl Tryz.underlying43 rfl) rfl rfl rfl ?_
    refine V_y (Y_move rfl) rfl rfl rfl ?_
    refine V_to (fun _ _ => rfl) ?_
    have hn40 := Sl.le h19
    obtain ⟨o20, ho20, hm⟩ := Option.bind_eq_some_iff.1 hm
    refine C_cutG (ι := (Int × (Nat → Prop))) (fun ⟨s21, A27⟩ => [(1, .pointer (some ⟨b5, 0, none⟩))]) (fun ⟨s21, A27⟩ => fun w' => o20 = .fin s21 ∧ Hp w.heap.size A27 w' ([]) ∧ Tr Dw w.heap.size A w6 A27 w') ?_ ?_
    · refine C_block ?_
      refine C_range ho20 (fun k23 s29 a w' => ∃ i : (Nat → Prop), Has ⟨68, [], none⟩ a ([(1, .pointer (some ⟨b5, 0, none⟩)), (3, .int .i64 s29), (14, v17), (15, .int .i64 (l.tests.length : Int)), (16, .int .i64 (k23 : Int))]) ∧ Hp w.heap.size i w' ([]) ∧ Tr Dw w.heap.size A w6 i w') (fun a ha => ⟨A, ha.sub ⟨rfl, rfl, rfl, rfl, rfl, trivial⟩, ⟨hH, Tr.refl (Dw := Dw) hA⟩⟩) ?_
      rintro K k23 s29 a w30 ⟨A31, ha64, hH32, hr22⟩ hle36 K39 h38
      refine C_of ?_ ha64
      replace h8 := El.tr (Dw := Dw) h8 hr22
      replace h19 := Sl.tr (Dw := Dw) h19 hr22
      replace hK := Tr.trans (Dw := Dw) hK hr22
      replace hB := Nat.le_trans hB hr22.ex.size
      replace hA := hr22.new
      replace hH : Hp w.heap.size A31 w30 ([]) := hH32
      refine C_seq (C_region (V_y (Y_lss rfl rfl) rfl rfl rfl (V_to (fun _ _ => rfl) ?_)))
      refine C_seq ?_
      refine C_cond rfl (fun hc41 => ?_) (fun hc41 => ?_)
      · have hlt37 := lt_of_dec hc41
        obtain ⟨x33, h34, h35⟩ := K39 hlt37
        refine C_skip_to (fun _ _ => rfl) ?_
        refine C_seq ?_
        refine C_block ?_
        refine C_seq ?_
        refine C_region ?_
        obtain ⟨x42, hx42, h34⟩ := Option.bind_eq_some_iff.1 h34
        refine V_indexAddr h19 hx42 Tryz.underlying43 Tryz.sizeOf51 rfl rfl rfl ?_
        intro b43 o44 h45
        obtain ⟨h46, _⟩ := El_level_Test h45
        refine V_y (Y_loadA h46 Tryz.isAgg51 Tryz.sizeOf51 rfl) rfl rfl rfl ?_
        refine V_alloc Tryz.zeroValue51 rfl ?_
        intro b47 w48 h49
        refine V_storeNew h49 Tryz.sizeOf51 rfl rfl rfl rfl (by exact (List.forall_mem_cons.2 ⟨rfl, (List.forall_mem_cons.2 ⟨rfl, (List.forall_mem_cons.2 ⟨rfl, (List.forall_mem_cons.2 ⟨rfl, (fun _ h => nomatch h)⟩)⟩)⟩)⟩)) ?_
        intro w50 h51
        have hk53 := h51.kp (Dw := Dw)
        have h52 : El (α := level_Test) A31 w50 b47 0 x42 := h51.el hA ⟨[.int .i64 x42.field], _, rfl, rfl, ⟨[.int .i64 x42.value.kind], _, rfl, rfl, ⟨[.int .i64 x42.value.int], _, rfl, rfl, rfl⟩⟩⟩
        have ht54 := Kp.tr (Dw := Dw) hk53 hA hB
        replace hH := Hp.kp (Dw := Dw) hH hk53
        replace h8 := El.tr (Dw := Dw) h8 ht54
        replace h19 := Sl.tr (Dw := Dw) h19 ht54
        replace h45 := El.tr (Dw := Dw) h45 ht54
        replace hK := Tr.trans (Dw := Dw) hK ht54
        replace hr22 := Tr.trans (Dw := Dw) hr22 ht54
        replace hB := Nat.le_trans hB ht54.ex.size
        replace hA := ht54.new
        refine V_to (fun _ _ => rfl) ?_
        refine C_seq ?_
        refine C_seq ?_
        refine C_region ?_
        obtain ⟨h55, _⟩ := El_level_Test h52
        refine V_y (Y_loadA h55 Tryz.isAgg51 Tryz.sizeOf51 rfl) rfl rfl rfl ?_
        refine V_y (Y_move rfl) rfl rfl rfl ?_
        obtain ⟨x56, hx56, h34⟩ := Option.bind_eq_some_iff.1 h34
        refine V_call Tryz.call71 rfl rfl rfl rfl (level_checkTest_c (Dw := Dw) w50 hA x42 s29 hx56) ?_
        rintro _ w57 ⟨rfl, hk58⟩
        have ht59 := Kp.tr (Dw := Dw) hk58 hA hB
        replace hH := Hp.kp (Dw := Dw) hH hk58
        replace h8 := El.tr (Dw := Dw) h8 ht59
        replace h19 := Sl.tr (Dw := Dw) h19 ht59
        replace h52 := El.tr (Dw := Dw) h52 ht59
        replace hK := Tr.trans (Dw := Dw) hK ht59
        replace hr22 := Tr.trans (Dw := Dw) hr22 ht59
        replace hB := Nat.le_trans hB ht59.ex.size
        replace hA := ht59.new
        refine V_y (Y_assign rfl) rfl rfl rfl ?_
        refine V_to (fun _ _ => rfl) ?_
        refine C_seq ?_
        refine C_region ?_
        refine V_y (Y_move rfl) rfl rfl rfl ?_
        refine V_y (Y_neq rfl rfl) rfl rfl rfl ?_
        refine V_to (fun _ _ => rfl) ?_
        refine C_cond rfl (fun hc60 => ?_) (fun hc60 => ?_)
        · rw [if_pos hc60] at h34
          refine C_seq ?_
          refine C_region ?_
          refine V_y (Y_move rfl) rfl rfl rfl ?_
          refine V_y (Y_assign rfl) rfl rfl rfl ?_
          refine V_to (fun _ _ => rfl) ?_
          obtain rfl := Option.some.inj h34
          obtain rfl := (h35 : Lp.rt _ = _)
          rw [Lp.andThen_rt] at hm
          obtain rfl := Option.some.inj hm
          refine C_ret ?_
          try simp only [↓inBlock_ret, ↓then_ret]
          exact retQ rfl (Res.one Tryz.results58 rfl) ⟨rfl, hK.kp⟩
        · rw [if_neg (nt hc60)] at h34
          refine C_skip_to (fun _ _ => rfl) ?_
          refine C_region ?_
          have h61 := El_level_Test_0 h52
          refine V_y (Y_fieldAddr Tryz.underlying51 rfl Tryz.sizeOf3 (by decide) rfl) rfl rfl rfl ?_
          refine V_y (Y_load (El.int h61) Tryz.isAgg3 rfl) rfl rfl rfl ?_
          refine V_y (Y_assign rfl) rfl rfl rfl ?_
          refine V_to (fun _ _ => rfl) ?_
          refine C_region ?_
          refine V_y (Y_addI rfl rfl) rfl rfl rfl ?_
          refine V_y (Y_move rfl) rfl rfl rfl ?_
          obtain rfl := Option.some.inj h34
          refine V_end (fun a ha62 => ?_)
          exact ⟨x42.field, hlt37, h35, ⟨A31, ha62.sub ⟨rfl, rfl, rfl, rfl, (congrArg (fun z => some (Value.int .i64 z)) (w64_succ hlt37 hn40)), trivial⟩, ⟨hH, hr22⟩⟩⟩
      · refine C_exit (fun a ha63 => ?_)
        exact ⟨(s29, A31), ha63.sub ⟨rfl, trivial⟩, ⟨(h38 (eq_of_dec hle36 hc41)).symm, hH, hr22⟩⟩
    rintro ⟨s21, A27⟩ w24 ⟨rfl, hH28, hk25⟩ a ha26
    rw [Lp.andThen_fin] at hm
    replace h8 := El.tr (Dw := Dw) h8 hk25
    replace hK := Tr.trans (Dw := Dw) hK hk25
    replace hB := Nat.le_trans hB hk25.ex.size
    replace hA := hk25.new
    replace hH : Hp w.heap.size A27 w24 ([]) := hH28
    refine C_at (n := ⟨68, [], none⟩) (fun _ _ => rfl) ?_ ha26
    refine C_seq ?_
    refine C_seq ?_
    refine C_region ?_
    have h65 := El_level_Level_2 h8
    refine V_y (Y_fieldAddr Tryz.underlying46 rfl Tryz.sizeOf44 (by decide) rfl) rfl rfl rfl ?_
    obtain ⟨v66, h67, h68⟩ := El.list h65
    refine V_y (Y_load h67 Tryz.isAgg44 rfl) rfl rfl rfl ?_
    refine V_y (Y_lenSl h68 rfl Tryz.underlying44 rfl) rfl rfl rfl ?_
    refine V_y (Y_move rfl) rfl rfl rfl ?_
    refine V_to (fun _ _ => rfl) ?_
    have hn89 := Sl.le h68
    obtain ⟨o69, ho69, hm⟩ := Option.bind_eq_some_iff.1 hm
    refine C_cutG (ι := (Unit × (Nat → Prop))) (fun ⟨s70, A76⟩ => []) (fun ⟨s70, A76⟩ => fun w' => o69 = .fin s70 ∧ Hp w.heap.size A76 w' ([]) ∧ Tr Dw w.heap.size A27 w24 A76 w') ?_ ?_
    · refine C_block ?_
      refine C_range ho69 (fun k72 _ a w' => ∃ i : (Nat → Prop), Has ⟨68, [], none⟩ a ([(1, .pointer (some ⟨b5, 0, none⟩)), (30, v66), (31, .int .i64 (l.targets.length : Int)), (32, .int .i64 (k72 : Int))]) ∧ Hp w.heap.size i w' ([]) ∧ Tr Dw w.heap.size A27 w24 i w') (fun a ha => ⟨A27, ha.sub ⟨rfl, rfl, rfl, rfl, trivial⟩, ⟨hH, Tr.refl (Dw := Dw) hA⟩⟩) ?_
      rintro K k72 _ a w79 ⟨A80, ha130, hH81, hr71⟩ hle85 K88 h87
      refine C_of ?_ ha130
      replace h8 := El.tr (Dw := Dw) h8 hr71
      replace h68 := Sl.tr (Dw := Dw) h68 hr71
      replace hK := Tr.trans (Dw := Dw) hK hr71
      replace hB := Nat.le_trans hB hr71.ex.size
      replace hA := hr71.new
      replace hH : Hp w.heap.size A80 w79 ([]) := hH81
      refine C_seq (C_region (V_y (Y_lss rfl rfl) rfl rfl rfl (V_to (fun _ _ => rfl) ?_)))
      refine C_seq ?_
      refine C_cond rfl (fun hc90 => ?_) (fun hc90 => ?_)
      · have hlt86 := lt_of_dec hc90
        obtain ⟨x82, h83, h84⟩ := K88 hlt86
        refine C_skip_to (fun _ _ => rfl) ?_
        refine C_seq ?_
        refine C_block ?_
        refine C_seq ?_
        refine C_region ?_
        refine V_y (Y_move rfl) rfl rfl rfl ?_
        obtain ⟨x91, hx91, h83⟩ := Option.bind_eq_some_iff.1 h83
        refine V_indexAddr h68 hx91 Tryz.underlying44 Tryz.sizeOf56 rfl rfl rfl ?_
        intro b92 o93 h94
        obtain ⟨h95, _⟩ := El_level_Target h94
        refine V_y (Y_loadA h95 Tryz.isAgg56 Tryz.sizeOf56 rfl) rfl rfl rfl ?_
        refine V_alloc Tryz.zeroValue56 rfl ?_
        intro b96 w97 h98
        refine V_y (Y_assign rfl) rfl rfl rfl ?_
        refine V_storeNew h98 Tryz.sizeOf56 rfl rfl rfl rfl (by exact (List.forall_mem_cons.2 ⟨rfl, (List.forall_mem_cons.2 ⟨rfl, (List.forall_mem_cons.2 ⟨rfl, (fun _ h => nomatch h)⟩)⟩)⟩)) ?_
        intro w99 h100
        have hk102 := h100.kp (Dw := Dw)
        have h101 : El (α := level_Target) A80 w99 b96 0 x91 := h100.el hA ⟨[.int .i64 x91.kind], _, rfl, rfl, ⟨[.int .i64 x91.minutes], _, rfl, rfl, rfl⟩⟩
        have ht103 := Kp.tr (Dw := Dw) hk102 hA hB
        replace hH := Hp.kp (Dw := Dw) hH hk102
        replace h8 := El.tr (Dw := Dw) h8 ht103
        replace h68 := Sl.tr (Dw := Dw) h68 ht103
        replace h94 := El.tr (Dw := Dw) h94 ht103
        replace hK := Tr.trans (Dw := Dw) hK ht103
        replace hr71 := Tr.trans (Dw := Dw) hr71 ht103
        replace hB := Nat.le_trans hB ht103.ex.size
        replace hA := ht103.new
        refine V_to (fun _ _ => rfl) ?_
        refine C_seq ?_
        refine C_seq ?_
        refine C_region ?_
        have h104 := El_level_Target_0 h101
        refine V_y (Y_fieldAddr Tryz.underlying56 rfl Tryz.sizeOf3 (by decide) rfl) rfl rfl rfl ?_
        refine V_y (Y_load (El.int h104) Tryz.isAgg3 rfl) rfl rfl rfl ?_
        refine V_call Tryz.call56 rfl rfl rfl rfl (level_within_c w99 x91.kind 1 3) ?_
        rintro _ _ ⟨rfl, rfl⟩
        refine V_y (Y_not rfl) rfl rfl rfl ?_
        refine V_y (Y_move rfl) rfl rfl rfl ?_
        refine V_cut 5 (fun _ : Unit => [(1, .pointer (some ⟨b5, 0, none⟩)), (7, .int .i64 (k72 : Int)), (8, .pointer (some ⟨b96, 0, none⟩)), (30, v66), (31, .int .i64 (l.targets.length : Int)), (32, .int .i64 (k72 : Int)), (46, .bool ((!(level_within x91.kind 1 3)) || (!(level_within x91.minutes 0 100000))))]) (fun _ w' => w99 = w') ?_ ?_
        · simp only [List.take, List.drop]
          rcases Bool.eq_false_or_eq_true (!(level_within x91.kind 1 3)) with hc105 | hc105
          · refine V_gn rfl rfl rfl hc105 rfl rfl rfl ?_
            refine V_gn rfl rfl rfl hc105 rfl rfl rfl ?_
            refine V_gn rfl rfl rfl hc105 rfl rfl rfl ?_
            refine V_gn rfl rfl rfl hc105 rfl rfl rfl ?_
            refine V_y (Y_pick_te rfl hc105 rfl) rfl rfl rfl ?_
            exact V_end fun a ha => ⟨(), ha.sub ⟨rfl, rfl, rfl, rfl, rfl, rfl, (by rw [hc105]; rfl), trivial⟩, rfl⟩
          · refine V_ge rfl rfl rfl hc105 ?_
            have h107 := El_level_Target_1 h101
            refine V_y (Y_fieldAddr Tryz.underlying56 rfl Tryz.sizeOf3 (by decide) rfl) rfl rfl rfl ?_
            refine V_ge rfl rfl rfl hc105 ?_
            refine V_y (Y_load (El.int h107) Tryz.isAgg3 rfl) rfl rfl rfl ?_
            refine V_ge rfl rfl rfl hc105 ?_
            refine V_call Tryz.call56 rfl rfl rfl rfl (level_within_c w99 x91.minutes 0 100000) ?_
            rintro _ _ ⟨rfl, rfl⟩
            refine V_ge rfl rfl rfl hc105 ?_
            refine V_y (Y_not rfl) rfl rfl rfl ?_
            refine V_y (Y_pick_fe rfl hc105 rfl) rfl rfl rfl ?_
            exact V_end fun a ha => ⟨(), ha.sub ⟨rfl, rfl, rfl, rfl, rfl, rfl, (by rw [hc105]; rfl), trivial⟩, rfl⟩
        simp only [List.take, List.drop]
        rintro _ _ rfl
        refine V_y (Y_move rfl) rfl rfl rfl ?_
        refine V_cut 5 (fun _ : Unit => [(1, .pointer (some ⟨b5, 0, none⟩)), (7, .int .i64 (k72 : Int)), (8, .pointer (some ⟨b96, 0, none⟩)), (30, v66), (31, .int .i64 (l.targets.length : Int)), (32, .int .i64 (k72 : Int)), (52, .bool (((!(level_within x91.kind 1 3)) || (!(level_within x91.minutes 0 100000))) || (!(level_within x91.calendar 0 19))))]) (fun _ w' => w99 = w') ?_ ?_
        · simp only [List.take, List.drop]
          rcases Bool.eq_false_or_eq_true (((!(level_within x91.kind 1 3)) || (!(level_within x91.minutes 0 100000)))) with hc108 | hc108
          · refine V_gn rfl rfl rfl hc108 rfl rfl rfl ?_
            refine V_gn rfl rfl rfl hc108 rfl rfl rfl ?_
            refine V_gn rfl rfl rfl hc108 rfl rfl rfl ?_
            refine V_gn rfl rfl rfl hc108 rfl rfl rfl ?_
            refine V_y (Y_pick_te rfl hc108 rfl) rfl rfl rfl ?_
            exact V_end fun a ha => ⟨(), ha.sub ⟨rfl, rfl, rfl, rfl, rfl, rfl, (by rw [hc108]; rfl), trivial⟩, rfl⟩
          · refine V_ge rfl rfl rfl hc108 ?_
            have h110 := El_level_Target_2 h101
            refine V_y (Y_fieldAddr Tryz.underlying56 rfl Tryz.sizeOf3 (by decide) rfl) rfl rfl rfl ?_
            refine V_ge rfl rfl rfl hc108 ?_
            refine V_y (Y_load (El.int h110) Tryz.isAgg3 rfl) rfl rfl rfl ?_
            refine V_ge rfl rfl rfl hc108 ?_
            refine V_call Tryz.call56 rfl rfl rfl rfl (level_within_c w99 x91.calendar 0 19) ?_
            rintro _ _ ⟨rfl, rfl⟩
            refine V_ge rfl rfl rfl hc108 ?_
            refine V_y (Y_not rfl) rfl rfl rfl ?_
            refine V_y (Y_pick_fe rfl hc108 rfl) rfl rfl rfl ?_
            exact V_end fun a ha => ⟨(), ha.sub ⟨rfl, rfl, rfl, rfl, rfl, rfl, (by rw [hc108]; rfl), trivial⟩, rfl⟩
        simp only [List.take, List.drop]
        rintro _ _ rfl
        refine V_to (fun _ _ => rfl) ?_
        refine C_cond rfl (fun hc111 => ?_) (fun hc111 => ?_)
        · rw [if_pos hc111] at h83
          refine C_seq ?_
          refine C_region ?_
          refine V_y (Y_assign rfl) rfl rfl rfl ?_
          refine V_to (fun _ _ => rfl) ?_
          obtain rfl := Option.some.inj h83
          obtain rfl := (h84 : Lp.rt _ = _)
          rw [Lp.andThen_rt] at hm
          obtain rfl := Option.some.inj hm
          refine C_ret ?_
          try simp only [↓inBlock_ret, ↓then_ret]
          exact retQ rfl (Res.one Tryz.results58 rfl) ⟨rfl, hK.kp⟩
        · rw [if_neg (nt hc111)] at h83
          refine C_skip_to (fun _ _ => rfl) ?_
          refine C_seq ?_
          refine C_region_q (Dw := Dw) Tryz_mixed (by kernel_rfl) ?_
          refine VQ_y (fun w' hw' => Y_move rfl) rfl rfl rfl ?_
          refine VQ_y (fun w' hw' => Y_gtr rfl rfl) rfl rfl rfl ?_
          refine VQ_y (fun w' hw' => Y_move rfl) rfl rfl rfl ?_
          obtain ⟨s113, hs113, h83⟩ := Option.bind_eq_some_iff.1 h83
          refine VQ_cut 11 (fun _ : Unit => [(1, .pointer (some ⟨b5, 0, none⟩)), (30, v66), (31, .int .i64 (l.targets.length : Int)), (32, .int .i64 (k72 : Int)), (66, .bool s113)]) (fun _ => True) ?_ ?_
          · simp only [List.take, List.drop]
            rcases Bool.eq_false_or_eq_true (decide ((0 : Int) < (k72 : Int))) with hc112 | hc112
            · rw [if_pos hc112] at hs113
              refine VQ_ge rfl rfl rfl hc112 ?_
              have h114 := El_level_Target_0 h101
              refine VQ_y (fun w' hw' => Y_fieldAddr Tryz.underlying56 rfl Tryz.sizeOf3 (by decide) rfl) rfl rfl rfl ?_
              refine VQ_ge rfl rfl rfl hc112 ?_
              refine VQ_y (fun w' hw' => Y_load (El.int (El.kp (Dw := Dw) h114 hw')) Tryz.isAgg3 rfl) rfl rfl rfl ?_
              refine VQ_ge rfl rfl rfl hc112 ?_
              have h115 := El_level_Level_2 h8
              refine VQ_y (fun w' hw' => Y_fieldAddr Tryz.underlying46 rfl Tryz.sizeOf44 (by decide) rfl) rfl rfl rfl ?_
              refine VQ_ge rfl rfl rfl hc112 ?_
              obtain ⟨v116, h117, h118⟩ := El.list h115
              refine VQ_y (fun w' hw' => Y_load ((World.cell?_of_block (hw'.block _ (World.block_lt_of_cell? _ _ h117))).trans h117) Tryz.isAgg44 rfl) rfl rfl rfl ?_
              refine VQ_ge rfl rfl rfl hc112 ?_
              refine VQ_y (fun w' hw' => Y_move rfl) rfl rfl rfl ?_
              refine VQ_ge rfl rfl rfl hc112 ?_
              refine VQ_y (fun w' hw' => Y_subI rfl rfl) rfl rfl rfl ?_
              refine VQ_ge rfl rfl rfl hc112 ?_
              obtain ⟨x119, hx119, hs113⟩ := Option.bind_eq_some_iff.1 hs113
              refine VQ_indexAddr h118 hx119 Tryz.underlying44 Tryz.sizeOf56 rfl rfl rfl ?_
              intro b120 o121 h122
              refine VQ_ge rfl rfl rfl hc112 ?_
              have h123 := El_level_Target_0 h122
              refine VQ_y (fun w' hw' => Y_fieldAddr Tryz.underlying56 rfl Tryz.sizeOf3 (by decide) rfl) rfl rfl rfl ?_
              refine VQ_ge rfl rfl rfl hc112 ?_
              refine VQ_y (fun w' hw' => Y_load (El.int (El.kp (Dw := Dw) h123 hw')) Tryz.isAgg3 rfl) rfl rfl rfl ?_
              refine VQ_ge rfl rfl rfl hc112 ?_
              refine VQ_y (fun w' hw' => Y_leq rfl rfl) rfl rfl rfl ?_
              refine VQ_y (fun _ _ => Y_pick_te rfl hc112 rfl) rfl rfl rfl ?_
              obtain rfl := Option.some.inj hs113
              exact VQ_end fun a ha => ⟨(), ha.sub ⟨rfl, rfl, rfl, rfl, rfl, trivial⟩, trivial⟩
            · rw [if_neg (nt hc112)] at hs113
              refine VQ_gn rfl rfl rfl hc112 rfl rfl rfl ?_
              refine VQ_gn rfl rfl rfl hc112 rfl rfl rfl ?_
              refine VQ_gn rfl rfl rfl hc112 rfl rfl rfl ?_
              refine VQ_gn rfl rfl rfl hc112 rfl rfl rfl ?_
              refine VQ_gn rfl rfl rfl hc112 rfl rfl rfl ?_
              refine VQ_gn rfl rfl rfl hc112 rfl rfl rfl ?_
              refine VQ_gn rfl rfl rfl hc112 rfl rfl rfl ?_
              refine VQ_gn rfl rfl rfl hc112 rfl rfl rfl ?_
              refine VQ_gn rfl rfl rfl hc112 rfl rfl rfl ?_
              refine VQ_gn rfl rfl rfl hc112 rfl rfl rfl ?_
              refine VQ_y (fun _ _ => Y_pick_fe rfl hc112 rfl) rfl rfl rfl ?_
              obtain rfl := Option.some.inj hs113
              exact VQ_end fun a ha => ⟨(), ha.sub ⟨rfl, rfl, rfl, rfl, rfl, trivial⟩, trivial⟩
          simp only [List.take, List.drop]
          rintro _ _
          refine VQ_to (fun _ _ => rfl) (fun w124 hk125 => ?_)
          have ht126 := Kp.tr (Dw := Dw) hk125 hA hB
          replace hH := Hp.kp (Dw := Dw) hH hk125
          replace h8 := El.tr (Dw := Dw) h8 ht126
          replace h68 := Sl.tr (Dw := Dw) h68 ht126
          replace hK := Tr.trans (Dw := Dw) hK ht126
          replace hr71 := Tr.trans (Dw := Dw) hr71 ht126
          replace hB := Nat.le_trans hB ht126.ex.size
          replace hA := ht126.new
          refine C_cond rfl (fun hc127 => ?_) (fun hc127 => ?_)
          · rw [if_pos hc127] at h83
            refine C_seq ?_
            refine C_region ?_
            refine V_y (Y_assign rfl) rfl rfl rfl ?_
            refine V_to (fun _ _ => rfl) ?_
            obtain rfl := Option.some.inj h83
            obtain rfl := (h84 : Lp.rt _ = _)
            rw [Lp.andThen_rt] at hm
            obtain rfl := Option.some.inj hm
            refine C_ret ?_
            try simp only [↓inBlock_ret, ↓then_ret]
            exact retQ rfl (Res.one Tryz.results58 rfl) ⟨rfl, hK.kp⟩
          · rw [if_neg (nt hc127)] at h83
            refine C_skip_to (fun _ _ => rfl) ?_
            refine C_region ?_
            refine V_y (Y_addI rfl rfl) rfl rfl rfl ?_
            refine V_y (Y_move rfl) rfl rfl rfl ?_
            obtain rfl := Option.some.inj h83
            refine V_end (fun a ha128 => ?_)
            exact ⟨(), hlt86, h84, ⟨A80, ha128.sub ⟨rfl, rfl, rfl, (congrArg (fun z => some (Value.int .i64 z)) (w64_succ hlt86 hn89)), trivial⟩, ⟨hH, hr71⟩⟩⟩
      · refine C_exit (fun a ha129 => ?_)
        exact ⟨((), A80), ha129.sub trivial, ⟨(h87 (eq_of_dec hle85 hc90)).symm, hH, hr71⟩⟩
    rintro ⟨s70, A76⟩ w73 ⟨rfl, hH77, hk74⟩ a ha75
    rw [Lp.andThen_fin] at hm
    replace hK := Tr.trans (Dw := Dw) hK hk74
    replace hB := Nat.le_trans hB hk74.ex.size
    replace hA := hk74.new
    replace hH : Hp w.heap.size A76 w73 ([]) := hH77
    refine C_at (n := ⟨68, [], none⟩) (fun _ _ => rfl) ?_ ha75
    refine C_seq ?_
    refine C_region ?_
    refine V_y (Y_assign rfl) rfl rfl rfl ?_
    refine V_to (fun _ _ => rfl) ?_
    obtain rfl := Option.some.inj hm
    refine C_ret ?_
    try simp only [↓inBlock_ret, ↓then_ret]
    exact retQ rfl (Res.one Tryz.results58 rfl) ⟨rfl, hK.kp⟩

set_option maxRecDepth 4000 in
set_option maxHeartbeats 4000000 in
theorem level_CheckPolicy_c (w : World) {A : Nat → Prop} (hA : ∀ b, w.heap.size ≤ b → A b) (p : level_Policy) (v_p0 : Value) (h_p0 : Sl A w v_p0 p.pauses) (v_p1 : Value) (h_p1 : Sl A w v_p1 p.levels) {r : Int} (hm : level_CheckPolicy p = some r) : Ret Tryz.prog 9 #[.agg #[v_p0, v_p1]] w fun v w' => v = .int .i64 r ∧ Kp Dw w w' := by
  unfold level_CheckPolicy at hm
  refine enter Tryz.func9 rfl Tryz.ntmps9 rfl ?_
  have hA0 := hA
  have hB := Nat.le_refl w.heap.size
  have hK : Tr Dw w.heap.size A w A w := Tr.refl (Dw := Dw) hA
  have hH : Hp w.heap.size A w [] := Hp.nil
  refine C_seq ?_
  refine C_region ?_
  refine V_box rfl rfl ?_
  intro b5 w6 h7
  have hk9 := h7.kp (Dw := Dw)
  have h8 : El (α := level_Policy) A w6 b5 0 p := h7.el hA ⟨[v_p0], _, rfl, ⟨_, rfl, h_p0⟩, ⟨_, rfl, h_p1⟩⟩
  have ht10 := Kp.tr (Dw := Dw) hk9 hA hB
  replace hH := Hp.kp (Dw := Dw) hH hk9
  replace h_p0 := Sl.tr (Dw := Dw) h_p0 ht10
  replace h_p1 := Sl.tr (Dw := Dw) h_p1 ht10
  replace hK := Tr.trans (Dw := Dw) hK ht10
  replace hB := Nat.le_trans hB ht10.ex.size
  replace hA := ht10.new
  refine V_y (Y_assign rfl) rfl rfl rfl ?_
  refine V_to (fun _ _ => rfl) ?_
  refine C_seq ?_
  refine C_seq ?_
  refine C_region ?_
  have h11 := El_level_Policy_0 h8
  refine V_y (Y_fieldAddr Tryz.underlying25 rfl Tryz.sizeOf22 (by decide) rfl) rfl rfl rfl ?_
  obtain ⟨v12, h13, h14⟩ := El.list h11
  refine V_y (Y_load h13 Tryz.isAgg22 rfl) rfl rfl rfl ?_
  refine V_y (Y_lenSl h14 rfl Tryz.underlying22 rfl) rfl rfl rfl ?_
  refine V_y (Y_move rfl) rfl rfl rfl ?_
  refine V_to (fun _ _ => rfl) ?_
  have hn31 := Sl.le h14
  obtain ⟨o15, ho15, hm⟩ := Option.bind_eq_some_iff.1 hm
  refine C_cutG (ι := Unit) (fun (s16 : Unit) => [(1, .pointer (some ⟨b5, 0, none⟩))]) (fun (s16 : Unit) => fun w' => o15 = .fin s16 ∧ w6 = w') ?_ ?_
  · refine C_block ?_
    refine C_range ho15 (fun k18 _ a w' => ∃ i : Unit, Has ⟨62, [], none⟩ a ([(1, .pointer (some ⟨b5, 0, none⟩)), (10, v12), (11, .int .i64 (p.pauses.length : Int)), (12, .int .i64 (k18 : Int))]) ∧ w6 = w') (fun a ha => ⟨(), ha.sub ⟨rfl, rfl, rfl, rfl, trivial⟩, rfl⟩) ?_
    rintro K k18 _ a _ ⟨_, ha51, rfl⟩ hle27 K30 h29
    refine C_of ?_ ha51
    refine C_seq (C_region (V_y (Y_lss rfl rfl) rfl rfl rfl (V_to (fun _ _ => rfl) ?_)))
    refine C_seq ?_
    refine C_cond rfl (fun hc32 => ?_) (fun hc32 => ?_)
    · have hlt28 := lt_of_dec hc32
      obtain ⟨x24, h25, h26⟩ := K30 hlt28
      refine C_skip_to (fun _ _ => rfl) ?_
      refine C_seq ?_
      refine C_block ?_
      refine C_seq ?_
      refine C_region ?_
      refine V_y (Y_move rfl) rfl rfl rfl ?_
      obtain ⟨x33, hx33, h25⟩ := Option.bind_eq_some_iff.1 h25
      refine V_indexAddr h14 hx33 Tryz.underlying22 Tryz.sizeOf3 rfl rfl rfl ?_
      intro b34 o35 h36
      refine V_y (Y_load (El.int h36) Tryz.isAgg3 rfl) rfl rfl rfl ?_
      refine V_y (Y_assign rfl) rfl rfl rfl ?_
      refine V_y (Y_assign rfl) rfl rfl rfl ?_
      refine V_to (fun _ _ => rfl) ?_
      refine C_seq ?_
      refine C_seq ?_
      refine C_region ?_
      refine V_y (Y_move rfl) rfl rfl rfl ?_
      refine V_call Tryz.call56 rfl rfl rfl rfl (level_within_c w6 x33 1 4) ?_
      rintro _ _ ⟨rfl, rfl⟩
      refine V_y (Y_not rfl) rfl rfl rfl ?_
      refine V_to (fun _ _ => rfl) ?_
      refine C_cond rfl (fun hc37 => ?_) (fun hc37 => ?_)
      · rw [if_pos hc37] at h25
        refine C_seq ?_
        refine C_region ?_
        refine V_y (Y_assign rfl) rfl rfl rfl ?_
        refine V_to (fun _ _ => rfl) ?_
        obtain rfl := Option.some.inj h25
        obtain rfl := (h26 : Lp.rt _ = _)
        rw [Lp.andThen_rt] at hm
        obtain rfl := Option.some.inj hm
        refine C_ret ?_
        try simp only [↓inBlock_ret, ↓then_ret]
        exact retQ rfl (Res.one Tryz.results9 rfl) ⟨rfl, hK.kp⟩
      · rw [if_neg (nt hc37)] at h25
        refine C_skip_to (fun _ _ => rfl) ?_
        refine C_seq ?_
        refine C_region ?_
        refine V_y (Y_move rfl) rfl rfl rfl ?_
        refine V_y (Y_gtr rfl rfl) rfl rfl rfl ?_
        refine V_y (Y_move rfl) rfl rfl rfl ?_
        obtain ⟨s39, hs39, h25⟩ := Option.bind_eq_some_iff.1 h25
        refine V_cut 9 (fun _ : Unit => [(1, .pointer (some ⟨b5, 0, none⟩)), (10, v12), (11, .int .i64 (p.pauses.length : Int)), (12, .int .i64 (k18 : Int)), (31, .bool s39)]) (fun _ w' => w6 = w') ?_ ?_
        · simp only [List.take, List.drop]
          rcases Bool.eq_false_or_eq_true (decide ((0 : Int) < (k18 : Int))) with hc38 | hc38
          · rw [if_pos hc38] at hs39
            refine V_ge rfl rfl rfl hc38 ?_
            refine V_y (Y_move rfl) rfl rfl rfl ?_
            refine V_ge rfl rfl rfl hc38 ?_
            have h40 := El_level_Policy_0 h8
            refine V_y (Y_fieldAddr Tryz.underlying25 rfl Tryz.sizeOf22 (by decide) rfl) rfl rfl rfl ?_
            refine V_ge rfl rfl rfl hc38 ?_
            obtain ⟨v41, h42, h43⟩ := El.list h40
            refine V_y (Y_load h42 Tryz.isAgg22 rfl) rfl rfl rfl ?_
            refine V_ge rfl rfl rfl hc38 ?_
            refine V_y (Y_move rfl) rfl rfl rfl ?_
            refine V_ge rfl rfl rfl hc38 ?_
            refine V_y (Y_subI rfl rfl) rfl rfl rfl ?_
            refine V_ge rfl rfl rfl hc38 ?_
            obtain ⟨x44, hx44, hs39⟩ := Option.bind_eq_some_iff.1 hs39
            refine V_indexAddr h43 hx44 Tryz.underlying22 Tryz.sizeOf3 rfl rfl rfl ?_
            intro b45 o46 h47
            refine V_ge rfl rfl rfl hc38 ?_
            refine V_y (Y_load (El.int h47) Tryz.isAgg3 rfl) rfl rfl rfl ?_
            refine V_ge rfl rfl rfl hc38 ?_
            refine V_y (Y_leq rfl rfl) rfl rfl rfl ?_
            refine V_y (Y_pick_te rfl hc38 rfl) rfl rfl rfl ?_
            obtain rfl := Option.some.inj hs39
            exact V_end fun a ha => ⟨(), ha.sub ⟨rfl, rfl, rfl, rfl, rfl, trivial⟩, rfl⟩
          · rw [if_neg (nt hc38)] at hs39
            refine V_gn rfl rfl rfl hc38 rfl rfl rfl ?_
            refine V_gn rfl rfl rfl hc38 rfl rfl rfl ?_
            refine V_gn rfl rfl rfl hc38 rfl rfl rfl ?_
            refine V_gn rfl rfl rfl hc38 rfl rfl rfl ?_
            refine V_gn rfl rfl rfl hc38 rfl rfl rfl ?_
            refine V_gn rfl rfl rfl hc38 rfl rfl rfl ?_
            refine V_gn rfl rfl rfl hc38 rfl rfl rfl ?_
            refine V_gn rfl rfl rfl hc38 rfl rfl rfl ?_
            refine V_y (Y_pick_fe rfl hc38 rfl) rfl rfl rfl ?_
            obtain rfl := Option.some.inj hs39
            exact V_end fun a ha => ⟨(), ha.sub ⟨rfl, rfl, rfl, rfl, rfl, trivial⟩, rfl⟩
        simp only [List.take, List.drop]
        rintro _ _ rfl
        refine V_to (fun _ _ => rfl) ?_
        refine C_cond rfl (fun hc48 => ?_) (fun hc48 => ?_)
        · rw [if_pos hc48] at h25
          refine C_seq ?_
          refine C_region ?_
          refine V_y (Y_assign rfl) rfl rfl rfl ?_
          refine V_to (fun _ _ => rfl) ?_
          obtain rfl := Option.some.inj h25
          obtain rfl := (h26 : Lp.rt _ = _)
          rw [Lp.andThen_rt] at hm
          obtain rfl := Option.some.inj hm
          refine C_ret ?_
          try simp only [↓inBlock_ret, ↓then_ret]
          exact retQ rfl (Res.one Tryz.results9 rfl) ⟨rfl, hK.kp⟩
        · rw [if_neg (nt hc48)] at h25
          refine C_skip_to (fun _ _ => rfl) ?_
          refine C_region ?_
          refine V_y (Y_addI rfl rfl) rfl rfl rfl ?_
          refine V_y (Y_move rfl) rfl rfl rfl ?_
          obtain rfl := Option.some.inj h25
          refine V_end (fun a ha49 => ?_)
          exact ⟨(), hlt28, h26, ⟨(), ha49.sub ⟨rfl, rfl, rfl, (congrArg (fun z => some (Value.int .i64 z)) (w64_succ hlt28 hn31)), trivial⟩, rfl⟩⟩
    · refine C_exit (fun a ha50 => ?_)
      exact ⟨(), ha50.sub ⟨rfl, trivial⟩, ⟨(h29 (eq_of_dec hle27 hc32)).symm, rfl⟩⟩
  rintro s16 _ ⟨rfl, rfl⟩ a ha21
  rw [Lp.andThen_fin] at hm
  refine C_at (n := ⟨62, [], none⟩) (fun _ _ => rfl) ?_ ha21
  refine C_seq ?_
  refine C_seq ?_
  refine C_region ?_
  have h52 := El_level_Policy_1 h8
  refine V_y (Y_fieldAddr Tryz.underlying25 rfl Tryz.sizeOf23 (by decide) rfl) rfl rfl rfl ?_
  obtain ⟨v53, h54, h55⟩ := El.list h52
  refine V_y (Y_load h54 Tryz.isAgg23 rfl) rfl rfl rfl ?_
  refine V_y (Y_lenSl h55 rfl Tryz.underlying23 rfl) rfl rfl rfl ?_
  refine V_y (Y_gtr rfl rfl) rfl rfl rfl ?_
  refine V_to (fun _ _ => rfl) ?_
  refine C_cond rfl (fun hc56 => ?_) (fun hc56 => ?_)
  · rw [if_pos hc56] at hm
    refine C_seq ?_
    refine C_region ?_
    refine V_y (Y_assign rfl) rfl rfl rfl ?_
    refine V_to (fun _ _ => rfl) ?_
    obtain rfl := Option.some.inj hm
    refine C_ret ?_
    try simp only [↓inBlock_ret, ↓then_ret]
    exact retQ rfl (Res.one Tryz.results9 rfl) ⟨rfl, hK.kp⟩
  · rw [if_neg (nt hc56)] at hm
    refine C_skip_to (fun _ _ => rfl) ?_
    refine C_seq ?_
    refine C_region ?_
    refine V_makeMapS (Dw := Dw) (B := w.heap.size) ByteArray Bool hH hB hA rfl ?_
    intro b57 w58 A59 hH60 ht61
    replace h8 := El.tr (Dw := Dw) h8 ht61
    replace hK := Tr.trans (Dw := Dw) hK ht61
    replace hB := Nat.le_trans hB ht61.ex.size
    replace hA := ht61.new
    replace hH : Hp w.heap.size A59 w58 (obSM (κ := ByteArray) (α := Bool) b57 ([] : List (ByteArray × Bool)) :: []) := hH60
    refine V_y (Y_assign rfl) rfl rfl rfl ?_
    refine V_to (fun _ _ => rfl) ?_
    refine C_seq ?_
    refine C_seq ?_
    refine C_region ?_
    have h62 := El_level_Policy_1 h8
    refine V_y (Y_fieldAddr Tryz.underlying25 rfl Tryz.sizeOf23 (by decide) rfl) rfl rfl rfl ?_
    obtain ⟨v63, h64, h65⟩ := El.list h62
    refine V_y (Y_load h64 Tryz.isAgg23 rfl) rfl rfl rfl ?_
    refine V_y (Y_lenSl h65 rfl Tryz.underlying23 rfl) rfl rfl rfl ?_
    refine V_y (Y_move rfl) rfl rfl rfl ?_
    refine V_to (fun _ _ => rfl) ?_
    have hn86 := Sl.le h65
    obtain ⟨o66, ho66, hm⟩ := Option.bind_eq_some_iff.1 hm
    refine C_cutG (ι := ((List (ByteArray × Bool)) × (Nat → Prop))) (fun ⟨s67, A73⟩ => []) (fun ⟨s67, A73⟩ => fun w' => o66 = .fin s67 ∧ Hp w.heap.size A73 w' (obSM (κ := ByteArray) (α := Bool) b57 s67 :: []) ∧ Tr Dw w.heap.size A59 w58 A73 w') ?_ ?_
    · refine C_block ?_
      refine C_range ho66 (fun k69 s75 a w' => ∃ i : (Nat → Prop), Has ⟨62, [], none⟩ a ([(5, .map (some b57)), (39, v63), (40, .int .i64 (p.levels.length : Int)), (41, .int .i64 (k69 : Int))]) ∧ Hp w.heap.size i w' (obSM (κ := ByteArray) (α := Bool) b57 s75 :: []) ∧ Tr Dw w.heap.size A59 w58 i w') (fun a ha => ⟨A59, ha.sub ⟨rfl, rfl, rfl, rfl, trivial⟩, ⟨hH, Tr.refl (Dw := Dw) hA⟩⟩) ?_
      rintro K k69 s75 a w76 ⟨A77, ha132, hH78, hr68⟩ hle82 K85 h84
      refine C_of ?_ ha132
      replace h65 := Sl.tr (Dw := Dw) h65 hr68
      replace hK := Tr.trans (Dw := Dw) hK hr68
      replace hB := Nat.le_trans hB hr68.ex.size
      replace hA := hr68.new
      replace hH : Hp w.heap.size A77 w76 (obSM (κ := ByteArray) (α := Bool) b57 s75 :: []) := hH78
      refine C_seq (C_region (V_y (Y_lss rfl rfl) rfl rfl rfl (V_to (fun _ _ => rfl) ?_)))
      refine C_seq ?_
      refine C_cond rfl (fun hc87 => ?_) (fun hc87 => ?_)
      · have hlt83 := lt_of_dec hc87
        obtain ⟨x79, h80, h81⟩ := K85 hlt83
        refine C_skip_to (fun _ _ => rfl) ?_
        refine C_seq ?_
        refine C_block ?_
        refine C_seq ?_
        refine C_region ?_
        obtain ⟨x88, hx88, h80⟩ := Option.bind_eq_some_iff.1 h80
        refine V_indexAddr h65 hx88 Tryz.underlying23 Tryz.sizeOf46 rfl rfl rfl ?_
        intro b89 o90 h91
        obtain ⟨v92, v94, h96, h93, h95⟩ := El_level_Level h91
        refine V_y (Y_loadA h96 Tryz.isAgg46 Tryz.sizeOf46 rfl) rfl rfl rfl ?_
        refine V_alloc Tryz.zeroValue46 rfl ?_
        intro b97 w98 h99
        have h104 : (v92).oneCell' = true := by obtain ⟨_, _, e, _⟩ := Sl.form h93; rw [e]; rfl
        have h107 : (v94).oneCell' = true := by obtain ⟨_, _, e, _⟩ := Sl.form h95; rw [e]; rfl
        refine V_storeNew h99 Tryz.sizeOf46 rfl rfl rfl rfl (by exact (List.forall_mem_cons.2 ⟨rfl, (List.forall_mem_cons.2 ⟨h104, (List.forall_mem_cons.2 ⟨h107, (fun _ h => nomatch h)⟩)⟩)⟩)) ?_
        intro w100 h101
        have hk109 := h101.kp (Dw := Dw)
        have h108 : El (α := level_Level) A77 w100 b97 0 x88 := h101.el hA ⟨[.string x88.name], _, rfl, rfl, ⟨[v92], _, rfl, ⟨_, rfl, h93⟩, ⟨_, rfl, h95⟩⟩⟩
        have ht110 := Kp.tr (Dw := Dw) hk109 hA hB
        replace hH := Hp.kp (Dw := Dw) hH hk109
        replace h65 := Sl.tr (Dw := Dw) h65 ht110
        replace h91 := El.tr (Dw := Dw) h91 ht110
        replace h93 := Sl.tr (Dw := Dw) h93 ht110
        replace h95 := Sl.tr (Dw := Dw) h95 ht110
        replace hK := Tr.trans (Dw := Dw) hK ht110
        replace hr68 := Tr.trans (Dw := Dw) hr68 ht110
        replace hB := Nat.le_trans hB ht110.ex.size
        replace hA := ht110.new
        refine V_to (fun _ _ => rfl) ?_
        refine C_seq ?_
        refine C_seq ?_
        refine C_region ?_
        have h111 := El_level_Level_0 h108
        refine V_y (Y_fieldAddr Tryz.underlying46 rfl Tryz.sizeOf9 (by decide) rfl) rfl rfl rfl ?_
        refine V_y (Y_load (El.str h111) Tryz.isAgg9 rfl) rfl rfl rfl ?_
        obtain ⟨x112, hx112, h80⟩ := Option.bind_eq_some_iff.1 h80
        refine V_call Tryz.call57 rfl rfl rfl rfl (level_name_c w100 x88.name hx112) ?_
        rintro _ _ ⟨rfl, rfl⟩
        refine V_y (Y_not rfl) rfl rfl rfl ?_
        refine V_to (fun _ _ => rfl) ?_
        refine C_cond rfl (fun hc113 => ?_) (fun hc113 => ?_)
        · rw [if_pos hc113] at h80
          refine C_seq ?_
          refine C_region ?_
          refine V_y (Y_assign rfl) rfl rfl rfl ?_
          refine V_to (fun _ _ => rfl) ?_
          obtain rfl := Option.some.inj h80
          obtain rfl := (h81 : Lp.rt _ = _)
          rw [Lp.andThen_rt] at hm
          obtain rfl := Option.some.inj hm
          refine C_ret ?_
          try simp only [↓inBlock_ret, ↓then_ret]
          exact retQ rfl (Res.one Tryz.results9 rfl) ⟨rfl, hK.kp⟩
        · rw [if_neg (nt hc113)] at h80
          refine C_skip_to (fun _ _ => rfl) ?_
          refine C_seq ?_
          refine C_seq ?_
          refine C_region ?_
          refine V_y (Y_move rfl) rfl rfl rfl ?_
          have h114 := El_level_Level_0 h108
          refine V_y (Y_fieldAddr Tryz.underlying46 rfl Tryz.sizeOf9 (by decide) rfl) rfl rfl rfl ?_
          refine V_y (Y_load (El.str h114) Tryz.isAgg9 rfl) rfl rfl rfl ?_
          refine V_y (Y_lookupS (κ := ByteArray) (α := Bool) (z := false) (l := s75) hH (i := 0) rfl Tryz.underlying157 Tryz.underlying9 Tryz.zeroValue4 rfl rfl rfl) rfl rfl rfl ?_
          refine V_to (fun _ _ => rfl) ?_
          refine C_cond rfl (fun hc115 => ?_) (fun hc115 => ?_)
          · rw [if_pos hc115] at h80
            refine C_seq ?_
            refine C_region ?_
            refine V_y (Y_assign rfl) rfl rfl rfl ?_
            refine V_to (fun _ _ => rfl) ?_
            obtain rfl := Option.some.inj h80
            obtain rfl := (h81 : Lp.rt _ = _)
            rw [Lp.andThen_rt] at hm
            obtain rfl := Option.some.inj hm
            refine C_ret ?_
            try simp only [↓inBlock_ret, ↓then_ret]
            exact retQ rfl (Res.one Tryz.results9 rfl) ⟨rfl, hK.kp⟩
          · rw [if_neg (nt hc115)] at h80
            refine C_skip_to (fun _ _ => rfl) ?_
            refine C_seq ?_
            refine C_region ?_
            refine V_y (Y_move rfl) rfl rfl rfl ?_
            have h116 := El_level_Level_0 h108
            refine V_y (Y_fieldAddr Tryz.underlying46 rfl Tryz.sizeOf9 (by decide) rfl) rfl rfl rfl ?_
            refine V_y (Y_load (El.str h116) Tryz.isAgg9 rfl) rfl rfl rfl ?_
            refine V_mapUpdateS (Dw := Dw) (κ := ByteArray) (α := Bool) (l := s75) (c := true) hH (i := 0) rfl Tryz.underlying157 Tryz.underlying9 rfl rfl rfl hB hA ?_
            intro w117 hH118 ht119
            replace h65 := Sl.tr (Dw := Dw) h65 ht119
            replace h108 := El.tr (Dw := Dw) h108 ht119
            replace h116 := El.tr (Dw := Dw) h116 ht119
            replace hK := Tr.trans (Dw := Dw) hK ht119
            replace hr68 := Tr.trans (Dw := Dw) hr68 ht119
            replace hB := Nat.le_trans hB ht119.ex.size
            replace hA := ht119.new
            replace hH : Hp w.heap.size A77 w117 (obSM (κ := ByteArray) (α := Bool) b57 (mapPut s75 x88.name true) :: []) := hH118
            refine V_to (fun _ _ => rfl) ?_
            refine C_seq ?_
            refine C_region ?_
            obtain ⟨v120, v122, h124, h121, h123⟩ := El_level_Level h108
            refine V_y (Y_loadA h124 Tryz.isAgg46 Tryz.sizeOf46 rfl) rfl rfl rfl ?_
            obtain ⟨x125, hx125, h80⟩ := Option.bind_eq_some_iff.1 h80
            refine V_call Tryz.call58 rfl rfl rfl rfl (level_checkLevel_c (Dw := Dw) w117 hA x88 v120 h121 v122 h123 hx125) ?_
            rintro _ w126 ⟨rfl, hk127⟩
            have ht128 := Kp.tr (Dw := Dw) hk127 hA hB
            replace hH := Hp.kp (Dw := Dw) hH hk127
            replace h65 := Sl.tr (Dw := Dw) h65 ht128
            replace h108 := El.tr (Dw := Dw) h108 ht128
            replace h121 := Sl.tr (Dw := Dw) h121 ht128
            replace h123 := Sl.tr (Dw := Dw) h123 ht128
            replace hK := Tr.trans (Dw := Dw) hK ht128
            replace hr68 := Tr.trans (Dw := Dw) hr68 ht128
            replace hB := Nat.le_trans hB ht128.ex.size
            replace hA := ht128.new
            refine V_y (Y_assign rfl) rfl rfl rfl ?_
            refine V_to (fun _ _ => rfl) ?_
            refine C_seq ?_
            refine C_region ?_
            refine V_y (Y_move rfl) rfl rfl rfl ?_
            refine V_y (Y_neq rfl rfl) rfl rfl rfl ?_
            refine V_to (fun _ _ => rfl) ?_
            refine C_cond rfl (fun hc129 => ?_) (fun hc129 => ?_)
            · rw [if_pos hc129] at h80
              refine C_seq ?_
              refine C_region ?_
              refine V_y (Y_move rfl) rfl rfl rfl ?_
              refine V_y (Y_assign rfl) rfl rfl rfl ?_
              refine V_to (fun _ _ => rfl) ?_
              obtain rfl := Option.some.inj h80
              obtain rfl := (h81 : Lp.rt _ = _)
              rw [Lp.andThen_rt] at hm
              obtain rfl := Option.some.inj hm
              refine C_ret ?_
              try simp only [↓inBlock_ret, ↓then_ret]
              exact retQ rfl (Res.one Tryz.results9 rfl) ⟨rfl, hK.kp⟩
            · rw [if_neg (nt hc129)] at h80
              refine C_skip_to (fun _ _ => rfl) ?_
              refine C_region ?_
              refine V_y (Y_addI rfl rfl) rfl rfl rfl ?_
              refine V_y (Y_move rfl) rfl rfl rfl ?_
              obtain rfl := Option.some.inj h80
              refine V_end (fun a ha130 => ?_)
              exact ⟨(mapPut s75 x88.name true), hlt83, h81, ⟨A77, ha130.sub ⟨rfl, rfl, rfl, (congrArg (fun z => some (Value.int .i64 z)) (w64_succ hlt83 hn86)), trivial⟩, ⟨hH, hr68⟩⟩⟩
      · refine C_exit (fun a ha131 => ?_)
        exact ⟨(s75, A77), ha131.sub trivial, ⟨(h84 (eq_of_dec hle82 hc87)).symm, hH, hr68⟩⟩
    rintro ⟨s67, A73⟩ w70 ⟨rfl, hH74, hk71⟩ a ha72
    rw [Lp.andThen_fin] at hm
    replace hK := Tr.trans (Dw := Dw) hK hk71
    replace hB := Nat.le_trans hB hk71.ex.size
    replace hA := hk71.new
    replace hH : Hp w.heap.size A73 w70 (obSM (κ := ByteArray) (α := Bool) b57 s67 :: []) := hH74
    refine C_at (n := ⟨62, [], none⟩) (fun _ _ => rfl) ?_ ha72
    refine C_seq ?_
    refine C_region ?_
    refine V_y (Y_assign rfl) rfl rfl rfl ?_
    refine V_to (fun _ _ => rfl) ?_
    obtain rfl := Option.some.inj hm
    refine C_ret ?_
    try simp only [↓inBlock_ret, ↓then_ret]
    exact retQ rfl (Res.one Tryz.results9 rfl) ⟨rfl, hK.kp⟩

set_option maxRecDepth 4000 in
set_option maxHeartbeats 4000000 in
theorem level_ReadPolicy_c (w : World) {A : Nat → Prop} (hA : ∀ b, w.heap.size ≤ b → A b) (hT : Fz Tryz_FR A w) (s : ByteArray) {r : (level_Policy × Int × Int)} (hm : level_ReadPolicy s = some r) : Ret Tryz.prog 4 #[.string s] w fun v w' => ∃ s0 s1, v = .tuple #[.agg #[s0, s1], .int .i64 r.2.1, .int .i64 r.2.2] ∧ Sl A w' s0 r.1.pauses ∧ Sl A w' s1 r.1.levels ∧ Kp False w w' := by
  unfold level_ReadPolicy at hm
  refine enter Tryz.func4 rfl Tryz.ntmps4 rfl ?_
  have hA0 := hA
  have hB := Nat.le_refl w.heap.size
  have hK : Tr False w.heap.size A w A w := Tr.refl (Dw := False) hA
  have hH : Hp w.heap.size A w [] := Hp.nil
  refine C_seq ?_
  refine C_region ?_
  refine V_allocH (Dw := False) (B := w.heap.size) hH Tryz.zeroValue25 hB hA rfl ?_
  intro b1 w2 A3 hH4 ht5
  replace hK := Tr.trans (Dw := False) hK ht5
  replace hB := Nat.le_trans hB ht5.ex.size
  replace hA := ht5.new
  replace hH : Hp w.heap.size A3 w2 (obC b1 [.slice none 0 0, .slice none 0 0] 25 :: []) := hH4
  refine V_y (Y_assign rfl) rfl rfl rfl ?_
  refine V_y (Y_assign rfl) rfl rfl rfl ?_
  refine V_to (fun _ _ => rfl) ?_
  refine C_seq ?_
  refine C_seq ?_
  refine C_region ?_
  refine V_y (Y_move rfl) rfl rfl rfl ?_
  refine V_y (Y_lenStr rfl Tryz.underlying9 rfl) rfl rfl rfl ?_
  refine V_y (Y_gtr rfl rfl) rfl rfl rfl ?_
  refine V_to (fun _ _ => rfl) ?_
  refine C_cond rfl (fun hc6 => ?_) (fun hc6 => ?_)
  · rw [if_pos hc6] at hm
    refine C_seq ?_
    refine C_region ?_
    refine V_y (Y_build Tryz.underlying25 Tryz.zeroValue25 (Tryz_places25 _ Tryz.underlying25) rfl (by with_unfolding_all rfl)) rfl rfl rfl ?_
    refine V_storeC (Dw := False) (off := 0) (ds := [.slice none 0 0, .slice none 0 0]) hH (i := 0) rfl Tryz.sizeOf25 rfl (Nat.le_of_ble_eq_true rfl) (by exact (List.forall_mem_cons.2 ⟨rfl, (List.forall_mem_cons.2 ⟨rfl, (fun _ h => nomatch h)⟩)⟩)) rfl hB hA rfl rfl ?_
    intro w7 hH8 ht9
    replace hK := Tr.trans (Dw := False) hK ht9
    replace hB := Nat.le_trans hB ht9.ex.size
    replace hA := ht9.new
    replace hH : Hp w.heap.size A3 w7 (obC b1 [.slice none 0 0, .slice none 0 0] 25 :: []) := hH8
    refine V_y (Y_assign rfl) rfl rfl rfl ?_
    refine V_y (Y_assign rfl) rfl rfl rfl ?_
    refine V_to (fun _ _ => rfl) ?_
    obtain rfl := Option.some.inj hm
    refine C_ret ?_
    try simp only [↓inBlock_ret, ↓then_ret]
    exact retQ rfl (Res.l3 Tryz.results4 (RL.cell rfl (loadVar_agg (Hp.part (off := 0) (n := 2) (ds := [.slice none 0 0, .slice none 0 0]) hH (i := 0) rfl rfl) Tryz.isAgg25 Tryz.sizeOf25)) (RL.tmp rfl) (RL.tmp rfl)) ⟨.slice none 0 0, .slice none 0 0, rfl, Sl.nil, Sl.nil, hK.kp⟩
  · rw [if_neg (nt hc6)] at hm
    refine C_skip_to (fun _ _ => rfl) ?_
    refine C_seq ?_
    refine C_region ?_
    refine V_allocH (Dw := False) (B := w.heap.size) hH Tryz.zeroValue25 hB hA rfl ?_
    intro b10 w11 A12 hH13 ht14
    replace hK := Tr.trans (Dw := False) hK ht14
    replace hB := Nat.le_trans hB ht14.ex.size
    replace hA := ht14.new
    replace hH : Hp w.heap.size A12 w11 (obC b10 [.slice none 0 0, .slice none 0 0] 25 :: obC b1 [.slice none 0 0, .slice none 0 0] 25 :: []) := hH13
    refine V_to (fun _ _ => rfl) ?_
    refine C_seq ?_
    refine C_seq ?_
    refine C_region ?_
    refine V_y (Y_assign rfl) rfl rfl rfl ?_
    refine V_to (fun _ _ => rfl) ?_
    replace hH : Hp w.heap.size A12 w11 (obS (α := Int) 3 (.slice none 0 0) ([] : (List Int)) :: obC b10 [.slice none 0 0, .slice none 0 0] 25 :: obC b1 [.slice none 0 0, .slice none 0 0] 25 :: []) := Hp.addNil (α := Int) (e := 3) hH
    replace hH : Hp w.heap.size A12 w11 (obGS gf_level_Level 46 (.slice none 0 0) ([] : (List level_Level)) :: obS (α := Int) 3 (.slice none 0 0) ([] : (List Int)) :: obC b10 [.slice none 0 0, .slice none 0 0] 25 :: obC b1 [.slice none 0 0, .slice none 0 0] 25 :: []) := Hp.addNilGS (f := gf_level_Level) (e := 46) hH
    obtain ⟨o15, ho15, hm⟩ := Option.bind_eq_some_iff.1 hm
    refine C_cutG (ι := ((ByteArray × Int × level_Policy × level_Policy) × Value × Value × Value × Value × (Nat → Prop))) (fun ⟨s16, v22, v24, v26, v28, A30⟩ => [(2, .pointer (some ⟨b1, 0, none⟩)), (5, .pointer (some ⟨b10, 0, none⟩))]) (fun ⟨s16, v22, v24, v26, v28, A30⟩ => fun w' => o15 = .fin s16 ∧ Sl A30 w' v26 s16.2.2.2.pauses ∧ Sl A30 w' v28 s16.2.2.2.levels ∧ Hp w.heap.size A30 w' (obGS gf_level_Level 46 v24 s16.2.2.1.levels :: obS (α := Int) 3 v22 s16.2.2.1.pauses :: obC b10 [v22, v24] 25 :: obC b1 [v26, v28] 25 :: []) ∧ Tr False w.heap.size A12 w11 A30 w') ?_ ?_
    · refine C_block ?_
      refine C_while ho15 (fun s32 a w' => ∃ i : (Value × Value × Value × Value × (Nat → Prop)), Has ⟨48, [], none⟩ a ([(0, .string s32.1), (2, .pointer (some ⟨b1, 0, none⟩)), (5, .pointer (some ⟨b10, 0, none⟩)), (6, .int .i64 s32.2.1)]) ∧ Sl i.2.2.2.2 w' i.2.2.1 s32.2.2.2.pauses ∧ Sl i.2.2.2.2 w' i.2.2.2.1 s32.2.2.2.levels ∧ Hp w.heap.size i.2.2.2.2 w' (obGS gf_level_Level 46 i.2.1 s32.2.2.1.levels :: obS (α := Int) 3 i.1 s32.2.2.1.pauses :: obC b10 [i.1, i.2.1] 25 :: obC b1 [i.2.2.1, i.2.2.2.1] 25 :: []) ∧ Tr False w.heap.size A12 w11 i.2.2.2.2 w') (fun a ha => ⟨(.slice none 0 0, .slice none 0 0, .slice none 0 0, .slice none 0 0, A12), ha.sub ⟨rfl, rfl, rfl, rfl, trivial⟩, ⟨Sl.nil, Sl.nil, hH, Tr.refl (Dw := False) hA⟩⟩) ?_
      rintro K s32 a w33 ⟨⟨v34, v36, v38, v40, A42⟩, ha75, h39, h41, hH43, hr17⟩ K50
      refine C_of ?_ ha75
      replace hK := Tr.trans (Dw := False) hK hr17
      replace hB := Nat.le_trans hB hr17.ex.size
      replace hA := hr17.new
      replace hH : Hp w.heap.size A42 w33 (obGS gf_level_Level 46 v36 s32.2.2.1.levels :: obS (α := Int) 3 v34 s32.2.2.1.pauses :: obC b10 [v34, v36] 25 :: obC b1 [v38, v40] 25 :: []) := hH43
      obtain ⟨x44, h45, h46⟩ := K50
      refine C_seq ?_
      refine C_seq ?_
      refine C_region ?_
      refine V_y (Y_move rfl) rfl rfl rfl ?_
      refine V_y (Y_sneq rfl rfl) rfl rfl rfl ?_
      refine V_y (Y_move rfl) rfl rfl rfl ?_
      refine V_cut 3 (fun _ : Unit => [(0, .string s32.1), (2, .pointer (some ⟨b1, 0, none⟩)), (5, .pointer (some ⟨b10, 0, none⟩)), (6, .int .i64 s32.2.1), (20, .bool ((!(strEq s32.1 (⟨#[]⟩ : ByteArray))) || (s32.2.1 == 1)))]) (fun _ w' => w33 = w') ?_ ?_
      · simp only [List.take, List.drop]
        rcases Bool.eq_false_or_eq_true (!(strEq s32.1 (⟨#[]⟩ : ByteArray))) with hc51 | hc51
        · refine V_gn rfl rfl rfl hc51 rfl rfl rfl ?_
          refine V_gn rfl rfl rfl hc51 rfl rfl rfl ?_
          refine V_y (Y_pick_te rfl hc51 rfl) rfl rfl rfl ?_
          exact V_end fun a ha => ⟨(), ha.sub ⟨rfl, rfl, rfl, rfl, (by rw [hc51]; rfl), trivial⟩, rfl⟩
        · refine V_ge rfl rfl rfl hc51 ?_
          refine V_y (Y_move rfl) rfl rfl rfl ?_
          refine V_ge rfl rfl rfl hc51 ?_
          refine V_y (Y_eql rfl rfl) rfl rfl rfl ?_
          refine V_y (Y_pick_fe rfl hc51 rfl) rfl rfl rfl ?_
          exact V_end fun a ha => ⟨(), ha.sub ⟨rfl, rfl, rfl, rfl, (by rw [hc51]; rfl), trivial⟩, rfl⟩
      simp only [List.take, List.drop]
      rintro _ _ rfl
      refine V_to (fun _ _ => rfl) ?_
      refine C_cond rfl (fun hc53 => ?_) (fun hc53 => ?_)
      · rw [if_pos hc53] at h45
        refine C_skip_to (fun _ _ => rfl) ?_
        refine C_seq ?_
        refine C_block ?_
        refine C_seq ?_
        refine C_region ?_
        refine V_y (Y_move rfl) rfl rfl rfl ?_
        obtain ⟨x54, hx54, h45⟩ := Option.bind_eq_some_iff.1 h45
        refine V_call Tryz.call7 rfl rfl rfl rfl (strings_Cut_c (Dw := False) w33 hA s32.1 (⟨#[10]⟩ : ByteArray) hx54) ?_
        rintro _ w55 ⟨rfl, hk56⟩
        have ht57 := Kp.tr (Dw := False) hk56 hA hB
        replace hH := Hp.kp (Dw := False) hH hk56
        replace h39 := Sl.tr (Dw := False) h39 ht57
        replace h41 := Sl.tr (Dw := False) h41 ht57
        replace hK := Tr.trans (Dw := False) hK ht57
        replace hr17 := Tr.trans (Dw := False) hr17 ht57
        replace hB := Nat.le_trans hB ht57.ex.size
        replace hA := ht57.new
        refine V_y (Y_move rfl) rfl rfl rfl ?_
        refine V_y (Y_extract rfl rfl) rfl rfl rfl ?_
        refine V_y (Y_extract rfl rfl) rfl rfl rfl ?_
        refine V_y (Y_extract rfl rfl) rfl rfl rfl ?_
        refine V_y (Y_assign rfl) rfl rfl rfl ?_
        refine V_y (Y_assign rfl) rfl rfl rfl ?_
        refine V_y (Y_assign rfl) rfl rfl rfl ?_
        refine V_to (fun _ _ => rfl) ?_
        refine C_seq ?_
        refine C_seq ?_
        refine C_region ?_
        refine V_y (Y_move rfl) rfl rfl rfl ?_
        refine V_y (Y_move rfl) rfl rfl rfl ?_
        refine V_y (Y_eql rfl rfl) rfl rfl rfl ?_
        replace hH : Hp w.heap.size A42 w55 (obS (α := Int) 3 v34 s32.2.2.1.pauses :: obGS gf_level_Level 46 v36 s32.2.2.1.levels :: obC b10 [v34, v36] 25 :: obC b1 [v38, v40] 25 :: []) := Hp.front hH (i := 1) rfl
        replace hH : Hp w.heap.size A42 w55 (obC b10 [v34, v36] 25 :: obS (α := Int) 3 v34 s32.2.2.1.pauses :: obGS gf_level_Level 46 v36 s32.2.2.1.levels :: obC b1 [v38, v40] 25 :: []) := Hp.front hH (i := 2) rfl
        obtain ⟨x58, hx58, h45⟩ := Option.bind_eq_some_iff.1 h45
        refine V_call Tryz.call8 rfl rfl rfl rfl (level_Policy_line_c w55 hB hA (Fz.tr (Dw := False) hT hK) s32.2.2.1 b10 v34 v36 x54.1 (s32.2.1 == 1) hH hx58) ?_
        rintro _ w63 ⟨v59, v61, A64, rfl, hH65, ht66⟩
        replace h39 := Sl.tr (Dw := False) h39 ht66
        replace h41 := Sl.tr (Dw := False) h41 ht66
        replace hK := Tr.trans (Dw := False) hK ht66
        replace hr17 := Tr.trans (Dw := False) hr17 ht66
        replace hB := Nat.le_trans hB ht66.ex.size
        replace hA := ht66.new
        replace hH : Hp w.heap.size A64 w63 (obC b10 [v59, v61] 25 :: obS (α := Int) 3 v59 x58.2.pauses :: obGS gf_level_Level 46 v61 x58.2.levels :: obC b1 [v38, v40] 25 :: []) := hH65
        refine V_y (Y_not rfl) rfl rfl rfl ?_
        refine V_y (Y_move rfl) rfl rfl rfl ?_
        refine V_cut 3 (fun _ : Unit => [(2, .pointer (some ⟨b1, 0, none⟩)), (5, .pointer (some ⟨b10, 0, none⟩)), (6, .int .i64 s32.2.1), (8, .string x54.2.1), (37, .bool ((!x58.1) || (!x54.2.2)))]) (fun _ w' => w63 = w') ?_ ?_
        · simp only [List.take, List.drop]
          rcases Bool.eq_false_or_eq_true (!x58.1) with hc67 | hc67
          · refine V_gn rfl rfl rfl hc67 rfl rfl rfl ?_
            refine V_gn rfl rfl rfl hc67 rfl rfl rfl ?_
            refine V_y (Y_pick_te rfl hc67 rfl) rfl rfl rfl ?_
            exact V_end fun a ha => ⟨(), ha.sub ⟨rfl, rfl, rfl, rfl, (by rw [hc67]; rfl), trivial⟩, rfl⟩
          · refine V_ge rfl rfl rfl hc67 ?_
            refine V_y (Y_move rfl) rfl rfl rfl ?_
            refine V_ge rfl rfl rfl hc67 ?_
            refine V_y (Y_not rfl) rfl rfl rfl ?_
            refine V_y (Y_pick_fe rfl hc67 rfl) rfl rfl rfl ?_
            exact V_end fun a ha => ⟨(), ha.sub ⟨rfl, rfl, rfl, rfl, (by rw [hc67]; rfl), trivial⟩, rfl⟩
        simp only [List.take, List.drop]
        rintro _ _ rfl
        refine V_to (fun _ _ => rfl) ?_
        refine C_cond rfl (fun hc69 => ?_) (fun hc69 => ?_)
        · rw [if_pos hc69] at h45
          refine C_seq ?_
          refine C_region ?_
          refine V_y (Y_build Tryz.underlying25 Tryz.zeroValue25 (Tryz_places25 _ Tryz.underlying25) rfl (by with_unfolding_all rfl)) rfl rfl rfl ?_
          refine V_y (Y_move rfl) rfl rfl rfl ?_
          refine V_storeC (Dw := False) (off := 0) (ds := [.slice none 0 0, .slice none 0 0]) hH (i := 3) rfl Tryz.sizeOf25 rfl (Nat.le_of_ble_eq_true rfl) (by exact (List.forall_mem_cons.2 ⟨rfl, (List.forall_mem_cons.2 ⟨rfl, (fun _ h => nomatch h)⟩)⟩)) rfl hB hA rfl rfl ?_
          intro w70 hH71 ht72
          replace h39 := Sl.tr (Dw := False) h39 ht72
          replace h41 := Sl.tr (Dw := False) h41 ht72
          replace hK := Tr.trans (Dw := False) hK ht72
          replace hr17 := Tr.trans (Dw := False) hr17 ht72
          replace hB := Nat.le_trans hB ht72.ex.size
          replace hA := ht72.new
          replace hH : Hp w.heap.size A64 w70 (obC b10 [v59, v61] 25 :: obS (α := Int) 3 v59 x58.2.pauses :: obGS gf_level_Level 46 v61 x58.2.levels :: obC b1 [.slice none 0 0, .slice none 0 0] 25 :: []) := hH71
          refine V_y (Y_assign rfl) rfl rfl rfl ?_
          refine V_y (Y_assign rfl) rfl rfl rfl ?_
          refine V_to (fun _ _ => rfl) ?_
          obtain rfl := Option.some.inj h45
          obtain rfl := (h46 : Lp.rt _ = _)
          rw [Lp.andThen_rt] at hm
          obtain rfl := Option.some.inj hm
          refine C_ret ?_
          try simp only [↓inBlock_ret, ↓then_ret]
          exact retQ rfl (Res.l3 Tryz.results4 (RL.cell rfl (loadVar_agg (Hp.part (off := 0) (n := 2) (ds := [.slice none 0 0, .slice none 0 0]) hH (i := 3) rfl rfl) Tryz.isAgg25 Tryz.sizeOf25)) (RL.tmp rfl) (RL.tmp rfl)) ⟨.slice none 0 0, .slice none 0 0, rfl, Sl.nil, Sl.nil, hK.kp⟩
        · rw [if_neg (nt hc69)] at h45
          refine C_skip_to (fun _ _ => rfl) ?_
          refine C_region ?_
          refine V_y (Y_move rfl) rfl rfl rfl ?_
          refine V_y (Y_assign rfl) rfl rfl rfl ?_
          refine V_to (fun _ _ => rfl) ?_
          refine C_region ?_
          refine V_y (Y_move rfl) rfl rfl rfl ?_
          refine V_y (Y_addI rfl rfl) rfl rfl rfl ?_
          refine V_y (Y_assign rfl) rfl rfl rfl ?_
          obtain rfl := Option.some.inj h45
          refine V_end (fun a ha73 => ?_)
          replace hH : Hp w.heap.size A64 w63 (obC b1 [v38, v40] 25 :: obC b10 [v59, v61] 25 :: obS (α := Int) 3 v59 x58.2.pauses :: obGS gf_level_Level 46 v61 x58.2.levels :: []) := Hp.front hH (i := 3) rfl
          replace hH : Hp w.heap.size A64 w63 (obC b10 [v59, v61] 25 :: obC b1 [v38, v40] 25 :: obS (α := Int) 3 v59 x58.2.pauses :: obGS gf_level_Level 46 v61 x58.2.levels :: []) := Hp.front hH (i := 1) rfl
          replace hH : Hp w.heap.size A64 w63 (obS (α := Int) 3 v59 x58.2.pauses :: obC b10 [v59, v61] 25 :: obC b1 [v38, v40] 25 :: obGS gf_level_Level 46 v61 x58.2.levels :: []) := Hp.front hH (i := 2) rfl
          replace hH : Hp w.heap.size A64 w63 (obGS gf_level_Level 46 v61 x58.2.levels :: obS (α := Int) 3 v59 x58.2.pauses :: obC b10 [v59, v61] 25 :: obC b1 [v38, v40] 25 :: []) := Hp.front hH (i := 3) rfl
          exact ⟨(x54.2.1, w64 (s32.2.1 + 1), x58.2, s32.2.2.2), h46, ⟨(v59, v61, v38, v40, A64), ha73.sub ⟨rfl, rfl, rfl, rfl, trivial⟩, ⟨h39, h41, hH, hr17⟩⟩⟩
      · rw [if_neg (nt hc53)] at h45
        obtain rfl := Option.some.inj h45
        refine C_exit (fun a ha74 => ?_)
        exact ⟨((s32.1, s32.2.1, s32.2.2.1, s32.2.2.2), v34, v36, v38, v40, A42), ha74.sub ⟨rfl, rfl, trivial⟩, ⟨h46.symm, h39, h41, hH, hr17⟩⟩
    rintro ⟨s16, v22, v24, v26, v28, A30⟩ w19 ⟨rfl, h27, h29, hH31, hk20⟩ a ha21
    rw [Lp.andThen_fin] at hm
    replace hK := Tr.trans (Dw := False) hK hk20
    replace hB := Nat.le_trans hB hk20.ex.size
    replace hA := hk20.new
    replace hH : Hp w.heap.size A30 w19 (obGS gf_level_Level 46 v24 s16.2.2.1.levels :: obS (α := Int) 3 v22 s16.2.2.1.pauses :: obC b10 [v22, v24] 25 :: obC b1 [v26, v28] 25 :: []) := hH31
    refine C_at (n := ⟨48, [], none⟩) (fun _ _ => rfl) ?_ ha21
    refine C_seq ?_
    refine C_seq ?_
    refine C_region ?_
    refine V_y (Y_loadA (Hp.part (off := 0) (n := 2) (ds := [v22, v24]) hH (i := 2) rfl rfl) Tryz.isAgg25 Tryz.sizeOf25 rfl) rfl rfl rfl ?_
    obtain ⟨x76, hx76, hm⟩ := Option.bind_eq_some_iff.1 hm
    refine V_call Tryz.call9 rfl rfl rfl rfl (level_CheckPolicy_c (Dw := False) w19 (A := fun _ => True) (fun _ _ => trivial) s16.2.2.1 v22 (Hp.any (α := Int) (e := 3) (v := v22) (l := s16.2.2.1.pauses) hH (i := 1) rfl) v24 (Hp.anyGS (f := gf_level_Level) (e := 46) (v := v24) (l := s16.2.2.1.levels) hH (i := 0) rfl) hx76) ?_
    rintro _ w77 ⟨rfl, hk78⟩
    have ht79 := Kp.tr (Dw := False) hk78 hA hB
    replace hH := Hp.kp (Dw := False) hH hk78
    replace h27 := Sl.tr (Dw := False) h27 ht79
    replace h29 := Sl.tr (Dw := False) h29 ht79
    replace hK := Tr.trans (Dw := False) hK ht79
    replace hB := Nat.le_trans hB ht79.ex.size
    replace hA := ht79.new
    refine V_y (Y_assign rfl) rfl rfl rfl ?_
    refine V_to (fun _ _ => rfl) ?_
    refine C_seq ?_
    refine C_region ?_
    refine V_y (Y_move rfl) rfl rfl rfl ?_
    refine V_y (Y_neq rfl rfl) rfl rfl rfl ?_
    refine V_to (fun _ _ => rfl) ?_
    refine C_cond rfl (fun hc80 => ?_) (fun hc80 => ?_)
    · rw [if_pos hc80] at hm
      refine C_seq ?_
      refine C_region ?_
      refine V_y (Y_build Tryz.underlying25 Tryz.zeroValue25 (Tryz_places25 _ Tryz.underlying25) rfl (by with_unfolding_all rfl)) rfl rfl rfl ?_
      refine V_y (Y_move rfl) rfl rfl rfl ?_
      refine V_storeC (Dw := False) (off := 0) (ds := [.slice none 0 0, .slice none 0 0]) hH (i := 3) rfl Tryz.sizeOf25 rfl (Nat.le_of_ble_eq_true rfl) (by exact (List.forall_mem_cons.2 ⟨rfl, (List.forall_mem_cons.2 ⟨rfl, (fun _ h => nomatch h)⟩)⟩)) rfl hB hA rfl rfl ?_
      intro w81 hH82 ht83
      replace h27 := Sl.tr (Dw := False) h27 ht83
      replace h29 := Sl.tr (Dw := False) h29 ht83
      replace hK := Tr.trans (Dw := False) hK ht83
      replace hB := Nat.le_trans hB ht83.ex.size
      replace hA := ht83.new
      replace hH : Hp w.heap.size A30 w81 (obGS gf_level_Level 46 v24 s16.2.2.1.levels :: obS (α := Int) 3 v22 s16.2.2.1.pauses :: obC b10 [v22, v24] 25 :: obC b1 [.slice none 0 0, .slice none 0 0] 25 :: []) := hH82
      refine V_y (Y_assign rfl) rfl rfl rfl ?_
      refine V_y (Y_assign rfl) rfl rfl rfl ?_
      refine V_to (fun _ _ => rfl) ?_
      obtain rfl := Option.some.inj hm
      refine C_ret ?_
      try simp only [↓inBlock_ret, ↓then_ret]
      exact retQ rfl (Res.l3 Tryz.results4 (RL.cell rfl (loadVar_agg (Hp.part (off := 0) (n := 2) (ds := [.slice none 0 0, .slice none 0 0]) hH (i := 3) rfl rfl) Tryz.isAgg25 Tryz.sizeOf25)) (RL.tmp rfl) (RL.tmp rfl)) ⟨.slice none 0 0, .slice none 0 0, rfl, Sl.nil, Sl.nil, hK.kp⟩
    · rw [if_neg (nt hc80)] at hm
      refine C_skip_to (fun _ _ => rfl) ?_
      refine C_seq ?_
      refine C_region ?_
      refine V_y (Y_loadA (Hp.part (off := 0) (n := 2) (ds := [v22, v24]) hH (i := 2) rfl rfl) Tryz.isAgg25 Tryz.sizeOf25 rfl) rfl rfl rfl ?_
      obtain ⟨A84, ht85, h86, hH87⟩ := Hp.freeze (Dw := False) (α := Int) (v := v22) (l := s16.2.2.1.pauses) hH (i := 1) rfl hA
      replace h27 := Sl.tr (Dw := False) h27 ht85
      replace h29 := Sl.tr (Dw := False) h29 ht85
      replace hK := Tr.trans (Dw := False) hK ht85
      replace hB := Nat.le_trans hB ht85.ex.size
      replace hA := ht85.new
      replace hH : Hp w.heap.size A84 w77 (obGS gf_level_Level 46 v24 s16.2.2.1.levels :: obC b10 [v22, v24] 25 :: obC b1 [v26, v28] 25 :: []) := hH87
      obtain ⟨A89, ht90, h91, hH92⟩ := Hp.freezeGS (Dw := False) (f := gf_level_Level) (e := 46) (v := v24) (l := s16.2.2.1.levels) hH (i := 0) rfl hA
      replace h86 := Sl.tr (Dw := False) h86 ht90
      replace h27 := Sl.tr (Dw := False) h27 ht90
      replace h29 := Sl.tr (Dw := False) h29 ht90
      replace hK := Tr.trans (Dw := False) hK ht90
      replace hB := Nat.le_trans hB ht90.ex.size
      replace hA := ht90.new
      replace hH : Hp w.heap.size A89 w77 (obC b10 [v22, v24] 25 :: obC b1 [v26, v28] 25 :: []) := hH92
      have h99 : (v22).oneCell' = true := by obtain ⟨_, _, e, _⟩ := Sl.form h86; rw [e]; rfl
      have h102 : (v24).oneCell' = true := by obtain ⟨_, _, e, _⟩ := Sl.form h91; rw [e]; rfl
      refine V_storeC (Dw := False) (off := 0) (ds := [v22, v24]) hH (i := 1) rfl Tryz.sizeOf25 rfl (Nat.le_of_ble_eq_true rfl) (by exact (List.forall_mem_cons.2 ⟨h99, (List.forall_mem_cons.2 ⟨h102, (fun _ h => nomatch h)⟩)⟩)) rfl hB hA rfl rfl ?_
      intro w94 hH95 ht96
      replace h86 := Sl.tr (Dw := False) h86 ht96
      replace h91 := Sl.tr (Dw := False) h91 ht96
      replace h27 := Sl.tr (Dw := False) h27 ht96
      replace h29 := Sl.tr (Dw := False) h29 ht96
      replace hK := Tr.trans (Dw := False) hK ht96
      replace hB := Nat.le_trans hB ht96.ex.size
      replace hA := ht96.new
      replace hH : Hp w.heap.size A89 w94 (obC b10 [v22, v24] 25 :: obC b1 [v22, v24] 25 :: []) := hH95
      refine V_y (Y_assign rfl) rfl rfl rfl ?_
      refine V_y (Y_assign rfl) rfl rfl rfl ?_
      refine V_to (fun _ _ => rfl) ?_
      obtain rfl := Option.some.inj hm
      refine C_ret ?_
      try simp only [↓inBlock_ret, ↓then_ret]
      exact retQ rfl (Res.l3 Tryz.results4 (RL.cell rfl (loadVar_agg (Hp.part (off := 0) (n := 2) (ds := [v22, v24]) hH (i := 1) rfl rfl) Tryz.isAgg25 Tryz.sizeOf25)) (RL.tmp rfl) (RL.tmp rfl)) ⟨v22, v24, rfl, (Sl.out (Dw := False) h86 hA0 hK), (Sl.out (Dw := False) h91 hA0 hK), hK.kp⟩

set_option maxRecDepth 4000 in
set_option maxHeartbeats 4000000 in
theorem strings_SplitAfter_c (w : World) {A : Nat → Prop} (hA : ∀ b, w.heap.size ≤ b → A b) (hT : Fz Tryz_FR A w) (s : ByteArray) (sep : ByteArray) {r : (List ByteArray)} (hm : strings_SplitAfter s sep = some r) : Ret Tryz.prog 10 #[.string s, .string sep] w fun v w' => ∃ s0, v = s0 ∧ Sl A w' s0 r ∧ Kp Dw w w' := by
  unfold strings_SplitAfter at hm
  refine enter Tryz.func10 rfl Tryz.ntmps10 rfl ?_
  have hA0 := hA
  have hB := Nat.le_refl w.heap.size
  have hK : Tr Dw w.heap.size A w A w := Tr.refl (Dw := Dw) hA
  have hH : Hp w.heap.size A w [] := Hp.nil
  refine C_seq ?_
  refine C_region ?_
  refine V_y (Y_assign rfl) rfl rfl rfl ?_
  refine V_to (fun _ _ => rfl) ?_
  refine C_seq ?_
  refine C_region ?_
  refine V_y (Y_move rfl) rfl rfl rfl ?_
  refine V_y (Y_move rfl) rfl rfl rfl ?_
  refine V_y (Y_move rfl) rfl rfl rfl ?_
  refine V_y (Y_lenStr rfl Tryz.underlying9 rfl) rfl rfl rfl ?_
  obtain ⟨x1, hx1, hm⟩ := Option.bind_eq_some_iff.1 hm
  refine V_call Tryz.call59 rfl rfl rfl rfl (strings_genSplit_c (Dw := Dw) w hA ((Fz.tr (Dw := Dw) hT hK)).2.1 s sep (sep.size : Int) (-1) hx1) ?_
  rintro v2 w4 ⟨_, rfl, h3, hk5⟩
  have ht6 := Kp.tr (Dw := Dw) hk5 hA hB
  replace hH := Hp.kp (Dw := Dw) hH hk5
  replace hK := Tr.trans (Dw := Dw) hK ht6
  replace hB := Nat.le_trans hB ht6.ex.size
  replace hA := ht6.new
  refine V_y (Y_assign rfl) rfl rfl rfl ?_
  refine V_to (fun _ _ => rfl) ?_
  obtain rfl := Option.some.inj hm
  refine C_ret ?_
  try simp only [↓inBlock_ret, ↓then_ret]
  exact retQ rfl (Res.one Tryz.results10 rfl) ⟨v2, rfl, (Sl.out (Dw := Dw) h3 hA0 hK), hK.kp⟩

set_option maxRecDepth 4000 in
set_option maxHeartbeats 4000000 in
theorem internal_stringslite_HasSuffix_c (w : World) (s : ByteArray) (suffix : ByteArray) {r : Bool} (hm : internal_stringslite_HasSuffix s suffix = some r) : Ret Tryz.prog 74 #[.string s, .string suffix] w fun v w' => v = .bool r ∧ w = w' := by
  unfold internal_stringslite_HasSuffix at hm
  refine enter Tryz.func74 rfl Tryz.ntmps74 rfl ?_
  refine C_seq ?_
  refine C_region ?_
  refine V_y (Y_assign rfl) rfl rfl rfl ?_
  refine V_to (fun _ _ => rfl) ?_
  refine C_seq ?_
  refine C_region ?_
  refine V_y (Y_move rfl) rfl rfl rfl ?_
  refine V_y (Y_lenStr rfl Tryz.underlying9 rfl) rfl rfl rfl ?_
  refine V_y (Y_move rfl) rfl rfl rfl ?_
  refine V_y (Y_lenStr rfl Tryz.underlying9 rfl) rfl rfl rfl ?_
  refine V_y (Y_geq rfl rfl) rfl rfl rfl ?_
  refine V_y (Y_move rfl) rfl rfl rfl ?_
  obtain ⟨s2, hs2, hm⟩ := Option.bind_eq_some_iff.1 hm
  refine V_cut 10 (fun _ : Unit => [(20, .bool s2)]) (fun _ w' => w = w') ?_ ?_
  · simp only [List.take, List.drop]
    rcases Bool.eq_false_or_eq_true (decide ((suffix.size : Int) ≤ (s.size : Int))) with hc1 | hc1
    · rw [if_pos hc1] at hs2
      refine V_ge rfl rfl rfl hc1 ?_
      refine V_y (Y_move rfl) rfl rfl rfl ?_
      refine V_ge rfl rfl rfl hc1 ?_
      refine V_y (Y_move rfl) rfl rfl rfl ?_
      refine V_ge rfl rfl rfl hc1 ?_
      refine V_y (Y_lenStr rfl Tryz.underlying9 rfl) rfl rfl rfl ?_
      refine V_ge rfl rfl rfl hc1 ?_
      refine V_y (Y_move rfl) rfl rfl rfl ?_
      refine V_ge rfl rfl rfl hc1 ?_
      refine V_y (Y_lenStr rfl Tryz.underlying9 rfl) rfl rfl rfl ?_
      refine V_ge rfl rfl rfl hc1 ?_
      refine V_y (Y_subI rfl rfl) rfl rfl rfl ?_
      refine V_ge rfl rfl rfl hc1 ?_
      obtain ⟨x3, hx3, hs2⟩ := Option.bind_eq_some_iff.1 hs2
      refine V_y (Y_sliceSL hx3 Tryz.underlying9 rfl rfl) rfl rfl rfl ?_
      refine V_ge rfl rfl rfl hc1 ?_
      refine V_y (Y_move rfl) rfl rfl rfl ?_
      refine V_ge rfl rfl rfl hc1 ?_
      refine V_y (Y_seql rfl rfl) rfl rfl rfl ?_
      refine V_y (Y_pick_te rfl hc1 rfl) rfl rfl rfl ?_
      obtain rfl := Option.some.inj hs2
      exact V_end fun a ha => ⟨(), ha.sub ⟨rfl, trivial⟩, rfl⟩
    · rw [if_neg (nt hc1)] at hs2
      refine V_gn rfl rfl rfl hc1 rfl rfl rfl ?_
      refine V_gn rfl rfl rfl hc1 rfl rfl rfl ?_
      refine V_gn rfl rfl rfl hc1 rfl rfl rfl ?_
      refine V_gn rfl rfl rfl hc1 rfl rfl rfl ?_
      refine V_gn rfl rfl rfl hc1 rfl rfl rfl ?_
      refine V_gn rfl rfl rfl hc1 rfl rfl rfl ?_
      refine V_gn rfl rfl rfl hc1 rfl rfl rfl ?_
      refine V_gn rfl rfl rfl hc1 rfl rfl rfl ?_
      refine V_gn rfl rfl rfl hc1 rfl rfl rfl ?_
      refine V_y (Y_pick_fe rfl hc1 rfl) rfl rfl rfl ?_
      obtain rfl := Option.some.inj hs2
      exact V_end fun a ha => ⟨(), ha.sub ⟨rfl, trivial⟩, rfl⟩
  simp only [List.take, List.drop]
  rintro _ _ rfl
  refine V_y (Y_assign rfl) rfl rfl rfl ?_
  refine V_to (fun _ _ => rfl) ?_
  obtain rfl := Option.some.inj hm
  refine C_ret ?_
  try simp only [↓inBlock_ret, ↓then_ret]
  exact retQ rfl (Res.one Tryz.results74 rfl) ⟨rfl, rfl⟩

set_option maxRecDepth 4000 in
set_option maxHeartbeats 4000000 in
theorem internal_stringslite_CutSuffix_c (w : World) (s : ByteArray) (suffix : ByteArray) {r : (ByteArray × Bool)} (hm : internal_stringslite_CutSuffix s suffix = some r) : Ret Tryz.prog 60 #[.string s, .string suffix] w fun v w' => v = .tuple #[.string r.1, .bool r.2] ∧ w = w' := by
  unfold internal_stringslite_CutSuffix at hm
  refine enter Tryz.func60 rfl Tryz.ntmps60 rfl ?_
  refine C_seq ?_
  refine C_region ?_
  refine V_y (Y_assign rfl) rfl rfl rfl ?_
  refine V_y (Y_assign rfl) rfl rfl rfl ?_
  refine V_to (fun _ _ => rfl) ?_
  refine C_seq ?_
  refine C_seq ?_
  refine C_region ?_
  refine V_y (Y_move rfl) rfl rfl rfl ?_
  refine V_y (Y_move rfl) rfl rfl rfl ?_
  obtain ⟨x1, hx1, hm⟩ := Option.bind_eq_some_iff.1 hm
  refine V_call Tryz.call74 rfl rfl rfl rfl (internal_stringslite_HasSuffix_c w s suffix hx1) ?_
  rintro _ _ ⟨rfl, rfl⟩
  refine V_y (Y_not rfl) rfl rfl rfl ?_
  refine V_to (fun _ _ => rfl) ?_
  refine C_cond rfl (fun hc2 => ?_) (fun hc2 => ?_)
  · rw [if_pos hc2] at hm
    refine C_seq ?_
    refine C_region ?_
    refine V_y (Y_move rfl) rfl rfl rfl ?_
    refine V_y (Y_assign rfl) rfl rfl rfl ?_
    refine V_y (Y_assign rfl) rfl rfl rfl ?_
    refine V_to (fun _ _ => rfl) ?_
    obtain rfl := Option.some.inj hm
    refine C_ret ?_
    try simp only [↓inBlock_ret, ↓then_ret]
    exact retQ rfl (Res.two Tryz.results60 rfl rfl) ⟨rfl, rfl⟩
  · rw [if_neg (nt hc2)] at hm
    refine C_skip_to (fun _ _ => rfl) ?_
    refine C_seq ?_
    refine C_region ?_
    refine V_y (Y_move rfl) rfl rfl rfl ?_
    refine V_y (Y_move rfl) rfl rfl rfl ?_
    refine V_y (Y_lenStr rfl Tryz.underlying9 rfl) rfl rfl rfl ?_
    refine V_y (Y_move rfl) rfl rfl rfl ?_
    refine V_y (Y_lenStr rfl Tryz.underlying9 rfl) rfl rfl rfl ?_
    refine V_y (Y_subI rfl rfl) rfl rfl rfl ?_
    obtain ⟨x3, hx3, hm⟩ := Option.bind_eq_some_iff.1 hm
    refine V_y (Y_sliceSH hx3 Tryz.underlying9 rfl rfl) rfl rfl rfl ?_
    refine V_y (Y_assign rfl) rfl rfl rfl ?_
    refine V_y (Y_assign rfl) rfl rfl rfl ?_
    refine V_to (fun _ _ => rfl) ?_
    obtain rfl := Option.some.inj hm
    refine C_ret ?_
    try simp only [↓inBlock_ret, ↓then_ret]
    exact retQ rfl (Res.two Tryz.results60 rfl rfl) ⟨rfl, rfl⟩

set_option maxRecDepth 4000 in
set_option maxHeartbeats 4000000 in
theorem strings_CutSuffix_c (w : World) (s : ByteArray) (suffix : ByteArray) {r : (ByteArray × Bool)} (hm : strings_CutSuffix s suffix = some r) : Ret Tryz.prog 12 #[.string s, .string suffix] w fun v w' => v = .tuple #[.string r.1, .bool r.2] ∧ w = w' := by
  unfold strings_CutSuffix at hm
  refine enter Tryz.func12 rfl Tryz.ntmps12 rfl ?_
  refine C_seq ?_
  refine C_region ?_
  refine V_y (Y_assign rfl) rfl rfl rfl ?_
  refine V_y (Y_assign rfl) rfl rfl rfl ?_
  refine V_to (fun _ _ => rfl) ?_
  refine C_seq ?_
  refine C_region ?_
  refine V_y (Y_move rfl) rfl rfl rfl ?_
  refine V_y (Y_move rfl) rfl rfl rfl ?_
  obtain ⟨x1, hx1, hm⟩ := Option.bind_eq_some_iff.1 hm
  refine V_call Tryz.call60 rfl rfl rfl rfl (internal_stringslite_CutSuffix_c w s suffix hx1) ?_
  rintro _ _ ⟨rfl, rfl⟩
  refine V_y (Y_extract rfl rfl) rfl rfl rfl ?_
  refine V_y (Y_extract rfl rfl) rfl rfl rfl ?_
  refine V_y (Y_assign rfl) rfl rfl rfl ?_
  refine V_y (Y_assign rfl) rfl rfl rfl ?_
  refine V_to (fun _ _ => rfl) ?_
  obtain rfl := Option.some.inj hm
  refine C_ret ?_
  try simp only [↓inBlock_ret, ↓then_ret]
  exact retQ rfl (Res.two Tryz.results12 rfl rfl) ⟨rfl, rfl⟩

set_option maxRecDepth 4000 in
set_option maxHeartbeats 4000000 in
theorem portref2_ReadPolicyOf_1_c (w : World) {A : Nat → Prop} (hA : ∀ b, w.heap.size ≤ b → A b) (p0 : Int) (b_p0 : Nat) (h_p0 : El A w b_p0 0 p0) {r : (level_Policy × Int × Int)} (hm : portref2_ReadPolicyOf_1 p0 = some r) : Ret Tryz.prog 11 #[.pointer (some ⟨b_p0, 0, none⟩)] w fun v w' => ∃ s0 s1, v = .tuple #[.agg #[s0, s1], .int .i64 r.2.1, .int .i64 r.2.2] ∧ Sl A w' s0 r.1.pauses ∧ Sl A w' s1 r.1.levels ∧ Kp Dw w w' := by
  unfold portref2_ReadPolicyOf_1 at hm
  refine enter Tryz.func11 rfl Tryz.ntmps11 rfl ?_
  have hA0 := hA
  have hB := Nat.le_refl w.heap.size
  have hK : Tr Dw w.heap.size A w A w := Tr.refl (Dw := Dw) hA
  have hH : Hp w.heap.size A w [] := Hp.nil
  refine C_seq ?_
  refine C_region ?_
  refine V_allocH (Dw := Dw) (B := w.heap.size) hH Tryz.zeroValue25 hB hA rfl ?_
  intro b1 w2 A3 hH4 ht5
  replace h_p0 := El.tr (Dw := Dw) h_p0 ht5
  replace hK := Tr.trans (Dw := Dw) hK ht5
  replace hB := Nat.le_trans hB ht5.ex.size
  replace hA := ht5.new
  replace hH : Hp w.heap.size A3 w2 (obC b1 [.slice none 0 0, .slice none 0 0] 25 :: []) := hH4
  refine V_y (Y_assign rfl) rfl rfl rfl ?_
  refine V_y (Y_assign rfl) rfl rfl rfl ?_
  refine V_to (fun _ _ => rfl) ?_
  refine C_seq ?_
  refine C_region_ch (Dw := Dw) A3 6 [(1, 0), (1, 1), (1, 2), (3, 3), (1, 4), (1, 5)] Tryz_mixed (by kernel_rfl) (fun w6 hk7 => ?_)
  have ht8 := Kp.tr (Dw := Dw) hk7 hA hB
  replace hH := Hp.kp (Dw := Dw) hH hk7
  replace h_p0 := El.tr (Dw := Dw) h_p0 ht8
  replace hK := Tr.trans (Dw := Dw) hK ht8
  replace hB := Nat.le_trans hB ht8.ex.size
  replace hA := ht8.new
  refine CH_q2 (Dw := Dw) rfl ?_
  refine VQ_y (fun w' hw' => Y_build Tryz.underlying25 Tryz.zeroValue25 (Tryz_places25 _ Tryz.underlying25) rfl (by with_unfolding_all rfl)) rfl rfl rfl ?_
  refine VQ_CH (Dw := Dw) ?_
  refine CH_q2 (Dw := Dw) rfl ?_
  refine VQ_y (fun w' hw' => Y_load (El.int (El.keep h_p0 (XA.ex hw'))) Tryz.isAgg3 rfl) rfl rfl rfl ?_
  refine VQ_CH (Dw := Dw) ?_
  refine CH_q2 (Dw := Dw) rfl ?_
  refine VQ_y (fun w' hw' => Y_addI rfl rfl) rfl rfl rfl ?_
  refine VQ_CH (Dw := Dw) ?_
  refine CH_l1 (Dw := Dw) (k := 1) rfl ?_
  refine V_storeC (Dw := Dw) (off := 0) (ds := [.slice none 0 0, .slice none 0 0]) hH (i := 0) rfl Tryz.sizeOf25 rfl (Nat.le_of_ble_eq_true rfl) (by exact (List.forall_mem_cons.2 ⟨rfl, (List.forall_mem_cons.2 ⟨rfl, (fun _ h => nomatch h)⟩)⟩)) rfl hB hA rfl rfl ?_
  intro w9 hH10 ht11
  replace h_p0 := El.tr (Dw := Dw) h_p0 ht11
  replace hK := Tr.trans (Dw := Dw) hK ht11
  replace hB := Nat.le_trans hB ht11.ex.size
  replace hA := ht11.new
  replace hH : Hp w.heap.size A3 w9 (obC b1 [.slice none 0 0, .slice none 0 0] 25 :: []) := hH10
  refine V_CHx (Dw := Dw) (XA.tr (Dw := Dw) ht11) ?_
  refine CH_q2 (Dw := Dw) rfl ?_
  refine VQ_y (fun w' hw' => Y_assign rfl) rfl rfl rfl ?_
  refine VQ_CH (Dw := Dw) ?_
  refine CH_q2 (Dw := Dw) rfl ?_
  refine VQ_y (fun w' hw' => Y_assign rfl) rfl rfl rfl ?_
  refine VQ_CH (Dw := Dw) ?_
  refine CH_tail (Dw := Dw) ?_
  show V _ _ _ _ [] _ _
  refine V_to (fun _ _ => rfl) ?_
  obtain rfl := Option.some.inj hm
  refine C_ret ?_
  try simp only [↓inBlock_ret, ↓then_ret]
  exact retQ rfl (Res.l3 Tryz.results11 (RL.cell rfl (loadVar_agg (Hp.part (off := 0) (n := 2) (ds := [.slice none 0 0, .slice none 0 0]) hH (i := 0) rfl rfl) Tryz.isAgg25 Tryz.sizeOf25)) (RL.tmp rfl) (RL.tmp rfl)) ⟨.slice none 0 0, .slice none 0 0, rfl, Sl.nil, Sl.nil, hK.kp⟩

def Tryz_strings_Trim_lay_ren : Go.Shelf.Ren := ⟨fun | 119 => 137 | 120 => 127 | 137 => 136 | 151 => 116 | 152 => 126 | 160 => 90 | 197 => 88 | 217 => 82 | 224 => 84 | 225 => 83 | 227 => 102 | 228 => 115 | 231 => 100 | 232 => 101 | 233 => 103 | 234 => 104 | 235 => 105 | 236 => 106 | 260 => 99 | 266 => 96 | 271 => 117 | n => n, fun | 0 => 0 | 1 => 1 | 2 => 2 | 3 => 3 | 4 => 4 | 5 => 5 | 6 => 6 | 7 => 7 | 8 => 8 | 9 => 9 | 10 => 10 | 11 => 11 | 12 => 12 | 13 => 13 | 14 => 14 | 15 => 15 | 16 => 16 | 17 => 17 | 18 => 18 | 19 => 19 | 20 => 20 | 21 => 21 | 22 => 42 | 23 => 154 | 24 => 38 | 25 => 39 | 27 => 162 | 28 => 22 | 31 => 35 | 32 => 54 | 34 => 96 | 37 => 199 | 40 => 206 | 41 => 212 | 46 => 180 | 47 => 237 | 51 => 188 | 52 => 238 | 53 => 214 | 54 => 223 | 55 => 178 | 59 => 31 | 60 => 32 | 61 => 36 | 62 => 163 | 63 => 213 | 64 => 227 | 69 => 217 | 74 => 171 | 75 => 172 | 76 => 173 | 77 => 174 | 80 => 241 | 81 => 247 | 83 => 181 | 84 => 207 | 85 => 200 | 86 => 201 | 101 => 90 | 103 => 182 | 104 => 30 | 105 => 183 | 106 => 184 | 108 => 220 | 111 => 187 | 113 => 159 | 114 => 179 | 115 => 192 | 116 => 193 | 117 => 194 | 118 => 195 | 119 => 208 | 122 => 191 | 123 => 196 | 124 => 197 | 127 => 229 | 128 => 185 | 131 => 160 | 137 => 209 | 138 => 210 | 139 => 211 | 143 => 230 | 144 => 231 | 145 => 232 | 146 => 189 | 150 => 169 | 151 => 190 | 155 => 233 | 164 => 260 | 167 => 198 | 168 => 202 | 169 => 203 | 170 => 204 | 171 => 222 | 172 => 224 | 173 => 225 | 174 => 226 | 175 => 215 | 176 => 216 | 209 => 218 | 210 => 219 | 211 => 234 | 212 => 235 | 213 => 236 | 214 => 228 | 232 => 239 | 233 => 240 | 238 => 242 | 239 => 243 | 240 => 244 | 241 => 245 | 242 => 246 | 243 => 248 | 244 => 249 | 245 => 250 | 246 => 251 | 247 => 252 | 248 => 253 | 249 => 254 | n => n, fun | 1 => 2 | 3 => 3 | 4 => 4 | 15 => 5 | 16 => 6 | 17 => 7 | 18 => 8 | 19 => 9 | n => n⟩
theorem Tryz_strings_Trim_lay : Go.Proofs.Lays.n160 Tryz.prog Tryz_strings_Trim_lay_ren := {
  mixed := by kernel_rfl,
  f119 := Tryz.func137.trans (congrArg some (by kernel_rfl)),
  f120 := Tryz.func127.trans (congrArg some (by kernel_rfl)),
  f137 := Tryz.func136.trans (congrArg some (by kernel_rfl)),
  f151 := Tryz.func116.trans (congrArg some (by kernel_rfl)),
  f152 := Tryz.func126.trans (congrArg some (by kernel_rfl)),
  f160 := Tryz.func90.trans (congrArg some (by kernel_rfl)),
  f197 := Tryz.func88.trans (congrArg some (by kernel_rfl)),
  f217 := Tryz.func82.trans (congrArg some (by kernel_rfl)),
  f224 := Tryz.func84.trans (congrArg some (by kernel_rfl)),
  f225 := Tryz.func83.trans (congrArg some (by kernel_rfl)),
  f227 := Tryz.func102.trans (congrArg some (by kernel_rfl)),
  f228 := Tryz.func115.trans (congrArg some (by kernel_rfl)),
  f231 := Tryz.func100.trans (congrArg some (by kernel_rfl)),
  f232 := Tryz.func101.trans (congrArg some (by kernel_rfl)),
  f233 := Tryz.func103.trans (congrArg some (by kernel_rfl)),
  f234 := Tryz.func104.trans (congrArg some (by kernel_rfl)),
  f235 := Tryz.func105.trans (congrArg some (by kernel_rfl)),
  f236 := Tryz.func106.trans (congrArg some (by kernel_rfl)),
  f260 := Tryz.func99.trans (congrArg some (by kernel_rfl)),
  f266 := Tryz.func96.trans (congrArg some (by kernel_rfl)),
  f271 := Tryz.func117.trans (congrArg some (by kernel_rfl)),
  t0 := Tryz.underlying0,
  a0 := Tryz.isAgg0,
  z0 := Tryz.sizeOf0,
  v0 := Tryz.zeroValue0,
  t3 := Tryz.underlying3,
  a3 := Tryz.isAgg3,
  z3 := Tryz.sizeOf3,
  v3 := Tryz.zeroValue3,
  t4 := Tryz.underlying4,
  a4 := Tryz.isAgg4,
  z4 := Tryz.sizeOf4,
  v4 := Tryz.zeroValue4,
  t5 := Tryz.underlying5,
  a5 := Tryz.isAgg5,
  z5 := Tryz.sizeOf5,
  v5 := Tryz.zeroValue5,
  t9 := Tryz.underlying9,
  a9 := Tryz.isAgg9,
  z9 := Tryz.sizeOf9,
  v9 := Tryz.zeroValue9,
  t21 := Tryz.underlying21,
  a21 := Tryz.isAgg21,
  z21 := Tryz.sizeOf21,
  v21 := Tryz.zeroValue21,
  t46 := Tryz.underlying180,
  a46 := Tryz.isAgg180,
  z46 := Tryz.sizeOf180,
  v46 := Tryz.zeroValue180,
  t105 := Tryz.underlying183,
  a105 := Tryz.isAgg183,
  z105 := Tryz.sizeOf183,
  v105 := Tryz.zeroValue183,
  t116 := Tryz.underlying193,
  a116 := Tryz.isAgg193,
  z116 := Tryz.sizeOf193,
  t117 := Tryz.underlying194,
  a117 := Tryz.isAgg194,
  z117 := Tryz.sizeOf194,
  v117 := Tryz.zeroValue194,
  t119 := Tryz.underlying208,
  a119 := Tryz.isAgg208,
  z119 := Tryz.sizeOf208,
  t124 := Tryz.underlying197,
  a124 := Tryz.isAgg197,
  z124 := Tryz.sizeOf197,
  v124 := Tryz.zeroValue197,
  t138 := Tryz.underlying210,
  a138 := Tryz.isAgg210,
  z138 := Tryz.sizeOf210,
  v138 := Tryz.zeroValue210,
  t139 := Tryz.underlying211,
  a139 := Tryz.isAgg211,
  z139 := Tryz.sizeOf211,
  v139 := Tryz.zeroValue211,
  g3 := by kernel_rfl,
  g4 := by kernel_rfl }
theorem strings_Trim_c (w : World) {A : Nat → Prop} (hA : ∀ b, w.heap.size ≤ b → A b) (s : ByteArray) (cutset : ByteArray) {r : ByteArray} (hm : strings_Trim s cutset = some r) : Ret Tryz.prog 90 #[.string s, .string cutset] w fun v w' => v = .string r ∧ Kp False w w' := by
  unfold strings_Trim at hm
  split at hm
  case isFalse => cases hm
  rename_i h
  obtain rfl := Option.some.inj hm
  refine Calls.mono (Go.Proofs.Any.strings_Trim_laid Tryz_strings_Trim_lay (by kernel_rfl) s cutset w h.1 h.2.1 (Go.Proofs.ascii_of_all h.2.2)) ?_
  rintro _ w' ⟨rfl, hk⟩
  exact ⟨_, rfl, rfl, .of hk⟩

set_option maxRecDepth 4000 in
set_option maxHeartbeats 4000000 in
theorem portref2_digits_c (w : World) {A : Nat → Prop} (hA : ∀ b, w.heap.size ≤ b → A b) (s : ByteArray) (most : Int) {r : Bool} (hm : portref2_digits s most = some r) : Ret Tryz.prog 75 #[.string s, .int .i64 most] w fun v w' => v = .bool r ∧ Kp False w w' := by
  unfold portref2_digits at hm
  refine enter Tryz.func75 rfl Tryz.ntmps75 rfl ?_
  have hA0 := hA
  have hB := Nat.le_refl w.heap.size
  have hK : Tr False w.heap.size A w A w := Tr.refl (Dw := False) hA
  have hH : Hp w.heap.size A w [] := Hp.nil
  refine C_seq ?_
  refine C_region ?_
  refine V_y (Y_assign rfl) rfl rfl rfl ?_
  refine V_to (fun _ _ => rfl) ?_
  refine C_seq ?_
  obtain ⟨s2, ho1, hm⟩ := Option.bind_eq_some_iff.1 hm
  refine C_cutG (ι := (Nat → Prop)) (fun (A7 : (Nat → Prop)) => [(4, .bool s2)]) (fun (A7 : (Nat → Prop)) => fun w' => Hp w.heap.size A7 w' ([]) ∧ Tr False w.heap.size A w A7 w') ?_ ?_
  · have hr3 : Tr False w.heap.size A w A w := Tr.refl (Dw := False) hA
    refine C_region ?_
    refine V_y (Y_move rfl) rfl rfl rfl ?_
    refine V_y (Y_sneq rfl rfl) rfl rfl rfl ?_
    refine V_y (Y_move rfl) rfl rfl rfl ?_
    rcases Bool.eq_false_or_eq_true (!(strEq s (⟨#[]⟩ : ByteArray))) with hc9 | hc9
    · rw [if_pos hc9] at ho1
      refine V_ge rfl rfl rfl hc9 ?_
      refine V_y (Y_move rfl) rfl rfl rfl ?_
      refine V_ge rfl rfl rfl hc9 ?_
      refine V_y (Y_lenStr rfl Tryz.underlying9 rfl) rfl rfl rfl ?_
      refine V_ge rfl rfl rfl hc9 ?_
      refine V_y (Y_move rfl) rfl rfl rfl ?_
      refine V_ge rfl rfl rfl hc9 ?_
      refine V_y (Y_leq rfl rfl) rfl rfl rfl ?_
      refine V_y (Y_pick_te rfl hc9 rfl) rfl rfl rfl ?_
      refine V_y (Y_move rfl) rfl rfl rfl ?_
      rcases Bool.eq_false_or_eq_true (decide ((s.size : Int) ≤ most)) with hc10 | hc10
      · rw [if_pos hc10] at ho1
        refine V_ge rfl rfl rfl hc10 ?_
        refine V_y (Y_move rfl) rfl rfl rfl ?_
        refine V_ge rfl rfl rfl hc10 ?_
        obtain ⟨x11, hx11, ho1⟩ := Option.bind_eq_some_iff.1 ho1
        refine V_call Tryz.call90 rfl rfl rfl rfl (strings_Trim_c w hA s (⟨#[48, 49, 50, 51, 52, 53, 54, 55, 56, 57]⟩ : ByteArray) hx11) ?_
        rintro _ w12 ⟨rfl, hk13⟩
        have ht14 := Kp.tr (Dw := False) hk13 hA hB
        replace hH := Hp.kp (Dw := False) hH hk13
        replace hK := Tr.trans (Dw := False) hK ht14
        replace hr3 := Tr.trans (Dw := False) hr3 ht14
        replace hB := Nat.le_trans hB ht14.ex.size
        replace hA := ht14.new
        refine V_ge rfl rfl rfl hc10 ?_
        refine V_y (Y_seql rfl rfl) rfl rfl rfl ?_
        refine V_y (Y_pick_te rfl hc10 rfl) rfl rfl rfl ?_
        refine V_y (Y_move rfl) rfl rfl rfl ?_
        rcases Bool.eq_false_or_eq_true (strEq x11 (⟨#[]⟩ : ByteArray)) with hc15 | hc15
        · rw [if_pos hc15] at ho1
          refine V_ge rfl rfl rfl hc15 ?_
          refine V_y (Y_move rfl) rfl rfl rfl ?_
          refine V_ge rfl rfl rfl hc15 ?_
          refine V_y (Y_lenStr rfl Tryz.underlying9 rfl) rfl rfl rfl ?_
          refine V_ge rfl rfl rfl hc15 ?_
          refine V_y (Y_eql rfl rfl) rfl rfl rfl ?_
          refine V_ge rfl rfl rfl hc15 ?_
          refine V_y (Y_move rfl) rfl rfl rfl ?_
          rcases Bool.eq_false_or_eq_true ((s.size : Int) == 1) with hc16 | hc16
          · rw [if_pos hc16] at ho1
            refine V_gn rfl rfl rfl hc16 rfl rfl rfl ?_
            refine V_gn rfl rfl rfl hc16 rfl rfl rfl ?_
            refine V_gn rfl rfl rfl hc16 rfl rfl rfl ?_
            refine V_ge rfl rfl rfl hc15 ?_
            refine V_y (Y_pick_te rfl hc16 rfl) rfl rfl rfl ?_
            refine V_y (Y_pick_te rfl hc15 rfl) rfl rfl rfl ?_
            refine V_y (Y_assign rfl) rfl rfl rfl ?_
            obtain rfl := Option.some.inj ho1
            refine V_end (fun a ha17 => ?_)
            exact ⟨A, ha17.sub ⟨rfl, trivial⟩, ⟨hH, hr3⟩⟩
          · rw [if_neg (nt hc16)] at ho1
            refine V_ge rfl rfl rfl hc16 ?_
            refine V_y (Y_move rfl) rfl rfl rfl ?_
            refine V_ge rfl rfl rfl hc16 ?_
            obtain ⟨x18, hx18, ho1⟩ := Option.bind_eq_some_iff.1 ho1
            refine V_y (Y_indexS hx18 Tryz.underlying9 rfl rfl) rfl rfl rfl ?_
            refine V_ge rfl rfl rfl hc16 ?_
            refine V_y (Y_neq rfl rfl) rfl rfl rfl ?_
            refine V_ge rfl rfl rfl hc15 ?_
            refine V_y (Y_pick_fe rfl hc16 rfl) rfl rfl rfl ?_
            refine V_y (Y_pick_te rfl hc15 rfl) rfl rfl rfl ?_
            refine V_y (Y_assign rfl) rfl rfl rfl ?_
            obtain rfl := Option.some.inj ho1
            refine V_end (fun a ha19 => ?_)
            exact ⟨A, ha19.sub ⟨rfl, trivial⟩, ⟨hH, hr3⟩⟩
        · rw [if_neg (nt hc15)] at ho1
          refine V_gn rfl rfl rfl hc15 rfl rfl rfl ?_
          refine V_gn rfl rfl rfl hc15 rfl rfl rfl ?_
          refine V_gn rfl rfl rfl hc15 rfl rfl rfl ?_
          refine V_gn rfl rfl rfl hc15 rfl rfl rfl ?_
          refine V_gu rfl rfl rfl rfl rfl ?_
          refine V_gu rfl rfl rfl rfl rfl ?_
          refine V_gu rfl rfl rfl rfl rfl ?_
          refine V_gn rfl rfl rfl hc15 rfl rfl rfl ?_
          refine V_y (Y_pick_fe rfl hc15 rfl) rfl rfl rfl ?_
          refine V_y (Y_assign rfl) rfl rfl rfl ?_
          obtain rfl := Option.some.inj ho1
          refine V_end (fun a ha20 => ?_)
          exact ⟨A, ha20.sub ⟨rfl, trivial⟩, ⟨hH, hr3⟩⟩
      · rw [if_neg (nt hc10)] at ho1
        refine V_gn rfl rfl rfl hc10 rfl rfl rfl ?_
        refine V_gn rfl rfl rfl hc10 rfl rfl rfl ?_
        refine V_gn rfl rfl rfl hc10 rfl rfl rfl ?_
        refine V_y (Y_pick_fe rfl hc10 rfl) rfl rfl rfl ?_
        refine V_y (Y_move rfl) rfl rfl rfl ?_
        rcases Bool.eq_false_or_eq_true (false) with hc21 | hc21
        · rw [if_pos hc21] at ho1
          refine V_ge rfl rfl rfl hc21 ?_
          refine V_y (Y_move rfl) rfl rfl rfl ?_
          refine V_ge rfl rfl rfl hc21 ?_
          refine V_y (Y_lenStr rfl Tryz.underlying9 rfl) rfl rfl rfl ?_
          refine V_ge rfl rfl rfl hc21 ?_
          refine V_y (Y_eql rfl rfl) rfl rfl rfl ?_
          refine V_ge rfl rfl rfl hc21 ?_
          refine V_y (Y_move rfl) rfl rfl rfl ?_
          rcases Bool.eq_false_or_eq_true ((s.size : Int) == 1) with hc22 | hc22
          · rw [if_pos hc22] at ho1
            refine V_gn rfl rfl rfl hc22 rfl rfl rfl ?_
            refine V_gn rfl rfl rfl hc22 rfl rfl rfl ?_
            refine V_gn rfl rfl rfl hc22 rfl rfl rfl ?_
            refine V_ge rfl rfl rfl hc21 ?_
            refine V_y (Y_pick_te rfl hc22 rfl) rfl rfl rfl ?_
            refine V_y (Y_pick_te rfl hc21 rfl) rfl rfl rfl ?_
            refine V_y (Y_assign rfl) rfl rfl rfl ?_
            obtain rfl := Option.some.inj ho1
            refine V_end (fun a ha23 => ?_)
            exact ⟨A, ha23.sub ⟨rfl, trivial⟩, ⟨hH, hr3⟩⟩
          · rw [if_neg (nt hc22)] at ho1
            refine V_ge rfl rfl rfl hc22 ?_
            refine V_y (Y_move rfl) rfl rfl rfl ?_
            refine V_ge rfl rfl rfl hc22 ?_
            obtain ⟨x24, hx24, ho1⟩ := Option.bind_eq_some_iff.1 ho1
            refine V_y (Y_indexS hx24 Tryz.underlying9 rfl rfl) rfl rfl rfl ?_
            refine V_ge rfl rfl rfl hc22 ?_
            refine V_y (Y_neq rfl rfl) rfl rfl rfl ?_
            refine V_ge rfl rfl rfl hc21 ?_
            refine V_y (Y_pick_fe rfl hc22 rfl) rfl rfl rfl ?_
            refine V_y (Y_pick_te rfl hc21 rfl) rfl rfl rfl ?_
            refine V_y (Y_assign rfl) rfl rfl rfl ?_
            obtain rfl := Option.some.inj ho1
            refine V_end (fun a ha25 => ?_)
            exact ⟨A, ha25.sub ⟨rfl, trivial⟩, ⟨hH, hr3⟩⟩
        · rw [if_neg (nt hc21)] at ho1
          refine V_gn rfl rfl rfl hc21 rfl rfl rfl ?_
          refine V_gn rfl rfl rfl hc21 rfl rfl rfl ?_
          refine V_gn rfl rfl rfl hc21 rfl rfl rfl ?_
          refine V_gn rfl rfl rfl hc21 rfl rfl rfl ?_
          refine V_gu rfl rfl rfl rfl rfl ?_
          refine V_gu rfl rfl rfl rfl rfl ?_
          refine V_gu rfl rfl rfl rfl rfl ?_
          refine V_gn rfl rfl rfl hc21 rfl rfl rfl ?_
          refine V_y (Y_pick_fe rfl hc21 rfl) rfl rfl rfl ?_
          refine V_y (Y_assign rfl) rfl rfl rfl ?_
          obtain rfl := Option.some.inj ho1
          refine V_end (fun a ha26 => ?_)
          exact ⟨A, ha26.sub ⟨rfl, trivial⟩, ⟨hH, hr3⟩⟩
    · rw [if_neg (nt hc9)] at ho1
      refine V_gn rfl rfl rfl hc9 rfl rfl rfl ?_
      refine V_gn rfl rfl rfl hc9 rfl rfl rfl ?_
      refine V_gn rfl rfl rfl hc9 rfl rfl rfl ?_
      refine V_gn rfl rfl rfl hc9 rfl rfl rfl ?_
      refine V_y (Y_pick_fe rfl hc9 rfl) rfl rfl rfl ?_
      refine V_y (Y_move rfl) rfl rfl rfl ?_
      rcases Bool.eq_false_or_eq_true (false) with hc27 | hc27
      · rw [if_pos hc27] at ho1
        refine V_ge rfl rfl rfl hc27 ?_
        refine V_y (Y_move rfl) rfl rfl rfl ?_
        refine V_ge rfl rfl rfl hc27 ?_
        obtain ⟨x28, hx28, ho1⟩ := Option.bind_eq_some_iff.1 ho1
        refine V_call Tryz.call90 rfl rfl rfl rfl (strings_Trim_c w hA s (⟨#[48, 49, 50, 51, 52, 53, 54, 55, 56, 57]⟩ : ByteArray) hx28) ?_
        rintro _ w29 ⟨rfl, hk30⟩
        have ht31 := Kp.tr (Dw := False) hk30 hA hB
        replace hH := Hp.kp (Dw := False) hH hk30
        replace hK := Tr.trans (Dw := False) hK ht31
        replace hr3 := Tr.trans (Dw := False) hr3 ht31
        replace hB := Nat.le_trans hB ht31.ex.size
        replace hA := ht31.new
        refine V_ge rfl rfl rfl hc27 ?_
        refine V_y (Y_seql rfl rfl) rfl rfl rfl ?_
        refine V_y (Y_pick_te rfl hc27 rfl) rfl rfl rfl ?_
        refine V_y (Y_move rfl) rfl rfl rfl ?_
        rcases Bool.eq_false_or_eq_true (strEq x28 (⟨#[]⟩ : ByteArray)) with hc32 | hc32
        · rw [if_pos hc32] at ho1
          refine V_ge rfl rfl rfl hc32 ?_
          refine V_y (Y_move rfl) rfl rfl rfl ?_
          refine V_ge rfl rfl rfl hc32 ?_
          refine V_y (Y_lenStr rfl Tryz.underlying9 rfl) rfl rfl rfl ?_
          refine V_ge rfl rfl rfl hc32 ?_
          refine V_y (Y_eql rfl rfl) rfl rfl rfl ?_
          refine V_ge rfl rfl rfl hc32 ?_
          refine V_y (Y_move rfl) rfl rfl rfl ?_
          rcases Bool.eq_false_or_eq_true ((s.size : Int) == 1) with hc33 | hc33
          · rw [if_pos hc33] at ho1
            refine V_gn rfl rfl rfl hc33 rfl rfl rfl ?_
            refine V_gn rfl rfl rfl hc33 rfl rfl rfl ?_
            refine V_gn rfl rfl rfl hc33 rfl rfl rfl ?_
            refine V_ge rfl rfl rfl hc32 ?_
            refine V_y (Y_pick_te rfl hc33 rfl) rfl rfl rfl ?_
            refine V_y (Y_pick_te rfl hc32 rfl) rfl rfl rfl ?_
            refine V_y (Y_assign rfl) rfl rfl rfl ?_
            obtain rfl := Option.some.inj ho1
            refine V_end (fun a ha34 => ?_)
            exact ⟨A, ha34.sub ⟨rfl, trivial⟩, ⟨hH, hr3⟩⟩
          · rw [if_neg (nt hc33)] at ho1
            refine V_ge rfl rfl rfl hc33 ?_
            refine V_y (Y_move rfl) rfl rfl rfl ?_
            refine V_ge rfl rfl rfl hc33 ?_
            obtain ⟨x35, hx35, ho1⟩ := Option.bind_eq_some_iff.1 ho1
            refine V_y (Y_indexS hx35 Tryz.underlying9 rfl rfl) rfl rfl rfl ?_
            refine V_ge rfl rfl rfl hc33 ?_
            refine V_y (Y_neq rfl rfl) rfl rfl rfl ?_
            refine V_ge rfl rfl rfl hc32 ?_
            refine V_y (Y_pick_fe rfl hc33 rfl) rfl rfl rfl ?_
            refine V_y (Y_pick_te rfl hc32 rfl) rfl rfl rfl ?_
            refine V_y (Y_assign rfl) rfl rfl rfl ?_
            obtain rfl := Option.some.inj ho1
            refine V_end (fun a ha36 => ?_)
            exact ⟨A, ha36.sub ⟨rfl, trivial⟩, ⟨hH, hr3⟩⟩
        · rw [if_neg (nt hc32)] at ho1
          refine V_gn rfl rfl rfl hc32 rfl rfl rfl ?_
          refine V_gn rfl rfl rfl hc32 rfl rfl rfl ?_
          refine V_gn rfl rfl rfl hc32 rfl rfl rfl ?_
          refine V_gn rfl rfl rfl hc32 rfl rfl rfl ?_
          refine V_gu rfl rfl rfl rfl rfl ?_
          refine V_gu rfl rfl rfl rfl rfl ?_
          refine V_gu rfl rfl rfl rfl rfl ?_
          refine V_gn rfl rfl rfl hc32 rfl rfl rfl ?_
          refine V_y (Y_pick_fe rfl hc32 rfl) rfl rfl rfl ?_
          refine V_y (Y_assign rfl) rfl rfl rfl ?_
          obtain rfl := Option.some.inj ho1
          refine V_end (fun a ha37 => ?_)
          exact ⟨A, ha37.sub ⟨rfl, trivial⟩, ⟨hH, hr3⟩⟩
      · rw [if_neg (nt hc27)] at ho1
        refine V_gn rfl rfl rfl hc27 rfl rfl rfl ?_
        refine V_gn rfl rfl rfl hc27 rfl rfl rfl ?_
        refine V_gn rfl rfl rfl hc27 rfl rfl rfl ?_
        refine V_y (Y_pick_fe rfl hc27 rfl) rfl rfl rfl ?_
        refine V_y (Y_move rfl) rfl rfl rfl ?_
        rcases Bool.eq_false_or_eq_true (false) with hc38 | hc38
        · rw [if_pos hc38] at ho1
          refine V_ge rfl rfl rfl hc38 ?_
          refine V_y (Y_move rfl) rfl rfl rfl ?_
          refine V_ge rfl rfl rfl hc38 ?_
          refine V_y (Y_lenStr rfl Tryz.underlying9 rfl) rfl rfl rfl ?_
          refine V_ge rfl rfl rfl hc38 ?_
          refine V_y (Y_eql rfl rfl) rfl rfl rfl ?_
          refine V_ge rfl rfl rfl hc38 ?_
          refine V_y (Y_move rfl) rfl rfl rfl ?_
          rcases Bool.eq_false_or_eq_true ((s.size : Int) == 1) with hc39 | hc39
          · rw [if_pos hc39] at ho1
            refine V_gn rfl rfl rfl hc39 rfl rfl rfl ?_
            refine V_gn rfl rfl rfl hc39 rfl rfl rfl ?_
            refine V_gn rfl rfl rfl hc39 rfl rfl rfl ?_
            refine V_ge rfl rfl rfl hc38 ?_
            refine V_y (Y_pick_te rfl hc39 rfl) rfl rfl rfl ?_
            refine V_y (Y_pick_te rfl hc38 rfl) rfl rfl rfl ?_
            refine V_y (Y_assign rfl) rfl rfl rfl ?_
            obtain rfl := Option.some.inj ho1
            refine V_end (fun a ha40 => ?_)
            exact ⟨A, ha40.sub ⟨rfl, trivial⟩, ⟨hH, hr3⟩⟩
          · rw [if_neg (nt hc39)] at ho1
            refine V_ge rfl rfl rfl hc39 ?_
            refine V_y (Y_move rfl) rfl rfl rfl ?_
            refine V_ge rfl rfl rfl hc39 ?_
            obtain ⟨x41, hx41, ho1⟩ := Option.bind_eq_some_iff.1 ho1
            refine V_y (Y_indexS hx41 Tryz.underlying9 rfl rfl) rfl rfl rfl ?_
            refine V_ge rfl rfl rfl hc39 ?_
            refine V_y (Y_neq rfl rfl) rfl rfl rfl ?_
            refine V_ge rfl rfl rfl hc38 ?_
            refine V_y (Y_pick_fe rfl hc39 rfl) rfl rfl rfl ?_
            refine V_y (Y_pick_te rfl hc38 rfl) rfl rfl rfl ?_
            refine V_y (Y_assign rfl) rfl rfl rfl ?_
            obtain rfl := Option.some.inj ho1
            refine V_end (fun a ha42 => ?_)
            exact ⟨A, ha42.sub ⟨rfl, trivial⟩, ⟨hH, hr3⟩⟩
        · rw [if_neg (nt hc38)] at ho1
          refine V_gn rfl rfl rfl hc38 rfl rfl rfl ?_
          refine V_gn rfl rfl rfl hc38 rfl rfl rfl ?_
          refine V_gn rfl rfl rfl hc38 rfl rfl rfl ?_
          refine V_gn rfl rfl rfl hc38 rfl rfl rfl ?_
          refine V_gu rfl rfl rfl rfl rfl ?_
          refine V_gu rfl rfl rfl rfl rfl ?_
          refine V_gu rfl rfl rfl rfl rfl ?_
          refine V_gn rfl rfl rfl hc38 rfl rfl rfl ?_
          refine V_y (Y_pick_fe rfl hc38 rfl) rfl rfl rfl ?_
          refine V_y (Y_assign rfl) rfl rfl rfl ?_
          obtain rfl := Option.some.inj ho1
          refine V_end (fun a ha43 => ?_)
          exact ⟨A, ha43.sub ⟨rfl, trivial⟩, ⟨hH, hr3⟩⟩
  rintro A7 w4 ⟨hH8, hk5⟩ a ha6
  replace hK := Tr.trans (Dw := False) hK hk5
  replace hB := Nat.le_trans hB hk5.ex.size
  replace hA := hk5.new
  replace hH : Hp w.heap.size A7 w4 ([]) := hH8
  refine C_at (n := ⟨28, [], none⟩) (fun _ _ => rfl) ?_ ha6
  obtain rfl := Option.some.inj hm
  refine C_ret ?_
  try simp only [↓inBlock_ret, ↓then_ret]
  exact retQ rfl (Res.one Tryz.results75 rfl) ⟨rfl, hK.kp⟩

set_option maxRecDepth 4000 in
set_option maxHeartbeats 4000000 in
theorem portref2_number_c (w : World) {A : Nat → Prop} (hA : ∀ b, w.heap.size ≤ b → A b) (hT : Fz Tryz_FR A w) (s : ByteArray) (most : Int) {r : (Int × Bool)} (hm : portref2_number s most = some r) : Ret Tryz.prog 61 #[.string s, .int .i64 most] w fun v w' => v = .tuple #[.int .i64 r.1, .bool r.2] ∧ Kp False w w' := by
  unfold portref2_number at hm
  refine enter Tryz.func61 rfl Tryz.ntmps61 rfl ?_
  have hA0 := hA
  have hB := Nat.le_refl w.heap.size
  have hK : Tr False w.heap.size A w A w := Tr.refl (Dw := False) hA
  have hH : Hp w.heap.size A w [] := Hp.nil
  refine C_seq ?_
  refine C_region ?_
  refine V_y (Y_assign rfl) rfl rfl rfl ?_
  refine V_y (Y_assign rfl) rfl rfl rfl ?_
  refine V_to (fun _ _ => rfl) ?_
  refine C_seq ?_
  refine C_region ?_
  refine V_y (Y_move rfl) rfl rfl rfl ?_
  obtain ⟨x1, hx1, hm⟩ := Option.bind_eq_some_iff.1 hm
  refine V_call Tryz.call53 rfl rfl rfl rfl (strings_TrimPrefix_c w s (⟨#[45]⟩ : ByteArray) hx1) ?_
  rintro _ _ ⟨rfl, rfl⟩
  refine V_y (Y_assign rfl) rfl rfl rfl ?_
  refine V_to (fun _ _ => rfl) ?_
  refine C_seq ?_
  refine C_seq ?_
  refine C_region ?_
  refine V_y (Y_move rfl) rfl rfl rfl ?_
  refine V_y (Y_move rfl) rfl rfl rfl ?_
  obtain ⟨x2, hx2, hm⟩ := Option.bind_eq_some_iff.1 hm
  refine V_call Tryz.call75 rfl rfl rfl rfl (portref2_digits_c w hA x1 most hx2) ?_
  rintro _ w3 ⟨rfl, hk4⟩
  have ht5 := Kp.tr (Dw := False) hk4 hA hB
  replace hH := Hp.kp (Dw := False) hH hk4
  replace hK := Tr.trans (Dw := False) hK ht5
  replace hB := Nat.le_trans hB ht5.ex.size
  replace hA := ht5.new
  refine V_y (Y_not rfl) rfl rfl rfl ?_
  refine V_y (Y_move rfl) rfl rfl rfl ?_
  refine V_cut 7 (fun _ : Unit => [(0, .string s), (22, .bool ((!x2) || ((strEq x1 (⟨#[48]⟩ : ByteArray)) && (!(strEq s (⟨#[48]⟩ : ByteArray))))))]) (fun _ w' => w3 = w') ?_ ?_
  · simp only [List.take, List.drop]
    rcases Bool.eq_false_or_eq_true (!x2) with hc6 | hc6
    · refine V_gn rfl rfl rfl hc6 rfl rfl rfl ?_
      refine V_gn rfl rfl rfl hc6 rfl rfl rfl ?_
      refine V_gn rfl rfl rfl hc6 rfl rfl rfl ?_
      refine V_gu rfl rfl rfl rfl rfl ?_
      refine V_gu rfl rfl rfl rfl rfl ?_
      refine V_gn rfl rfl rfl hc6 rfl rfl rfl ?_
      refine V_y (Y_pick_te rfl hc6 rfl) rfl rfl rfl ?_
      exact V_end fun a ha => ⟨(), ha.sub ⟨rfl, (by rw [hc6]; rfl), trivial⟩, rfl⟩
    · refine V_ge rfl rfl rfl hc6 ?_
      refine V_y (Y_move rfl) rfl rfl rfl ?_
      refine V_ge rfl rfl rfl hc6 ?_
      refine V_y (Y_seql rfl rfl) rfl rfl rfl ?_
      refine V_ge rfl rfl rfl hc6 ?_
      refine V_y (Y_move rfl) rfl rfl rfl ?_
      refine V_cut 3 (fun _ : Unit => [(0, .string s), (15, .bool (!x2)), (21, .bool ((strEq x1 (⟨#[48]⟩ : ByteArray)) && (!(strEq s (⟨#[48]⟩ : ByteArray)))))]) (fun _ w' => w3 = w') ?_ ?_
      · simp only [List.take, List.drop]
        rcases Bool.eq_false_or_eq_true (strEq x1 (⟨#[48]⟩ : ByteArray)) with hc8 | hc8
        · refine V_ge rfl rfl rfl hc8 ?_
          refine V_y (Y_move rfl) rfl rfl rfl ?_
          refine V_ge rfl rfl rfl hc8 ?_
          refine V_y (Y_sneq rfl rfl) rfl rfl rfl ?_
          refine V_ge rfl rfl rfl hc6 ?_
          refine V_y (Y_pick_te rfl hc8 rfl) rfl rfl rfl ?_
          exact V_end fun a ha => ⟨(), ha.sub ⟨rfl, rfl, (by rw [hc8]; rfl), trivial⟩, rfl⟩
        · refine V_gn rfl rfl rfl hc8 rfl rfl rfl ?_
          refine V_gn rfl rfl rfl hc8 rfl rfl rfl ?_
          refine V_ge rfl rfl rfl hc6 ?_
          refine V_y (Y_pick_fe rfl hc8 rfl) rfl rfl rfl ?_
          exact V_end fun a ha => ⟨(), ha.sub ⟨rfl, rfl, (by rw [hc8]; rfl), trivial⟩, rfl⟩
      simp only [List.take, List.drop]
      rintro _ _ rfl
      refine V_y (Y_pick_fe rfl hc6 rfl) rfl rfl rfl ?_
      exact V_end fun a ha => ⟨(), ha.sub ⟨rfl, (by rw [hc6]; rfl), trivial⟩, rfl⟩
  simp only [List.take, List.drop]
  rintro _ _ rfl
  refine V_to (fun _ _ => rfl) ?_
  refine C_cond rfl (fun hc10 => ?_) (fun hc10 => ?_)
  · rw [if_pos hc10] at hm
    refine C_seq ?_
    refine C_region ?_
    refine V_y (Y_assign rfl) rfl rfl rfl ?_
    refine V_y (Y_assign rfl) rfl rfl rfl ?_
    refine V_to (fun _ _ => rfl) ?_
    obtain rfl := Option.some.inj hm
    refine C_ret ?_
    try simp only [↓inBlock_ret, ↓then_ret]
    exact retQ rfl (Res.two Tryz.results61 rfl rfl) ⟨rfl, hK.kp⟩
  · rw [if_neg (nt hc10)] at hm
    refine C_skip_to (fun _ _ => rfl) ?_
    refine C_seq ?_
    refine C_region ?_
    refine V_y (Y_move rfl) rfl rfl rfl ?_
    obtain ⟨x11, hx11, hm⟩ := Option.bind_eq_some_iff.1 hm
    refine V_call Tryz.call76 rfl rfl rfl rfl (strconv_Atoi_c w3 hA ⟨((Fz.tr (Dw := False) hT hK)).2.2.1, ((Fz.tr (Dw := False) hT hK)).2.2.2.1⟩ s hx11) ?_
    rintro _ w14 ⟨v12, rfl, h13, hk15⟩
    have ht16 := Kp.tr (Dw := False) hk15 hA hB
    replace hH := Hp.kp (Dw := False) hH hk15
    replace hK := Tr.trans (Dw := False) hK ht16
    replace hB := Nat.le_trans hB ht16.ex.size
    replace hA := ht16.new
    refine V_y (Y_move rfl) rfl rfl rfl ?_
    refine V_y (Y_extract rfl rfl) rfl rfl rfl ?_
    refine V_y (Y_extract rfl rfl) rfl rfl rfl ?_
    refine V_y (Y_assign rfl) rfl rfl rfl ?_
    refine V_y (Y_assign rfl) rfl rfl rfl ?_
    refine V_to (fun _ _ => rfl) ?_
    refine C_seq ?_
    refine C_region_q (Dw := False) Tryz_mixed (by kernel_rfl) ?_
    refine VQ_y (fun w' hw' => Y_move rfl) rfl rfl rfl ?_
    refine VQ_y (fun w' hw' => Y_move rfl) rfl rfl rfl ?_
    refine VQ_y (fun w' hw' => Y_eqlER h13 Tryz.underlying172 rfl) rfl rfl rfl ?_
    refine VQ_y (fun w' hw' => Y_assign rfl) rfl rfl rfl ?_
    refine VQ_y (fun w' hw' => Y_assign rfl) rfl rfl rfl ?_
    refine VQ_to (fun _ _ => rfl) (fun w17 hk18 => ?_)
    have ht19 := Kp.tr (Dw := False) hk18 hA hB
    replace hH := Hp.kp (Dw := False) hH hk18
    replace hK := Tr.trans (Dw := False) hK ht19
    replace hB := Nat.le_trans hB ht19.ex.size
    replace hA := ht19.new
    obtain rfl := Option.some.inj hm
    refine C_ret ?_
    try simp only [↓inBlock_ret, ↓then_ret]
    exact retQ rfl (Res.two Tryz.results61 rfl rfl) ⟨rfl, hK.kp⟩

end Go.Proofs.YtcbebdcofipcpaaGreatDoor.W
