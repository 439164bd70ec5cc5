/-
  Written by program (gen.py) from the IR of the dump: each function computes its model.
-/
import Derived.Test.YtcfmgjmpodpfiaaGreatDoorKnowPublishesW1
namespace Go.Proofs.YtcfmgjmpodpfiaaGreatDoor.W
open Go Go.RowKit Go.Pu Go.Gw Go.Proofs Go.Proofs.YtcfmgjmpodpfiaaGreatDoor.M
set_option linter.unusedVariables false
set_option linter.unusedSimpArgs false
variable {Dw : Prop}

set_option maxRecDepth 4000 in
set_option maxHeartbeats 4000000 in
theorem slices_Equal_Lknow_Version_know_Version_c (w : World) {A : Nat → Prop} (hA : ∀ b, w.heap.size ≤ b → A b) (s1 : (List know_Version)) (v_s1 : Value) (h_s1 : Sl A w v_s1 s1) (s2 : (List know_Version)) (v_s2 : Value) (h_s2 : Sl A w v_s2 s2) {r : Bool} (hm : slices_Equal_Lknow_Version_know_Version s1 s2 = some r) : Ret Tryz.prog 26 #[v_s1, v_s2] w fun v w' => v = .bool r ∧ Kp Dw w w' := by
  unfold slices_Equal_Lknow_Version_know_Version at hm
  refine enter Tryz.func26 rfl Tryz.ntmps26 rfl ?_
  have hA0 := hA
  have hB := Nat.le_refl w.heap.size
  have hK : Tr Dw w.heap.size A w A w := Tr.refl (Dw := Dw) hA
  have hH : Hp w.heap.size A w [] := Hp.nil
  refine C_seq ?_
  refine C_region ?_
  refine V_y (Y_assign rfl) rfl rfl rfl ?_
  refine V_to (fun _ _ => rfl) ?_
  refine C_seq ?_
  refine C_seq ?_
  refine C_region ?_
  refine V_y (Y_move rfl) rfl rfl rfl ?_
  refine V_y (Y_lenSl h_s1 rfl Tryz.underlying34 rfl) rfl rfl rfl ?_
  refine V_y (Y_move rfl) rfl rfl rfl ?_
  refine V_y (Y_lenSl h_s2 rfl Tryz.underlying34 rfl) rfl rfl rfl ?_
  refine V_y (Y_neq rfl rfl) rfl rfl rfl ?_
  refine V_to (fun _ _ => rfl) ?_
  refine C_cond rfl (fun hc5 => ?_) (fun hc5 => ?_)
  · rw [if_pos hc5] at hm
    refine C_seq ?_
    refine C_region ?_
    refine V_y (Y_assign rfl) rfl rfl rfl ?_
    refine V_to (fun _ _ => rfl) ?_
    obtain rfl := Option.some.inj hm
    refine C_ret ?_
    try simp only [↓inBlock_ret, ↓then_ret]
    exact retQ rfl (Res.one Tryz.results26 rfl) ⟨rfl, hK.kp⟩
  · rw [if_neg (nt hc5)] at hm
    refine C_skip_to (fun _ _ => rfl) ?_
    refine C_seq ?_
    refine C_seq ?_
    refine C_region ?_
    refine V_y (Y_move rfl) rfl rfl rfl ?_
    refine V_y (Y_lenSl h_s1 rfl Tryz.underlying34 rfl) rfl rfl rfl ?_
    refine V_y (Y_move rfl) rfl rfl rfl ?_
    refine V_to (fun _ _ => rfl) ?_
    have hn27 := Sl.le h_s1
    obtain ⟨o6, ho6, hm⟩ := Option.bind_eq_some_iff.1 hm
    refine C_cutG (ι := (Unit × (Nat → Prop))) (fun ⟨s7, A13⟩ => []) (fun ⟨s7, A13⟩ => fun w' => o6 = .fin s7 ∧ Hp w.heap.size A13 w' ([]) ∧ Tr Dw w.heap.size A w A13 w') ?_ ?_
    · refine C_block ?_
      refine C_range ho6 (fun k9 _ a w' => ∃ i : (Nat → Prop), Has ⟨26, [], none⟩ a ([(0, v_s1), (1, v_s2), (12, .int .i64 (s1.length : Int)), (13, .int .i64 (k9 : Int))]) ∧ Hp w.heap.size i w' ([]) ∧ Tr Dw w.heap.size A w i w') (fun a ha => ⟨A, ha.sub ⟨rfl, rfl, rfl, rfl, trivial⟩, ⟨hH, Tr.refl (Dw := Dw) hA⟩⟩) ?_
      rintro K k9 _ a w17 ⟨A18, ha45, hH19, hr8⟩ hle23 K26 h25
      refine C_of ?_ ha45
      replace h_s1 := Sl.tr (Dw := Dw) h_s1 hr8
      replace h_s2 := Sl.tr (Dw := Dw) h_s2 hr8
      replace hK := Tr.trans (Dw := Dw) hK hr8
      replace hB := Nat.le_trans hB hr8.ex.size
      replace hA := hr8.new
      replace hH : Hp w.heap.size A18 w17 ([]) := hH19
      refine C_seq (C_region (V_y (Y_lss rfl rfl) rfl rfl rfl (V_to (fun _ _ => rfl) ?_)))
      refine C_seq ?_
      refine C_cond rfl (fun hc28 => ?_) (fun hc28 => ?_)
      · have hlt24 := lt_of_dec hc28
        obtain ⟨x20, h21, h22⟩ := K26 hlt24
        refine C_skip_to (fun _ _ => rfl) ?_
        refine C_seq ?_
        refine C_block ?_
        refine C_seq ?_
        refine C_region ?_
        refine V_y (Y_move rfl) rfl rfl rfl ?_
        refine V_y (Y_assign rfl) rfl rfl rfl ?_
        refine V_to (fun _ _ => rfl) ?_
        refine C_seq ?_
        refine C_region_q (Dw := Dw) Tryz_mixed (by kernel_rfl) ?_
        refine VQ_y (fun w' hw' => Y_move rfl) rfl rfl rfl ?_
        refine VQ_y (fun w' hw' => Y_move rfl) rfl rfl rfl ?_
        obtain ⟨x29, hx29, h21⟩ := Option.bind_eq_some_iff.1 h21
        refine VQ_indexAddr h_s1 hx29 Tryz.underlying34 Tryz.sizeOf24 rfl rfl rfl ?_
        intro b30 o31 h32
        obtain ⟨h33, _⟩ := El_know_Version h32
        refine VQ_y (fun w' hw' => Y_loadA (At.kp (Dw := Dw) h33 hw' h32.2.1) Tryz.isAgg24 Tryz.sizeOf24 rfl) rfl rfl rfl ?_
        refine VQ_y (fun w' hw' => Y_move rfl) rfl rfl rfl ?_
        refine VQ_y (fun w' hw' => Y_move rfl) rfl rfl rfl ?_
        obtain ⟨x34, hx34, h21⟩ := Option.bind_eq_some_iff.1 h21
        refine VQ_indexAddr h_s2 hx34 Tryz.underlying34 Tryz.sizeOf24 rfl rfl rfl ?_
        intro b35 o36 h37
        obtain ⟨h38, _⟩ := El_know_Version h37
        refine VQ_y (fun w' hw' => Y_loadA (At.kp (Dw := Dw) h38 hw' h37.2.1) Tryz.isAgg24 Tryz.sizeOf24 rfl) rfl rfl rfl ?_
        refine VQ_y (fun w' hw' => Y_neqA (fun w => Tryz_eqt24_10000 x29.at_ x29.title x29.body x34.at_ x34.title x34.body w) Tryz_eqg24 rfl rfl) rfl rfl rfl ?_
        refine VQ_to (fun _ _ => rfl) (fun w39 hk40 => ?_)
        have ht41 := Kp.tr (Dw := Dw) hk40 hA hB
        replace hH := Hp.kp (Dw := Dw) hH hk40
        replace h_s1 := Sl.tr (Dw := Dw) h_s1 ht41
        replace h_s2 := Sl.tr (Dw := Dw) h_s2 ht41
        replace hK := Tr.trans (Dw := Dw) hK ht41
        replace hr8 := Tr.trans (Dw := Dw) hr8 ht41
        replace hB := Nat.le_trans hB ht41.ex.size
        replace hA := ht41.new
        refine C_cond rfl (fun hc42 => ?_) (fun hc42 => ?_)
        · rw [if_pos hc42] at h21
          refine C_seq ?_
          refine C_region ?_
          refine V_y (Y_assign rfl) rfl rfl rfl ?_
          refine V_to (fun _ _ => rfl) ?_
          obtain rfl := Option.some.inj h21
          obtain rfl := (h22 : Lp.rt _ = _)
          rw [Lp.andThen_rt] at hm
          obtain rfl := Option.some.inj hm
          refine C_ret ?_
          try simp only [↓inBlock_ret, ↓then_ret]
          exact retQ rfl (Res.one Tryz.results26 rfl) ⟨rfl, hK.kp⟩
        · rw [if_neg (nt hc42)] at h21
          refine C_skip_to (fun _ _ => rfl) ?_
          refine C_region ?_
          refine V_y (Y_addI rfl rfl) rfl rfl rfl ?_
          refine V_y (Y_move rfl) rfl rfl rfl ?_
          obtain rfl := Option.some.inj h21
          refine V_end (fun a ha43 => ?_)
          exact ⟨(), hlt24, h22, ⟨A18, ha43.sub ⟨rfl, rfl, rfl, (congrArg (fun z => some (Value.int .i64 z)) (w64_succ hlt24 hn27)), trivial⟩, ⟨hH, hr8⟩⟩⟩
      · refine C_exit (fun a ha44 => ?_)
        exact ⟨((), A18), ha44.sub trivial, ⟨(h25 (eq_of_dec hle23 hc28)).symm, hH, hr8⟩⟩
    rintro ⟨s7, A13⟩ w10 ⟨rfl, hH14, hk11⟩ a ha12
    rw [Lp.andThen_fin] at hm
    replace hK := Tr.trans (Dw := Dw) hK hk11
    replace hB := Nat.le_trans hB hk11.ex.size
    replace hA := hk11.new
    replace hH : Hp w.heap.size A13 w10 ([]) := hH14
    refine C_at (n := ⟨26, [], none⟩) (fun _ _ => rfl) ?_ ha12
    refine C_seq ?_
    refine C_region ?_
    refine V_y (Y_assign rfl) rfl rfl rfl ?_
    refine V_to (fun _ _ => rfl) ?_
    obtain rfl := Option.some.inj hm
    refine C_ret ?_
    try simp only [↓inBlock_ret, ↓then_ret]
    exact retQ rfl (Res.one Tryz.results26 rfl) ⟨rfl, hK.kp⟩

set_option maxRecDepth 4000 in
set_option maxHeartbeats 4000000 in
theorem portref2_Alike_2_c (w : World) {A : Nat → Prop} (hA : ∀ b, w.heap.size ≤ b → A b) (a_ : know_Article) (v_a_ : Value) (h_a_ : Sl A w v_a_ a_.versions) (b : know_Article) (v_b : Value) (h_b : Sl A w v_b b.versions) {r : Bool} (hm : portref2_Alike_2 a_ b = some r) : Ret Tryz.prog 25 #[.agg #[.int .i64 a_.id_, .int .i64 a_.group, v_a_], .agg #[.int .i64 b.id_, .int .i64 b.group, v_b]] w fun v w' => v = .bool r ∧ Kp Dw w w' := by
  unfold portref2_Alike_2 at hm
  refine enter Tryz.func25 rfl Tryz.ntmps25 rfl ?_
  have hA0 := hA
  have hB := Nat.le_refl w.heap.size
  have hK : Tr Dw w.heap.size A w A w := Tr.refl (Dw := Dw) hA
  have hH : Hp w.heap.size A w [] := Hp.nil
  refine C_seq ?_
  refine C_region ?_
  refine V_box rfl rfl ?_
  intro b5 w6 h7
  have hk9 := h7.kp (Dw := Dw)
  have h8 : El (α := know_Article) A w6 b5 0 a_ := h7.el hA ⟨[.int .i64 a_.id_], _, rfl, rfl, ⟨[.int .i64 a_.group], _, rfl, rfl, ⟨_, rfl, h_a_⟩⟩⟩
  have ht10 := Kp.tr (Dw := Dw) hk9 hA hB
  replace hH := Hp.kp (Dw := Dw) hH hk9
  replace h_a_ := Sl.tr (Dw := Dw) h_a_ ht10
  replace h_b := Sl.tr (Dw := Dw) h_b ht10
  replace hK := Tr.trans (Dw := Dw) hK ht10
  replace hB := Nat.le_trans hB ht10.ex.size
  replace hA := ht10.new
  refine V_box rfl rfl ?_
  intro b11 w12 h13
  have hk15 := h13.kp (Dw := Dw)
  have h14 : El (α := know_Article) A w12 b11 0 b := h13.el hA ⟨[.int .i64 b.id_], _, rfl, rfl, ⟨[.int .i64 b.group], _, rfl, rfl, ⟨_, rfl, h_b⟩⟩⟩
  have ht16 := Kp.tr (Dw := Dw) hk15 hA hB
  replace hH := Hp.kp (Dw := Dw) hH hk15
  replace h_a_ := Sl.tr (Dw := Dw) h_a_ ht16
  replace h_b := Sl.tr (Dw := Dw) h_b ht16
  replace h8 := El.tr (Dw := Dw) h8 ht16
  replace hK := Tr.trans (Dw := Dw) hK ht16
  replace hB := Nat.le_trans hB ht16.ex.size
  replace hA := ht16.new
  refine V_y (Y_assign rfl) rfl rfl rfl ?_
  refine V_to (fun _ _ => rfl) ?_
  refine C_seq ?_
  obtain ⟨s18, ho17, hm⟩ := Option.bind_eq_some_iff.1 hm
  refine C_cutG (ι := (Nat → Prop)) (fun (A23 : (Nat → Prop)) => [(4, .bool s18)]) (fun (A23 : (Nat → Prop)) => fun w' => Hp w.heap.size A23 w' ([]) ∧ Tr Dw w.heap.size A w12 A23 w') ?_ ?_
  · have hr19 : Tr Dw w.heap.size A w12 A w12 := Tr.refl (Dw := Dw) hA
    refine C_region ?_
    have h25 := El_know_Article_0 h8
    refine V_y (Y_fieldAddr Tryz.underlying36 rfl Tryz.sizeOf3 (by decide) rfl) rfl rfl rfl ?_
    refine V_y (Y_load (El.int h25) Tryz.isAgg3 rfl) rfl rfl rfl ?_
    have h26 := El_know_Article_0 h14
    refine V_y (Y_fieldAddr Tryz.underlying36 rfl Tryz.sizeOf3 (by decide) rfl) rfl rfl rfl ?_
    refine V_y (Y_load (El.int h26) Tryz.isAgg3 rfl) rfl rfl rfl ?_
    refine V_y (Y_eql rfl rfl) rfl rfl rfl ?_
    refine V_y (Y_move rfl) rfl rfl rfl ?_
    rcases Bool.eq_false_or_eq_true (a_.id_ == b.id_) with hc27 | hc27
    · rw [if_pos hc27] at ho17
      refine V_ge rfl rfl rfl hc27 ?_
      have h28 := El_know_Article_1 h8
      refine V_y (Y_fieldAddr Tryz.underlying36 rfl Tryz.sizeOf3 (by decide) rfl) rfl rfl rfl ?_
      refine V_ge rfl rfl rfl hc27 ?_
      refine V_y (Y_load (El.int h28) Tryz.isAgg3 rfl) rfl rfl rfl ?_
      refine V_ge rfl rfl rfl hc27 ?_
      have h29 := El_know_Article_1 h14
      refine V_y (Y_fieldAddr Tryz.underlying36 rfl Tryz.sizeOf3 (by decide) rfl) rfl rfl rfl ?_
      refine V_ge rfl rfl rfl hc27 ?_
      refine V_y (Y_load (El.int h29) Tryz.isAgg3 rfl) rfl rfl rfl ?_
      refine V_ge rfl rfl rfl hc27 ?_
      refine V_y (Y_eql rfl rfl) rfl rfl rfl ?_
      refine V_y (Y_pick_te rfl hc27 rfl) rfl rfl rfl ?_
      refine V_y (Y_move rfl) rfl rfl rfl ?_
      rcases Bool.eq_false_or_eq_true (a_.group == b.group) with hc30 | hc30
      · rw [if_pos hc30] at ho17
        refine V_ge rfl rfl rfl hc30 ?_
        have h31 := El_know_Article_2 h8
        refine V_y (Y_fieldAddr Tryz.underlying36 rfl Tryz.sizeOf34 (by decide) rfl) rfl rfl rfl ?_
        refine V_ge rfl rfl rfl hc30 ?_
        obtain ⟨v32, h33, h34⟩ := El.list h31
        refine V_y (Y_load h33 Tryz.isAgg34 rfl) rfl rfl rfl ?_
        refine V_ge rfl rfl rfl hc30 ?_
        have h35 := El_know_Article_2 h14
        refine V_y (Y_fieldAddr Tryz.underlying36 rfl Tryz.sizeOf34 (by decide) rfl) rfl rfl rfl ?_
        refine V_ge rfl rfl rfl hc30 ?_
        obtain ⟨v36, h37, h38⟩ := El.list h35
        refine V_y (Y_load h37 Tryz.isAgg34 rfl) rfl rfl rfl ?_
        refine V_ge rfl rfl rfl hc30 ?_
        obtain ⟨x39, hx39, ho17⟩ := Option.bind_eq_some_iff.1 ho17
        refine V_call Tryz.call26 rfl rfl rfl rfl (slices_Equal_Lknow_Version_know_Version_c (Dw := Dw) w12 hA a_.versions v32 h34 b.versions v36 h38 hx39) ?_
        rintro _ w40 ⟨rfl, hk41⟩
        have ht42 := Kp.tr (Dw := Dw) hk41 hA hB
        replace hH := Hp.kp (Dw := Dw) hH hk41
        replace h8 := El.tr (Dw := Dw) h8 ht42
        replace h14 := El.tr (Dw := Dw) h14 ht42
        replace h25 := El.tr (Dw := Dw) h25 ht42
        replace h26 := El.tr (Dw := Dw) h26 ht42
        replace h28 := El.tr (Dw := Dw) h28 ht42
        replace h29 := El.tr (Dw := Dw) h29 ht42
        replace h31 := El.tr (Dw := Dw) h31 ht42
        replace h34 := Sl.tr (Dw := Dw) h34 ht42
        replace h35 := El.tr (Dw := Dw) h35 ht42
        replace h38 := Sl.tr (Dw := Dw) h38 ht42
        replace hK := Tr.trans (Dw := Dw) hK ht42
        replace hr19 := Tr.trans (Dw := Dw) hr19 ht42
        replace hB := Nat.le_trans hB ht42.ex.size
        replace hA := ht42.new
        refine V_y (Y_pick_te rfl hc30 rfl) rfl rfl rfl ?_
        refine V_y (Y_assign rfl) rfl rfl rfl ?_
        obtain rfl := Option.some.inj ho17
        refine V_end (fun a ha43 => ?_)
        exact ⟨A, ha43.sub ⟨rfl, trivial⟩, ⟨hH, hr19⟩⟩
      · rw [if_neg (nt hc30)] at ho17
        refine V_gn rfl rfl rfl hc30 rfl rfl rfl ?_
        refine V_gn rfl rfl rfl hc30 rfl rfl rfl ?_
        refine V_gn rfl rfl rfl hc30 rfl rfl rfl ?_
        refine V_gn rfl rfl rfl hc30 rfl rfl rfl ?_
        refine V_gn rfl rfl rfl hc30 rfl rfl rfl ?_
        refine V_y (Y_pick_fe rfl hc30 rfl) rfl rfl rfl ?_
        refine V_y (Y_assign rfl) rfl rfl rfl ?_
        obtain rfl := Option.some.inj ho17
        refine V_end (fun a ha44 => ?_)
        exact ⟨A, ha44.sub ⟨rfl, trivial⟩, ⟨hH, hr19⟩⟩
    · rw [if_neg (nt hc27)] at ho17
      refine V_gn rfl rfl rfl hc27 rfl rfl rfl ?_
      refine V_gn rfl rfl rfl hc27 rfl rfl rfl ?_
      refine V_gn rfl rfl rfl hc27 rfl rfl rfl ?_
      refine V_gn rfl rfl rfl hc27 rfl rfl rfl ?_
      refine V_gn rfl rfl rfl hc27 rfl rfl rfl ?_
      refine V_y (Y_pick_fe rfl hc27 rfl) rfl rfl rfl ?_
      refine V_y (Y_move rfl) rfl rfl rfl ?_
      rcases Bool.eq_false_or_eq_true (false) with hc45 | hc45
      · rw [if_pos hc45] at ho17
        refine V_ge rfl rfl rfl hc45 ?_
        have h46 := El_know_Article_2 h8
        refine V_y (Y_fieldAddr Tryz.underlying36 rfl Tryz.sizeOf34 (by decide) rfl) rfl rfl rfl ?_
        refine V_ge rfl rfl rfl hc45 ?_
        obtain ⟨v47, h48, h49⟩ := El.list h46
        refine V_y (Y_load h48 Tryz.isAgg34 rfl) rfl rfl rfl ?_
        refine V_ge rfl rfl rfl hc45 ?_
        have h50 := El_know_Article_2 h14
        refine V_y (Y_fieldAddr Tryz.underlying36 rfl Tryz.sizeOf34 (by decide) rfl) rfl rfl rfl ?_
        refine V_ge rfl rfl rfl hc45 ?_
        obtain ⟨v51, h52, h53⟩ := El.list h50
        refine V_y (Y_load h52 Tryz.isAgg34 rfl) rfl rfl rfl ?_
        refine V_ge rfl rfl rfl hc45 ?_
        obtain ⟨x54, hx54, ho17⟩ := Option.bind_eq_some_iff.1 ho17
        refine V_call Tryz.call26 rfl rfl rfl rfl (slices_Equal_Lknow_Version_know_Version_c (Dw := Dw) w12 hA a_.versions v47 h49 b.versions v51 h53 hx54) ?_
        rintro _ w55 ⟨rfl, hk56⟩
        have ht57 := Kp.tr (Dw := Dw) hk56 hA hB
        replace hH := Hp.kp (Dw := Dw) hH hk56
        replace h8 := El.tr (Dw := Dw) h8 ht57
        replace h14 := El.tr (Dw := Dw) h14 ht57
        replace h25 := El.tr (Dw := Dw) h25 ht57
        replace h26 := El.tr (Dw := Dw) h26 ht57
        replace h46 := El.tr (Dw := Dw) h46 ht57
        replace h49 := Sl.tr (Dw := Dw) h49 ht57
        replace h50 := El.tr (Dw := Dw) h50 ht57
        replace h53 := Sl.tr (Dw := Dw) h53 ht57
        replace hK := Tr.trans (Dw := Dw) hK ht57
        replace hr19 := Tr.trans (Dw := Dw) hr19 ht57
        replace hB := Nat.le_trans hB ht57.ex.size
        replace hA := ht57.new
        refine V_y (Y_pick_te rfl hc45 rfl) rfl rfl rfl ?_
        refine V_y (Y_assign rfl) rfl rfl rfl ?_
        obtain rfl := Option.some.inj ho17
        refine V_end (fun a ha58 => ?_)
        exact ⟨A, ha58.sub ⟨rfl, trivial⟩, ⟨hH, hr19⟩⟩
      · rw [if_neg (nt hc45)] at ho17
        refine V_gn rfl rfl rfl hc45 rfl rfl rfl ?_
        refine V_gn rfl rfl rfl hc45 rfl rfl rfl ?_
        refine V_gn rfl rfl rfl hc45 rfl rfl rfl ?_
        refine V_gn rfl rfl rfl hc45 rfl rfl rfl ?_
        refine V_gn rfl rfl rfl hc45 rfl rfl rfl ?_
        refine V_y (Y_pick_fe rfl hc45 rfl) rfl rfl rfl ?_
        refine V_y (Y_assign rfl) rfl rfl rfl ?_
        obtain rfl := Option.some.inj ho17
        refine V_end (fun a ha59 => ?_)
        exact ⟨A, ha59.sub ⟨rfl, trivial⟩, ⟨hH, hr19⟩⟩
  rintro A23 w20 ⟨hH24, hk21⟩ a ha22
  replace hK := Tr.trans (Dw := Dw) hK hk21
  replace hB := Nat.le_trans hB hk21.ex.size
  replace hA := hk21.new
  replace hH : Hp w.heap.size A23 w20 ([]) := hH24
  refine C_at (n := ⟨24, [], none⟩) (fun _ _ => rfl) ?_ ha22
  obtain rfl := Option.some.inj hm
  refine C_ret ?_
  try simp only [↓inBlock_ret, ↓then_ret]
  exact retQ rfl (Res.one Tryz.results25 rfl) ⟨rfl, hK.kp⟩

set_option maxRecDepth 4000 in
set_option maxHeartbeats 4000000 in
theorem portref2_Alike_c (w : World) {A : Nat → Prop} (hA : ∀ b, w.heap.size ≤ b → A b) (a_ : (List know_Article)) (v_a_ : Value) (h_a_ : Sl A w v_a_ a_) (b : (List know_Article)) (v_b : Value) (h_b : Sl A w v_b b) {r : Bool} (hm : portref2_Alike a_ b = some r) : Ret Tryz.prog 8 #[.iface 22 v_a_, .iface 22 v_b] w fun v w' => v = .bool r ∧ Kp Dw w w' := by
  unfold portref2_Alike at hm
  refine enter Tryz.func8 rfl Tryz.ntmps8 rfl ?_
  have hA0 := hA
  have hB := Nat.le_refl w.heap.size
  have hK : Tr Dw w.heap.size A w A w := Tr.refl (Dw := Dw) hA
  have hH : Hp w.heap.size A w [] := Hp.nil
  refine C_seq ?_
  refine C_region ?_
  refine V_y (Y_assign rfl) rfl rfl rfl ?_
  refine V_to (fun _ _ => rfl) ?_
  refine C_seq ?_
  refine C_seq ?_
  refine C_region ?_
  refine V_y (Y_move rfl) rfl rfl rfl ?_
  refine V_to (fun _ _ => rfl) ?_
  refine C_block ?_
  refine C_seq ?_
  refine C_region ?_
  refine V_y (Y_asNS Tryz.underlying51 Tryz.zeroValue51 (by decide) rfl) rfl rfl rfl ?_
  refine V_y (Y_extract rfl rfl) rfl rfl rfl ?_
  refine V_y (Y_extract rfl rfl) rfl rfl rfl ?_
  refine V_to (fun _ _ => rfl) ?_
  refine C_cond rfl (fun hc => ?_) (fun hc => ?_)
  · exact absurd hc (by decide)
  · refine C_seq ?_
    refine C_region ?_
    refine V_y (Y_asIL Tryz.underlying22 rfl) rfl rfl rfl ?_
    refine V_y (Y_extract rfl rfl) rfl rfl rfl ?_
    refine V_y (Y_extract rfl rfl) rfl rfl rfl ?_
    refine V_to (fun _ _ => rfl) ?_
    refine C_cond rfl (fun hc => ?_) (fun hc => ?_)
    · refine C_seq ?_
      refine C_region ?_
      refine V_y (Y_assign rfl) rfl rfl rfl ?_
      refine V_to (fun _ _ => rfl) ?_
      refine C_seq ?_
      refine C_region ?_
      refine V_y (Y_move rfl) rfl rfl rfl ?_
      refine V_y (Y_asIL Tryz.underlying22 rfl) rfl rfl rfl ?_
      refine V_y (Y_move rfl) rfl rfl rfl ?_
      refine V_y (Y_extract rfl rfl) rfl rfl rfl ?_
      refine V_y (Y_extract rfl rfl) rfl rfl rfl ?_
      refine V_y (Y_assign rfl) rfl rfl rfl ?_
      refine V_y (Y_assign rfl) rfl rfl rfl ?_
      refine V_to (fun _ _ => rfl) ?_
      refine C_seq ?_
      obtain ⟨s6, ho5, hm⟩ := Option.bind_eq_some_iff.1 hm
      refine C_cutG (ι := (Nat → Prop)) (fun (A12 : (Nat → Prop)) => [(4, .bool s6)]) (fun (A12 : (Nat → Prop)) => fun w' => Hp w.heap.size A12 w' ([]) ∧ Tr Dw w.heap.size A w A12 w') ?_ ?_
      · have hr7 : Tr Dw w.heap.size A w A w := Tr.refl (Dw := Dw) hA
        refine C_region ?_
        refine V_y (Y_move rfl) rfl rfl rfl ?_
        refine V_y (Y_move rfl) rfl rfl rfl ?_
        rcases Bool.eq_false_or_eq_true (true) with hc14 | hc14
        · rw [if_pos hc14] at ho5
          refine V_ge rfl rfl rfl hc14 ?_
          refine V_y (Y_move rfl) rfl rfl rfl ?_
          refine V_ge rfl rfl rfl hc14 ?_
          refine V_y (Y_move rfl) rfl rfl rfl ?_
          refine V_ge rfl rfl rfl hc14 ?_
          obtain ⟨x17, hx17, ho5⟩ := Option.bind_eq_some_iff.1 ho5
          refine V_call Tryz.call24 rfl rfl rfl rfl (slices_EqualFunc_Lknow_Article_Lknow_Article_know_Article_know_Article_c (Dw := Dw) w hA a_ v_a_ h_a_ b v_b h_b (fun y30 y31 => portref2_Alike_2 y30 y31) 25 #[] #[] Tryz.call25 (fun w26 A27 ht28 h29 y18 v19 h20 y21 v22 h23 r24 h25 => (portref2_Alike_2_c (Dw := Dw) w26 h29 y18 v19 h20 y21 v22 h23  h25).mono (fun _ _ h => ⟨h.1, h.2⟩)) hx17) ?_
          rintro _ w33 ⟨rfl, hk34⟩
          have ht35 := Kp.tr (Dw := Dw) hk34 hA hB
          replace hH := Hp.kp (Dw := Dw) hH hk34
          replace h_a_ := Sl.tr (Dw := Dw) h_a_ ht35
          replace h_b := Sl.tr (Dw := Dw) h_b ht35
          replace hK := Tr.trans (Dw := Dw) hK ht35
          replace hr7 := Tr.trans (Dw := Dw) hr7 ht35
          replace hB := Nat.le_trans hB ht35.ex.size
          replace hA := ht35.new
          refine V_y (Y_pick_te rfl hc14 rfl) rfl rfl rfl ?_
          refine V_y (Y_assign rfl) rfl rfl rfl ?_
          obtain rfl := Option.some.inj ho5
          refine V_end (fun a ha36 => ?_)
          exact ⟨A, ha36.sub ⟨rfl, trivial⟩, ⟨hH, hr7⟩⟩
        · rw [if_neg (nt hc14)] at ho5
          refine V_gn rfl rfl rfl hc14 rfl rfl rfl ?_
          refine V_gn rfl rfl rfl hc14 rfl rfl rfl ?_
          refine V_gn rfl rfl rfl hc14 rfl rfl rfl ?_
          refine V_y (Y_pick_fe rfl hc14 rfl) rfl rfl rfl ?_
          refine V_y (Y_assign rfl) rfl rfl rfl ?_
          obtain rfl := Option.some.inj ho5
          refine V_end (fun a ha37 => ?_)
          exact ⟨A, ha37.sub ⟨rfl, trivial⟩, ⟨hH, hr7⟩⟩
      rintro A12 w9 ⟨hH13, hk10⟩ a ha11
      replace hK := Tr.trans (Dw := Dw) hK hk10
      replace hB := Nat.le_trans hB hk10.ex.size
      replace hA := hk10.new
      replace hH : Hp w.heap.size A12 w9 ([]) := hH13
      refine C_at (n := ⟨248, [], none⟩) (fun _ _ => rfl) ?_ ha11
      obtain rfl := Option.some.inj hm
      refine C_ret ?_
      try simp only [↓inBlock_ret, ↓then_ret]
      exact retQ rfl (Res.one Tryz.results8 rfl) ⟨rfl, hK.kp⟩
    · exact absurd hc (by decide)

set_option maxRecDepth 4000 in
set_option maxHeartbeats 4000000 in
theorem portlaw2_KnowPublishes_c (w : World) {A : Nat → Prop} (hA : ∀ b, w.heap.size ≤ b → A b) (hT : Mx Tryz.prog 0 A w) (l : (List know_Article)) (v_l : Value) (h_l : Sl A w v_l l) (id_ : Int) (number : Int) (m : Int) (v : know_Version) {r : Bool} (hm : portlaw2_KnowPublishes l id_ number m v = some r) : Ret Tryz.prog 3 #[v_l, .int .i64 id_, .int .i64 number, .int .i64 m, .agg #[.int .i64 v.at_, .string v.title, .string v.body]] w fun v w' => v = .bool r ∧ Kp False w w' := by
  unfold portlaw2_KnowPublishes at hm
  refine enter Tryz.func3 rfl Tryz.ntmps3 rfl ?_
  have hA0 := hA
  have hB := Nat.le_refl w.heap.size
  have hK : Tr False w.heap.size A w A w := Tr.refl (Dw := False) hA
  have hH : Hp w.heap.size A w [] := Hp.nil
  refine C_seq ?_
  refine C_region ?_
  refine V_box rfl rfl ?_
  intro b3 w4 h5
  have hk7 := h5.kp (Dw := False)
  have h6 : El (α := know_Version) A w4 b3 0 v := h5.el hA ⟨[.int .i64 v.at_], _, rfl, rfl, ⟨[.string v.title], _, rfl, rfl, rfl⟩⟩
  have ht8 := Kp.tr (Dw := False) hk7 hA hB
  replace hH := Hp.kp (Dw := False) hH hk7
  replace h_l := Sl.tr (Dw := False) h_l ht8
  replace hK := Tr.trans (Dw := False) hK ht8
  replace hB := Nat.le_trans hB ht8.ex.size
  replace hA := ht8.new
  refine V_y (Y_assign rfl) rfl rfl rfl ?_
  refine V_to (fun _ _ => rfl) ?_
  refine C_seq ?_
  refine C_region ?_
  refine V_y (Y_move rfl) rfl rfl rfl ?_
  refine V_y (Y_move rfl) rfl rfl rfl ?_
  obtain ⟨h9, _⟩ := El_know_Version h6
  refine V_y (Y_loadA h9 Tryz.isAgg24 Tryz.sizeOf24 rfl) rfl rfl rfl ?_
  obtain ⟨x10, hx10, hm⟩ := Option.bind_eq_some_iff.1 hm
  refine V_call Tryz.call4 rfl rfl rfl rfl (know_Publish_c (Dw := False) w4 hA (Mx.tr (Dw := False) hT hK) l v_l h_l id_ v hx10) ?_
  rintro _ w13 ⟨v11, rfl, h12, hk14⟩
  have ht15 := Kp.tr (Dw := False) hk14 hA hB
  replace hH := Hp.kp (Dw := False) hH hk14
  replace h_l := Sl.tr (Dw := False) h_l ht15
  replace h6 := El.tr (Dw := False) h6 ht15
  replace hK := Tr.trans (Dw := False) hK ht15
  replace hB := Nat.le_trans hB ht15.ex.size
  replace hA := ht15.new
  refine V_y (Y_move rfl) rfl rfl rfl ?_
  refine V_y (Y_extract rfl rfl) rfl rfl rfl ?_
  refine V_y (Y_extract rfl rfl) rfl rfl rfl ?_
  refine V_y (Y_assign rfl) rfl rfl rfl ?_
  refine V_y (Y_assign rfl) rfl rfl rfl ?_
  refine V_to (fun _ _ => rfl) ?_
  refine C_seq ?_
  refine C_region ?_
  refine V_y (Y_move rfl) rfl rfl rfl ?_
  refine V_y (Y_move rfl) rfl rfl rfl ?_
  obtain ⟨h16, _⟩ := El_know_Version h6
  refine V_y (Y_loadA h16 Tryz.isAgg24 Tryz.sizeOf24 rfl) rfl rfl rfl ?_
  obtain ⟨x17, hx17, hm⟩ := Option.bind_eq_some_iff.1 hm
  refine V_call Tryz.call5 rfl rfl rfl rfl (portref2_PublishOf_c w13 hB hA (Mx.tr (Dw := False) hT hK) l v_l h_l id_ v hH hx17) ?_
  rintro _ w20 ⟨v18, A21, rfl, hH22, ht23⟩
  replace h_l := Sl.tr (Dw := False) h_l ht23
  replace h6 := El.tr (Dw := False) h6 ht23
  replace h12 := Sl.tr (Dw := False) h12 ht23
  replace hK := Tr.trans (Dw := False) hK ht23
  replace hB := Nat.le_trans hB ht23.ex.size
  replace hA := ht23.new
  replace hH : Hp w.heap.size A21 w20 (obS (α := know_Article) 36 v18 x17.1 :: []) := hH22
  refine V_y (Y_move rfl) rfl rfl rfl ?_
  refine V_y (Y_extract rfl rfl) rfl rfl rfl ?_
  refine V_y (Y_extract rfl rfl) rfl rfl rfl ?_
  refine V_y (Y_assign rfl) rfl rfl rfl ?_
  refine V_y (Y_assign rfl) rfl rfl rfl ?_
  refine V_to (fun _ _ => rfl) ?_
  refine C_seq ?_
  refine C_region ?_
  refine V_y (Y_move rfl) rfl rfl rfl ?_
  refine V_y (Y_move rfl) rfl rfl rfl ?_
  refine V_y (Y_move rfl) rfl rfl rfl ?_
  refine V_y (Y_move rfl) rfl rfl rfl ?_
  obtain ⟨x24, hx24, hm⟩ := Option.bind_eq_some_iff.1 hm
  refine V_call Tryz.call6 rfl rfl rfl rfl (know_Revert_c (Dw := False) w20 hA (Mx.tr (Dw := False) hT hK) l v_l h_l id_ number m hx24) ?_
  rintro _ w27 ⟨v25, rfl, h26, hk28⟩
  have ht29 := Kp.tr (Dw := False) hk28 hA hB
  replace hH := Hp.kp (Dw := False) hH hk28
  replace h_l := Sl.tr (Dw := False) h_l ht29
  replace h12 := Sl.tr (Dw := False) h12 ht29
  replace hK := Tr.trans (Dw := False) hK ht29
  replace hB := Nat.le_trans hB ht29.ex.size
  replace hA := ht29.new
  refine V_y (Y_move rfl) rfl rfl rfl ?_
  refine V_y (Y_extract rfl rfl) rfl rfl rfl ?_
  refine V_y (Y_extract rfl rfl) rfl rfl rfl ?_
  refine V_y (Y_assign rfl) rfl rfl rfl ?_
  refine V_y (Y_assign rfl) rfl rfl rfl ?_
  refine V_to (fun _ _ => rfl) ?_
  refine C_seq ?_
  refine C_region ?_
  refine V_y (Y_move rfl) rfl rfl rfl ?_
  refine V_y (Y_move rfl) rfl rfl rfl ?_
  refine V_y (Y_move rfl) rfl rfl rfl ?_
  refine V_y (Y_move rfl) rfl rfl rfl ?_
  obtain ⟨x30, hx30, hm⟩ := Option.bind_eq_some_iff.1 hm
  refine V_call Tryz.call7 rfl rfl rfl rfl (portref2_RevertOf_c w27 hB hA (Mx.tr (Dw := False) hT hK) l v_l h_l id_ number m hH hx30) ?_
  rintro _ w33 ⟨v31, A34, rfl, hH35, ht36⟩
  replace h_l := Sl.tr (Dw := False) h_l ht36
  replace h12 := Sl.tr (Dw := False) h12 ht36
  replace h26 := Sl.tr (Dw := False) h26 ht36
  replace hK := Tr.trans (Dw := False) hK ht36
  replace hB := Nat.le_trans hB ht36.ex.size
  replace hA := ht36.new
  replace hH : Hp w.heap.size A34 w33 (obS (α := know_Article) 36 v31 x30.1 :: obS (α := know_Article) 36 v18 x17.1 :: []) := hH35
  refine V_y (Y_move rfl) rfl rfl rfl ?_
  refine V_y (Y_extract rfl rfl) rfl rfl rfl ?_
  refine V_y (Y_extract rfl rfl) rfl rfl rfl ?_
  refine V_y (Y_assign rfl) rfl rfl rfl ?_
  refine V_y (Y_assign rfl) rfl rfl rfl ?_
  refine V_to (fun _ _ => rfl) ?_
  refine C_seq ?_
  obtain ⟨A37, ht38, h39, hH40⟩ := Hp.freeze (Dw := False) (α := know_Article) (v := v18) (l := x17.1) hH (i := 1) rfl hA
  replace h12 := Sl.tr (Dw := False) h12 ht38
  replace h26 := Sl.tr (Dw := False) h26 ht38
  replace hK := Tr.trans (Dw := False) hK ht38
  replace hB := Nat.le_trans hB ht38.ex.size
  replace hA := ht38.new
  replace hH : Hp w.heap.size A37 w33 (obS (α := know_Article) 36 v31 x30.1 :: []) := hH40
  obtain ⟨A42, ht43, h44, hH45⟩ := Hp.freeze (Dw := False) (α := know_Article) (v := v31) (l := x30.1) hH (i := 0) rfl hA
  replace h12 := Sl.tr (Dw := False) h12 ht43
  replace h39 := Sl.tr (Dw := False) h39 ht43
  replace h26 := Sl.tr (Dw := False) h26 ht43
  replace hK := Tr.trans (Dw := False) hK ht43
  replace hB := Nat.le_trans hB ht43.ex.size
  replace hA := ht43.new
  replace hH : Hp w.heap.size A42 w33 ([]) := hH45
  obtain ⟨s48, ho47, hm⟩ := Option.bind_eq_some_iff.1 hm
  refine C_cutG (ι := (Nat → Prop)) (fun (A53 : (Nat → Prop)) => [(10, .bool s48)]) (fun (A53 : (Nat → Prop)) => fun w' => Hp w.heap.size A53 w' ([]) ∧ Tr False w.heap.size A42 w33 A53 w') ?_ ?_
  · have hr49 : Tr False w.heap.size A42 w33 A42 w33 := Tr.refl (Dw := False) hA
    refine C_region ?_
    refine V_y (Y_move rfl) rfl rfl rfl ?_
    refine V_y (Y_move rfl) rfl rfl rfl ?_
    refine V_y (Y_eql rfl rfl) rfl rfl rfl ?_
    refine V_y (Y_move rfl) rfl rfl rfl ?_
    rcases Bool.eq_false_or_eq_true (x10.2 == x17.2) with hc55 | hc55
    · rw [if_pos hc55] at ho47
      refine V_ge rfl rfl rfl hc55 ?_
      refine V_y (Y_move rfl) rfl rfl rfl ?_
      refine V_ge rfl rfl rfl hc55 ?_
      refine V_y (Y_move rfl) rfl rfl rfl ?_
      refine V_ge rfl rfl rfl hc55 ?_
      refine V_y (Y_eql rfl rfl) rfl rfl rfl ?_
      refine V_y (Y_pick_te rfl hc55 rfl) rfl rfl rfl ?_
      refine V_y (Y_move rfl) rfl rfl rfl ?_
      rcases Bool.eq_false_or_eq_true (x24.2 == x30.2) with hc56 | hc56
      · rw [if_pos hc56] at ho47
        refine V_ge rfl rfl rfl hc56 ?_
        refine V_y (Y_move rfl) rfl rfl rfl ?_
        refine V_ge rfl rfl rfl hc56 ?_
        refine V_y (Y_mkIL Tryz.underlying22 rfl) rfl rfl rfl ?_
        refine V_ge rfl rfl rfl hc56 ?_
        refine V_y (Y_move rfl) rfl rfl rfl ?_
        refine V_ge rfl rfl rfl hc56 ?_
        refine V_y (Y_mkIL Tryz.underlying22 rfl) rfl rfl rfl ?_
        refine V_ge rfl rfl rfl hc56 ?_
        obtain ⟨x57, hx57, ho47⟩ := Option.bind_eq_some_iff.1 ho47
        refine V_call Tryz.call8 rfl rfl rfl rfl (portref2_Alike_c (Dw := False) w33 hA x10.1 v11 h12 x17.1 v18 h39 hx57) ?_
        rintro _ w58 ⟨rfl, hk59⟩
        have ht60 := Kp.tr (Dw := False) hk59 hA hB
        replace hH := Hp.kp (Dw := False) hH hk59
        replace h12 := Sl.tr (Dw := False) h12 ht60
        replace h39 := Sl.tr (Dw := False) h39 ht60
        replace h26 := Sl.tr (Dw := False) h26 ht60
        replace h44 := Sl.tr (Dw := False) h44 ht60
        replace hK := Tr.trans (Dw := False) hK ht60
        replace hr49 := Tr.trans (Dw := False) hr49 ht60
        replace hB := Nat.le_trans hB ht60.ex.size
        replace hA := ht60.new
        refine V_y (Y_pick_te rfl hc56 rfl) rfl rfl rfl ?_
        refine V_y (Y_move rfl) rfl rfl rfl ?_
        rcases Bool.eq_false_or_eq_true (x57) with hc61 | hc61
        · rw [if_pos hc61] at ho47
          refine V_ge rfl rfl rfl hc61 ?_
          refine V_y (Y_move rfl) rfl rfl rfl ?_
          refine V_ge rfl rfl rfl hc61 ?_
          refine V_y (Y_mkIL Tryz.underlying22 rfl) rfl rfl rfl ?_
          refine V_ge rfl rfl rfl hc61 ?_
          refine V_y (Y_move rfl) rfl rfl rfl ?_
          refine V_ge rfl rfl rfl hc61 ?_
          refine V_y (Y_mkIL Tryz.underlying22 rfl) rfl rfl rfl ?_
          refine V_ge rfl rfl rfl hc61 ?_
          obtain ⟨x62, hx62, ho47⟩ := Option.bind_eq_some_iff.1 ho47
          refine V_call Tryz.call8 rfl rfl rfl rfl (portref2_Alike_c (Dw := False) w58 hA x24.1 v25 h26 x30.1 v31 h44 hx62) ?_
          rintro _ w63 ⟨rfl, hk64⟩
          have ht65 := Kp.tr (Dw := False) hk64 hA hB
          replace hH := Hp.kp (Dw := False) hH hk64
          replace h12 := Sl.tr (Dw := False) h12 ht65
          replace h39 := Sl.tr (Dw := False) h39 ht65
          replace h26 := Sl.tr (Dw := False) h26 ht65
          replace h44 := Sl.tr (Dw := False) h44 ht65
          replace hK := Tr.trans (Dw := False) hK ht65
          replace hr49 := Tr.trans (Dw := False) hr49 ht65
          replace hB := Nat.le_trans hB ht65.ex.size
          replace hA := ht65.new
          refine V_y (Y_pick_te rfl hc61 rfl) rfl rfl rfl ?_
          refine V_y (Y_assign rfl) rfl rfl rfl ?_
          obtain rfl := Option.some.inj ho47
          refine V_end (fun a ha66 => ?_)
          exact ⟨A42, ha66.sub ⟨rfl, trivial⟩, ⟨hH, hr49⟩⟩
        · rw [if_neg (nt hc61)] at ho47
          refine V_gn rfl rfl rfl hc61 rfl rfl rfl ?_
          refine V_gn rfl rfl rfl hc61 rfl rfl rfl ?_
          refine V_gn rfl rfl rfl hc61 rfl rfl rfl ?_
          refine V_gn rfl rfl rfl hc61 rfl rfl rfl ?_
          refine V_gn rfl rfl rfl hc61 rfl rfl rfl ?_
          refine V_y (Y_pick_fe rfl hc61 rfl) rfl rfl rfl ?_
          refine V_y (Y_assign rfl) rfl rfl rfl ?_
          obtain rfl := Option.some.inj ho47
          refine V_end (fun a ha67 => ?_)
          exact ⟨A42, ha67.sub ⟨rfl, trivial⟩, ⟨hH, hr49⟩⟩
      · rw [if_neg (nt hc56)] at ho47
        refine V_gn rfl rfl rfl hc56 rfl rfl rfl ?_
        refine V_gn rfl rfl rfl hc56 rfl rfl rfl ?_
        refine V_gn rfl rfl rfl hc56 rfl rfl rfl ?_
        refine V_gn rfl rfl rfl hc56 rfl rfl rfl ?_
        refine V_gn rfl rfl rfl hc56 rfl rfl rfl ?_
        refine V_y (Y_pick_fe rfl hc56 rfl) rfl rfl rfl ?_
        refine V_y (Y_move rfl) rfl rfl rfl ?_
        rcases Bool.eq_false_or_eq_true (false) with hc68 | hc68
        · rw [if_pos hc68] at ho47
          refine V_ge rfl rfl rfl hc68 ?_
          refine V_y (Y_move rfl) rfl rfl rfl ?_
          refine V_ge rfl rfl rfl hc68 ?_
          refine V_y (Y_mkIL Tryz.underlying22 rfl) rfl rfl rfl ?_
          refine V_ge rfl rfl rfl hc68 ?_
          refine V_y (Y_move rfl) rfl rfl rfl ?_
          refine V_ge rfl rfl rfl hc68 ?_
          refine V_y (Y_mkIL Tryz.underlying22 rfl) rfl rfl rfl ?_
          refine V_ge rfl rfl rfl hc68 ?_
          obtain ⟨x69, hx69, ho47⟩ := Option.bind_eq_some_iff.1 ho47
          refine V_call Tryz.call8 rfl rfl rfl rfl (portref2_Alike_c (Dw := False) w33 hA x24.1 v25 h26 x30.1 v31 h44 hx69) ?_
          rintro _ w70 ⟨rfl, hk71⟩
          have ht72 := Kp.tr (Dw := False) hk71 hA hB
          replace hH := Hp.kp (Dw := False) hH hk71
          replace h12 := Sl.tr (Dw := False) h12 ht72
          replace h39 := Sl.tr (Dw := False) h39 ht72
          replace h26 := Sl.tr (Dw := False) h26 ht72
          replace h44 := Sl.tr (Dw := False) h44 ht72
          replace hK := Tr.trans (Dw := False) hK ht72
          replace hr49 := Tr.trans (Dw := False) hr49 ht72
          replace hB := Nat.le_trans hB ht72.ex.size
          replace hA := ht72.new
          refine V_y (Y_pick_te rfl hc68 rfl) rfl rfl rfl ?_
          refine V_y (Y_assign rfl) rfl rfl rfl ?_
          obtain rfl := Option.some.inj ho47
          refine V_end (fun a ha73 => ?_)
          exact ⟨A42, ha73.sub ⟨rfl, trivial⟩, ⟨hH, hr49⟩⟩
        · rw [if_neg (nt hc68)] at ho47
          refine V_gn rfl rfl rfl hc68 rfl rfl rfl ?_
          refine V_gn rfl rfl rfl hc68 rfl rfl rfl ?_
          refine V_gn rfl rfl rfl hc68 rfl rfl rfl ?_
          refine V_gn rfl rfl rfl hc68 rfl rfl rfl ?_
          refine V_gn rfl rfl rfl hc68 rfl rfl rfl ?_
          refine V_y (Y_pick_fe rfl hc68 rfl) rfl rfl rfl ?_
          refine V_y (Y_assign rfl) rfl rfl rfl ?_
          obtain rfl := Option.some.inj ho47
          refine V_end (fun a ha74 => ?_)
          exact ⟨A42, ha74.sub ⟨rfl, trivial⟩, ⟨hH, hr49⟩⟩
    · rw [if_neg (nt hc55)] at ho47
      refine V_gn rfl rfl rfl hc55 rfl rfl rfl ?_
      refine V_gn rfl rfl rfl hc55 rfl rfl rfl ?_
      refine V_gn rfl rfl rfl hc55 rfl rfl rfl ?_
      refine V_y (Y_pick_fe rfl hc55 rfl) rfl rfl rfl ?_
      refine V_y (Y_move rfl) rfl rfl rfl ?_
      rcases Bool.eq_false_or_eq_true (false) with hc75 | hc75
      · rw [if_pos hc75] at ho47
        refine V_ge rfl rfl rfl hc75 ?_
        refine V_y (Y_move rfl) rfl rfl rfl ?_
        refine V_ge rfl rfl rfl hc75 ?_
        refine V_y (Y_mkIL Tryz.underlying22 rfl) rfl rfl rfl ?_
        refine V_ge rfl rfl rfl hc75 ?_
        refine V_y (Y_move rfl) rfl rfl rfl ?_
        refine V_ge rfl rfl rfl hc75 ?_
        refine V_y (Y_mkIL Tryz.underlying22 rfl) rfl rfl rfl ?_
        refine V_ge rfl rfl rfl hc75 ?_
        obtain ⟨x76, hx76, ho47⟩ := Option.bind_eq_some_iff.1 ho47
        refine V_call Tryz.call8 rfl rfl rfl rfl (portref2_Alike_c (Dw := False) w33 hA x10.1 v11 h12 x17.1 v18 h39 hx76) ?_
        rintro _ w77 ⟨rfl, hk78⟩
        have ht79 := Kp.tr (Dw := False) hk78 hA hB
        replace hH := Hp.kp (Dw := False) hH hk78
        replace h12 := Sl.tr (Dw := False) h12 ht79
        replace h39 := Sl.tr (Dw := False) h39 ht79
        replace h26 := Sl.tr (Dw := False) h26 ht79
        replace h44 := Sl.tr (Dw := False) h44 ht79
        replace hK := Tr.trans (Dw := False) hK ht79
        replace hr49 := Tr.trans (Dw := False) hr49 ht79
        replace hB := Nat.le_trans hB ht79.ex.size
        replace hA := ht79.new
        refine V_y (Y_pick_te rfl hc75 rfl) rfl rfl rfl ?_
        refine V_y (Y_move rfl) rfl rfl rfl ?_
        rcases Bool.eq_false_or_eq_true (x76) with hc80 | hc80
        · rw [if_pos hc80] at ho47
          refine V_ge rfl rfl rfl hc80 ?_
          refine V_y (Y_move rfl) rfl rfl rfl ?_
          refine V_ge rfl rfl rfl hc80 ?_
          refine V_y (Y_mkIL Tryz.underlying22 rfl) rfl rfl rfl ?_
          refine V_ge rfl rfl rfl hc80 ?_
          refine V_y (Y_move rfl) rfl rfl rfl ?_
          refine V_ge rfl rfl rfl hc80 ?_
          refine V_y (Y_mkIL Tryz.underlying22 rfl) rfl rfl rfl ?_
          refine V_ge rfl rfl rfl hc80 ?_
          obtain ⟨x81, hx81, ho47⟩ := Option.bind_eq_some_iff.1 ho47
          refine V_call Tryz.call8 rfl rfl rfl rfl (portref2_Alike_c (Dw := False) w77 hA x24.1 v25 h26 x30.1 v31 h44 hx81) ?_
          rintro _ w82 ⟨rfl, hk83⟩
          have ht84 := Kp.tr (Dw := False) hk83 hA hB
          replace hH := Hp.kp (Dw := False) hH hk83
          replace h12 := Sl.tr (Dw := False) h12 ht84
          replace h39 := Sl.tr (Dw := False) h39 ht84
          replace h26 := Sl.tr (Dw := False) h26 ht84
          replace h44 := Sl.tr (Dw := False) h44 ht84
          replace hK := Tr.trans (Dw := False) hK ht84
          replace hr49 := Tr.trans (Dw := False) hr49 ht84
          replace hB := Nat.le_trans hB ht84.ex.size
          replace hA := ht84.new
          refine V_y (Y_pick_te rfl hc80 rfl) rfl rfl rfl ?_
          refine V_y (Y_assign rfl) rfl rfl rfl ?_
          obtain rfl := Option.some.inj ho47
          refine V_end (fun a ha85 => ?_)
          exact ⟨A42, ha85.sub ⟨rfl, trivial⟩, ⟨hH, hr49⟩⟩
        · rw [if_neg (nt hc80)] at ho47
          refine V_gn rfl rfl rfl hc80 rfl rfl rfl ?_
          refine V_gn rfl rfl rfl hc80 rfl rfl rfl ?_
          refine V_gn rfl rfl rfl hc80 rfl rfl rfl ?_
          refine V_gn rfl rfl rfl hc80 rfl rfl rfl ?_
          refine V_gn rfl rfl rfl hc80 rfl rfl rfl ?_
          refine V_y (Y_pick_fe rfl hc80 rfl) rfl rfl rfl ?_
          refine V_y (Y_assign rfl) rfl rfl rfl ?_
          obtain rfl := Option.some.inj ho47
          refine V_end (fun a ha86 => ?_)
          exact ⟨A42, ha86.sub ⟨rfl, trivial⟩, ⟨hH, hr49⟩⟩
      · rw [if_neg (nt hc75)] at ho47
        refine V_gn rfl rfl rfl hc75 rfl rfl rfl ?_
        refine V_gn rfl rfl rfl hc75 rfl rfl rfl ?_
        refine V_gn rfl rfl rfl hc75 rfl rfl rfl ?_
        refine V_gn rfl rfl rfl hc75 rfl rfl rfl ?_
        refine V_gn rfl rfl rfl hc75 rfl rfl rfl ?_
        refine V_y (Y_pick_fe rfl hc75 rfl) rfl rfl rfl ?_
        refine V_y (Y_move rfl) rfl rfl rfl ?_
        rcases Bool.eq_false_or_eq_true (false) with hc87 | hc87
        · rw [if_pos hc87] at ho47
          refine V_ge rfl rfl rfl hc87 ?_
          refine V_y (Y_move rfl) rfl rfl rfl ?_
          refine V_ge rfl rfl rfl hc87 ?_
          refine V_y (Y_mkIL Tryz.underlying22 rfl) rfl rfl rfl ?_
          refine V_ge rfl rfl rfl hc87 ?_
          refine V_y (Y_move rfl) rfl rfl rfl ?_
          refine V_ge rfl rfl rfl hc87 ?_
          refine V_y (Y_mkIL Tryz.underlying22 rfl) rfl rfl rfl ?_
          refine V_ge rfl rfl rfl hc87 ?_
          obtain ⟨x88, hx88, ho47⟩ := Option.bind_eq_some_iff.1 ho47
          refine V_call Tryz.call8 rfl rfl rfl rfl (portref2_Alike_c (Dw := False) w33 hA x24.1 v25 h26 x30.1 v31 h44 hx88) ?_
          rintro _ w89 ⟨rfl, hk90⟩
          have ht91 := Kp.tr (Dw := False) hk90 hA hB
          replace hH := Hp.kp (Dw := False) hH hk90
          replace h12 := Sl.tr (Dw := False) h12 ht91
          replace h39 := Sl.tr (Dw := False) h39 ht91
          replace h26 := Sl.tr (Dw := False) h26 ht91
          replace h44 := Sl.tr (Dw := False) h44 ht91
          replace hK := Tr.trans (Dw := False) hK ht91
          replace hr49 := Tr.trans (Dw := False) hr49 ht91
          replace hB := Nat.le_trans hB ht91.ex.size
          replace hA := ht91.new
          refine V_y (Y_pick_te rfl hc87 rfl) rfl rfl rfl ?_
          refine V_y (Y_assign rfl) rfl rfl rfl ?_
          obtain rfl := Option.some.inj ho47
          refine V_end (fun a ha92 => ?_)
          exact ⟨A42, ha92.sub ⟨rfl, trivial⟩, ⟨hH, hr49⟩⟩
        · rw [if_neg (nt hc87)] at ho47
          refine V_gn rfl rfl rfl hc87 rfl rfl rfl ?_
          refine V_gn rfl rfl rfl hc87 rfl rfl rfl ?_
          refine V_gn rfl rfl rfl hc87 rfl rfl rfl ?_
          refine V_gn rfl rfl rfl hc87 rfl rfl rfl ?_
          refine V_gn rfl rfl rfl hc87 rfl rfl rfl ?_
          refine V_y (Y_pick_fe rfl hc87 rfl) rfl rfl rfl ?_
          refine V_y (Y_assign rfl) rfl rfl rfl ?_
          obtain rfl := Option.some.inj ho47
          refine V_end (fun a ha93 => ?_)
          exact ⟨A42, ha93.sub ⟨rfl, trivial⟩, ⟨hH, hr49⟩⟩
  rintro A53 w50 ⟨hH54, hk51⟩ a ha52
  replace hK := Tr.trans (Dw := False) hK hk51
  replace hB := Nat.le_trans hB hk51.ex.size
  replace hA := hk51.new
  replace hH : Hp w.heap.size A53 w50 ([]) := hH54
  refine C_at (n := ⟨71, [], none⟩) (fun _ _ => rfl) ?_ ha52
  obtain rfl := Option.some.inj hm
  refine C_ret ?_
  try simp only [↓inBlock_ret, ↓then_ret]
  exact retQ rfl (Res.one Tryz.results3 rfl) ⟨rfl, hK.kp⟩

end Go.Proofs.YtcfmgjmpodpfiaaGreatDoor.W
