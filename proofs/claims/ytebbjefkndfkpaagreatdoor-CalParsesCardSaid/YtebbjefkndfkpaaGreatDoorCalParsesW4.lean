/-
  Written by program (gen.py) from the IR of the dump: each function computes its model.
-/
import Derived.Test.YtebbjefkndfkpaaGreatDoorCalParsesW3
namespace Go.Proofs.YtebbjefkndfkpaaGreatDoor.W
open Go Go.RowKit Go.Pu Go.Gw Go.Proofs Go.Proofs.YtebbjefkndfkpaaGreatDoor.M
set_option linter.unusedVariables false
set_option linter.unusedSimpArgs false
variable {Dw : Prop}

set_option maxRecDepth 4000 in
set_option maxHeartbeats 4000000 in
theorem slices_Equal_Lcal_Change_cal_Change_c (w : World) {A : Nat → Prop} (hA : ∀ b, w.heap.size ≤ b → A b) (s1 : (List cal_Change)) (v_s1 : Value) (h_s1 : Sl A w v_s1 s1) (s2 : (List cal_Change)) (v_s2 : Value) (h_s2 : Sl A w v_s2 s2) {r : Bool} (hm : slices_Equal_Lcal_Change_cal_Change s1 s2 = some r) : Ret Tryz.prog 16 #[v_s1, v_s2] w fun v w' => v = .bool r ∧ Kp Dw w w' := by
  unfold slices_Equal_Lcal_Change_cal_Change at hm
  refine enter Tryz.func16 rfl Tryz.ntmps16 rfl ?_
  have hA0 := hA
  have hB := Nat.le_refl w.heap.size
  have hK : Tr Dw w.heap.size A w A w := Tr.refl (Dw := Dw) hA
  have hH : Hp w.heap.size A w [] := Hp.nil
  refine C_seq ?_
  refine C_region ?_
  refine V_y (Y_assign rfl) rfl rfl rfl ?_
  refine V_to (fun _ _ => rfl) ?_
  refine C_seq ?_
  refine C_seq ?_
  refine C_region ?_
  refine V_y (Y_move rfl) rfl rfl rfl ?_
  refine V_y (Y_lenSl h_s1 rfl Tryz.underlying22 rfl) rfl rfl rfl ?_
  refine V_y (Y_move rfl) rfl rfl rfl ?_
  refine V_y (Y_lenSl h_s2 rfl Tryz.underlying22 rfl) rfl rfl rfl ?_
  refine V_y (Y_neq rfl rfl) rfl rfl rfl ?_
  refine V_to (fun _ _ => rfl) ?_
  refine C_cond rfl (fun hc5 => ?_) (fun hc5 => ?_)
  · rw [if_pos hc5] at hm
    refine C_seq ?_
    refine C_region ?_
    refine V_y (Y_assign rfl) rfl rfl rfl ?_
    refine V_to (fun _ _ => rfl) ?_
    obtain rfl := Option.some.inj hm
    refine C_ret ?_
    try simp only [↓inBlock_ret, ↓then_ret]
    exact retQ rfl (Res.one Tryz.results16 rfl) ⟨rfl, hK.kp⟩
  · rw [if_neg (nt hc5)] at hm
    refine C_skip_to (fun _ _ => rfl) ?_
    refine C_seq ?_
    refine C_seq ?_
    refine C_region ?_
    refine V_y (Y_move rfl) rfl rfl rfl ?_
    refine V_y (Y_lenSl h_s1 rfl Tryz.underlying22 rfl) rfl rfl rfl ?_
    refine V_y (Y_move rfl) rfl rfl rfl ?_
    refine V_to (fun _ _ => rfl) ?_
    have hn27 := Sl.le h_s1
    obtain ⟨o6, ho6, hm⟩ := Option.bind_eq_some_iff.1 hm
    refine C_cutG (ι := (Unit × (Nat → Prop))) (fun ⟨s7, A13⟩ => []) (fun ⟨s7, A13⟩ => fun w' => o6 = .fin s7 ∧ Hp w.heap.size A13 w' ([]) ∧ Tr Dw w.heap.size A w A13 w') ?_ ?_
    · refine C_block ?_
      refine C_range ho6 (fun k9 _ a w' => ∃ i : (Nat → Prop), Has ⟨26, [], none⟩ a ([(0, v_s1), (1, v_s2), (12, .int .i64 (s1.length : Int)), (13, .int .i64 (k9 : Int))]) ∧ Hp w.heap.size i w' ([]) ∧ Tr Dw w.heap.size A w i w') (fun a ha => ⟨A, ha.sub ⟨rfl, rfl, rfl, rfl, trivial⟩, ⟨hH, Tr.refl (Dw := Dw) hA⟩⟩) ?_
      rintro K k9 _ a w17 ⟨A18, ha45, hH19, hr8⟩ hle23 K26 h25
      refine C_of ?_ ha45
      replace h_s1 := Sl.tr (Dw := Dw) h_s1 hr8
      replace h_s2 := Sl.tr (Dw := Dw) h_s2 hr8
      replace hK := Tr.trans (Dw := Dw) hK hr8
      replace hB := Nat.le_trans hB hr8.ex.size
      replace hA := hr8.new
      replace hH : Hp w.heap.size A18 w17 ([]) := hH19
      refine C_seq (C_region (V_y (Y_lss rfl rfl) rfl rfl rfl (V_to (fun _ _ => rfl) ?_)))
      refine C_seq ?_
      refine C_cond rfl (fun hc28 => ?_) (fun hc28 => ?_)
      · have hlt24 := lt_of_dec hc28
        obtain ⟨x20, h21, h22⟩ := K26 hlt24
        refine C_skip_to (fun _ _ => rfl) ?_
        refine C_seq ?_
        refine C_block ?_
        refine C_seq ?_
        refine C_region ?_
        refine V_y (Y_move rfl) rfl rfl rfl ?_
        refine V_y (Y_assign rfl) rfl rfl rfl ?_
        refine V_to (fun _ _ => rfl) ?_
        refine C_seq ?_
        refine C_region_q (Dw := Dw) Tryz_mixed (by kernel_rfl) ?_
        refine VQ_y (fun w' hw' => Y_move rfl) rfl rfl rfl ?_
        refine VQ_y (fun w' hw' => Y_move rfl) rfl rfl rfl ?_
        obtain ⟨x29, hx29, h21⟩ := Option.bind_eq_some_iff.1 h21
        refine VQ_indexAddr h_s1 hx29 Tryz.underlying22 Tryz.sizeOf49 rfl rfl rfl ?_
        intro b30 o31 h32
        obtain ⟨h33, _⟩ := El_cal_Change h32
        refine VQ_y (fun w' hw' => Y_loadA (At.kp (Dw := Dw) h33 hw' h32.2.1) Tryz.isAgg49 Tryz.sizeOf49 rfl) rfl rfl rfl ?_
        refine VQ_y (fun w' hw' => Y_move rfl) rfl rfl rfl ?_
        refine VQ_y (fun w' hw' => Y_move rfl) rfl rfl rfl ?_
        obtain ⟨x34, hx34, h21⟩ := Option.bind_eq_some_iff.1 h21
        refine VQ_indexAddr h_s2 hx34 Tryz.underlying22 Tryz.sizeOf49 rfl rfl rfl ?_
        intro b35 o36 h37
        obtain ⟨h38, _⟩ := El_cal_Change h37
        refine VQ_y (fun w' hw' => Y_loadA (At.kp (Dw := Dw) h38 hw' h37.2.1) Tryz.isAgg49 Tryz.sizeOf49 rfl) rfl rfl rfl ?_
        refine VQ_y (fun w' hw' => Y_neqA (fun w => Tryz_eqt49_10000 x29.at_ x29.offset x34.at_ x34.offset w) Tryz_eqg49 rfl rfl) rfl rfl rfl ?_
        refine VQ_to (fun _ _ => rfl) (fun w39 hk40 => ?_)
        have ht41 := Kp.tr (Dw := Dw) hk40 hA hB
        replace hH := Hp.kp (Dw := Dw) hH hk40
        replace h_s1 := Sl.tr (Dw := Dw) h_s1 ht41
        replace h_s2 := Sl.tr (Dw := Dw) h_s2 ht41
        replace hK := Tr.trans (Dw := Dw) hK ht41
        replace hr8 := Tr.trans (Dw := Dw) hr8 ht41
        replace hB := Nat.le_trans hB ht41.ex.size
        replace hA := ht41.new
        refine C_cond rfl (fun hc42 => ?_) (fun hc42 => ?_)
        · rw [if_pos hc42] at h21
          refine C_seq ?_
          refine C_region ?_
          refine V_y (Y_assign rfl) rfl rfl rfl ?_
          refine V_to (fun _ _ => rfl) ?_
          obtain rfl := Option.some.inj h21
          obtain rfl := (h22 : Lp.rt _ = _)
          rw [Lp.andThen_rt] at hm
          obtain rfl := Option.some.inj hm
          refine C_ret ?_
          try simp only [↓inBlock_ret, ↓then_ret]
          exact retQ rfl (Res.one Tryz.results16 rfl) ⟨rfl, hK.kp⟩
        · rw [if_neg (nt hc42)] at h21
          refine C_skip_to (fun _ _ => rfl) ?_
          refine C_region ?_
          refine V_y (Y_addI rfl rfl) rfl rfl rfl ?_
          refine V_y (Y_move rfl) rfl rfl rfl ?_
          obtain rfl := Option.some.inj h21
          refine V_end (fun a ha43 => ?_)
          exact ⟨(), hlt24, h22, ⟨A18, ha43.sub ⟨rfl, rfl, rfl, (congrArg (fun z => some (Value.int .i64 z)) (w64_succ hlt24 hn27)), trivial⟩, ⟨hH, hr8⟩⟩⟩
      · refine C_exit (fun a ha44 => ?_)
        exact ⟨((), A18), ha44.sub trivial, ⟨(h25 (eq_of_dec hle23 hc28)).symm, hH, hr8⟩⟩
    rintro ⟨s7, A13⟩ w10 ⟨rfl, hH14, hk11⟩ a ha12
    rw [Lp.andThen_fin] at hm
    replace hK := Tr.trans (Dw := Dw) hK hk11
    replace hB := Nat.le_trans hB hk11.ex.size
    replace hA := hk11.new
    replace hH : Hp w.heap.size A13 w10 ([]) := hH14
    refine C_at (n := ⟨26, [], none⟩) (fun _ _ => rfl) ?_ ha12
    refine C_seq ?_
    refine C_region ?_
    refine V_y (Y_assign rfl) rfl rfl rfl ?_
    refine V_to (fun _ _ => rfl) ?_
    obtain rfl := Option.some.inj hm
    refine C_ret ?_
    try simp only [↓inBlock_ret, ↓then_ret]
    exact retQ rfl (Res.one Tryz.results16 rfl) ⟨rfl, hK.kp⟩

set_option maxRecDepth 4000 in
set_option maxHeartbeats 4000000 in
theorem slices_Equal_Lcal_Shift_cal_Shift_c (w : World) {A : Nat → Prop} (hA : ∀ b, w.heap.size ≤ b → A b) (s1 : (List cal_Shift)) (v_s1 : Value) (h_s1 : Sl A w v_s1 s1) (s2 : (List cal_Shift)) (v_s2 : Value) (h_s2 : Sl A w v_s2 s2) {r : Bool} (hm : slices_Equal_Lcal_Shift_cal_Shift s1 s2 = some r) : Ret Tryz.prog 17 #[v_s1, v_s2] w fun v w' => v = .bool r ∧ Kp Dw w w' := by
  unfold slices_Equal_Lcal_Shift_cal_Shift at hm
  refine enter Tryz.func17 rfl Tryz.ntmps17 rfl ?_
  have hA0 := hA
  have hB := Nat.le_refl w.heap.size
  have hK : Tr Dw w.heap.size A w A w := Tr.refl (Dw := Dw) hA
  have hH : Hp w.heap.size A w [] := Hp.nil
  refine C_seq ?_
  refine C_region ?_
  refine V_y (Y_assign rfl) rfl rfl rfl ?_
  refine V_to (fun _ _ => rfl) ?_
  refine C_seq ?_
  refine C_seq ?_
  refine C_region ?_
  refine V_y (Y_move rfl) rfl rfl rfl ?_
  refine V_y (Y_lenSl h_s1 rfl Tryz.underlying25 rfl) rfl rfl rfl ?_
  refine V_y (Y_move rfl) rfl rfl rfl ?_
  refine V_y (Y_lenSl h_s2 rfl Tryz.underlying25 rfl) rfl rfl rfl ?_
  refine V_y (Y_neq rfl rfl) rfl rfl rfl ?_
  refine V_to (fun _ _ => rfl) ?_
  refine C_cond rfl (fun hc5 => ?_) (fun hc5 => ?_)
  · rw [if_pos hc5] at hm
    refine C_seq ?_
    refine C_region ?_
    refine V_y (Y_assign rfl) rfl rfl rfl ?_
    refine V_to (fun _ _ => rfl) ?_
    obtain rfl := Option.some.inj hm
    refine C_ret ?_
    try simp only [↓inBlock_ret, ↓then_ret]
    exact retQ rfl (Res.one Tryz.results17 rfl) ⟨rfl, hK.kp⟩
  · rw [if_neg (nt hc5)] at hm
    refine C_skip_to (fun _ _ => rfl) ?_
    refine C_seq ?_
    refine C_seq ?_
    refine C_region ?_
    refine V_y (Y_move rfl) rfl rfl rfl ?_
    refine V_y (Y_lenSl h_s1 rfl Tryz.underlying25 rfl) rfl rfl rfl ?_
    refine V_y (Y_move rfl) rfl rfl rfl ?_
    refine V_to (fun _ _ => rfl) ?_
    have hn27 := Sl.le h_s1
    obtain ⟨o6, ho6, hm⟩ := Option.bind_eq_some_iff.1 hm
    refine C_cutG (ι := (Unit × (Nat → Prop))) (fun ⟨s7, A13⟩ => []) (fun ⟨s7, A13⟩ => fun w' => o6 = .fin s7 ∧ Hp w.heap.size A13 w' ([]) ∧ Tr Dw w.heap.size A w A13 w') ?_ ?_
    · refine C_block ?_
      refine C_range ho6 (fun k9 _ a w' => ∃ i : (Nat → Prop), Has ⟨26, [], none⟩ a ([(0, v_s1), (1, v_s2), (12, .int .i64 (s1.length : Int)), (13, .int .i64 (k9 : Int))]) ∧ Hp w.heap.size i w' ([]) ∧ Tr Dw w.heap.size A w i w') (fun a ha => ⟨A, ha.sub ⟨rfl, rfl, rfl, rfl, trivial⟩, ⟨hH, Tr.refl (Dw := Dw) hA⟩⟩) ?_
      rintro K k9 _ a w17 ⟨A18, ha45, hH19, hr8⟩ hle23 K26 h25
      refine C_of ?_ ha45
      replace h_s1 := Sl.tr (Dw := Dw) h_s1 hr8
      replace h_s2 := Sl.tr (Dw := Dw) h_s2 hr8
      replace hK := Tr.trans (Dw := Dw) hK hr8
      replace hB := Nat.le_trans hB hr8.ex.size
      replace hA := hr8.new
      replace hH : Hp w.heap.size A18 w17 ([]) := hH19
      refine C_seq (C_region (V_y (Y_lss rfl rfl) rfl rfl rfl (V_to (fun _ _ => rfl) ?_)))
      refine C_seq ?_
      refine C_cond rfl (fun hc28 => ?_) (fun hc28 => ?_)
      · have hlt24 := lt_of_dec hc28
        obtain ⟨x20, h21, h22⟩ := K26 hlt24
        refine C_skip_to (fun _ _ => rfl) ?_
        refine C_seq ?_
        refine C_block ?_
        refine C_seq ?_
        refine C_region ?_
        refine V_y (Y_move rfl) rfl rfl rfl ?_
        refine V_y (Y_assign rfl) rfl rfl rfl ?_
        refine V_to (fun _ _ => rfl) ?_
        refine C_seq ?_
        refine C_region_q (Dw := Dw) Tryz_mixed (by kernel_rfl) ?_
        refine VQ_y (fun w' hw' => Y_move rfl) rfl rfl rfl ?_
        refine VQ_y (fun w' hw' => Y_move rfl) rfl rfl rfl ?_
        obtain ⟨x29, hx29, h21⟩ := Option.bind_eq_some_iff.1 h21
        refine VQ_indexAddr h_s1 hx29 Tryz.underlying25 Tryz.sizeOf51 rfl rfl rfl ?_
        intro b30 o31 h32
        obtain ⟨h33, _⟩ := El_cal_Shift h32
        refine VQ_y (fun w' hw' => Y_loadA (At.kp (Dw := Dw) h33 hw' h32.2.1) Tryz.isAgg51 Tryz.sizeOf51 rfl) rfl rfl rfl ?_
        refine VQ_y (fun w' hw' => Y_move rfl) rfl rfl rfl ?_
        refine VQ_y (fun w' hw' => Y_move rfl) rfl rfl rfl ?_
        obtain ⟨x34, hx34, h21⟩ := Option.bind_eq_some_iff.1 h21
        refine VQ_indexAddr h_s2 hx34 Tryz.underlying25 Tryz.sizeOf51 rfl rfl rfl ?_
        intro b35 o36 h37
        obtain ⟨h38, _⟩ := El_cal_Shift h37
        refine VQ_y (fun w' hw' => Y_loadA (At.kp (Dw := Dw) h38 hw' h37.2.1) Tryz.isAgg51 Tryz.sizeOf51 rfl) rfl rfl rfl ?_
        refine VQ_y (fun w' hw' => Y_neqA (fun w => Tryz_eqt51_10000 x29.day x29.from_ x29.to_ x34.day x34.from_ x34.to_ w) Tryz_eqg51 rfl rfl) rfl rfl rfl ?_
        refine VQ_to (fun _ _ => rfl) (fun w39 hk40 => ?_)
        have ht41 := Kp.tr (Dw := Dw) hk40 hA hB
        replace hH := Hp.kp (Dw := Dw) hH hk40
        replace h_s1 := Sl.tr (Dw := Dw) h_s1 ht41
        replace h_s2 := Sl.tr (Dw := Dw) h_s2 ht41
        replace hK := Tr.trans (Dw := Dw) hK ht41
        replace hr8 := Tr.trans (Dw := Dw) hr8 ht41
        replace hB := Nat.le_trans hB ht41.ex.size
        replace hA := ht41.new
        refine C_cond rfl (fun hc42 => ?_) (fun hc42 => ?_)
        · rw [if_pos hc42] at h21
          refine C_seq ?_
          refine C_region ?_
          refine V_y (Y_assign rfl) rfl rfl rfl ?_
          refine V_to (fun _ _ => rfl) ?_
          obtain rfl := Option.some.inj h21
          obtain rfl := (h22 : Lp.rt _ = _)
          rw [Lp.andThen_rt] at hm
          obtain rfl := Option.some.inj hm
          refine C_ret ?_
          try simp only [↓inBlock_ret, ↓then_ret]
          exact retQ rfl (Res.one Tryz.results17 rfl) ⟨rfl, hK.kp⟩
        · rw [if_neg (nt hc42)] at h21
          refine C_skip_to (fun _ _ => rfl) ?_
          refine C_region ?_
          refine V_y (Y_addI rfl rfl) rfl rfl rfl ?_
          refine V_y (Y_move rfl) rfl rfl rfl ?_
          obtain rfl := Option.some.inj h21
          refine V_end (fun a ha43 => ?_)
          exact ⟨(), hlt24, h22, ⟨A18, ha43.sub ⟨rfl, rfl, rfl, (congrArg (fun z => some (Value.int .i64 z)) (w64_succ hlt24 hn27)), trivial⟩, ⟨hH, hr8⟩⟩⟩
      · refine C_exit (fun a ha44 => ?_)
        exact ⟨((), A18), ha44.sub trivial, ⟨(h25 (eq_of_dec hle23 hc28)).symm, hH, hr8⟩⟩
    rintro ⟨s7, A13⟩ w10 ⟨rfl, hH14, hk11⟩ a ha12
    rw [Lp.andThen_fin] at hm
    replace hK := Tr.trans (Dw := Dw) hK hk11
    replace hB := Nat.le_trans hB hk11.ex.size
    replace hA := hk11.new
    replace hH : Hp w.heap.size A13 w10 ([]) := hH14
    refine C_at (n := ⟨26, [], none⟩) (fun _ _ => rfl) ?_ ha12
    refine C_seq ?_
    refine C_region ?_
    refine V_y (Y_assign rfl) rfl rfl rfl ?_
    refine V_to (fun _ _ => rfl) ?_
    obtain rfl := Option.some.inj hm
    refine C_ret ?_
    try simp only [↓inBlock_ret, ↓then_ret]
    exact retQ rfl (Res.one Tryz.results17 rfl) ⟨rfl, hK.kp⟩

set_option maxRecDepth 4000 in
set_option maxHeartbeats 4000000 in
theorem slices_EqualFunc_Lcal_Special_Lcal_Special_cal_Special_cal_Special_c (w : World) {A : Nat → Prop} (hA : ∀ b, w.heap.size ≤ b → A b) (s1 : (List cal_Special)) (v_s1 : Value) (h_s1 : Sl A w v_s1 s1) (s2 : (List cal_Special)) (v_s2 : Value) (h_s2 : Sl A w v_s2 s2) (eq : cal_Special → cal_Special → Option Bool) (eq_f : FuncId) (eq_a eq_c : Array Value) (eq_call : ∀ (args : Array Value) (w : World), (callFunc eq_f args).run Tryz.prog w = .ok (.enter eq_f args) w) (eq_spec : ∀ (w1 : World) (A1 : Nat → Prop), Tr Dw w.heap.size A w A1 w1 → (∀ b, w1.heap.size ≤ b → A1 b) → ∀ (y0 : cal_Special) (v1 : Value) (h2 : Sl A1 w1 v1 y0.shifts) (y1 : cal_Special) (v3 : Value) (h4 : Sl A1 w1 v3 y1.shifts) (r : Bool), eq y0 y1 = some r → Ret Tryz.prog eq_f (eq_a ++ #[.agg #[.int .i64 y0.day, v1], .agg #[.int .i64 y1.day, v3]] ++ eq_c) w1 fun v w' => v = .bool r ∧ Kp Dw w1 w') {r : Bool} (hm : slices_EqualFunc_Lcal_Special_Lcal_Special_cal_Special_cal_Special s1 s2 eq = some r) : Ret Tryz.prog 18 #[v_s1, v_s2, .func (.func eq_f) eq_a eq_c] w fun v w' => v = .bool r ∧ Kp Dw w w' := by
  unfold slices_EqualFunc_Lcal_Special_Lcal_Special_cal_Special_cal_Special at hm
  refine enter Tryz.func18 rfl Tryz.ntmps18 rfl ?_
  have hA0 := hA
  have hB := Nat.le_refl w.heap.size
  have hK : Tr Dw w.heap.size A w A w := Tr.refl (Dw := Dw) hA
  have hH : Hp w.heap.size A w [] := Hp.nil
  refine C_seq ?_
  refine C_region ?_
  refine V_y (Y_assign rfl) rfl rfl rfl ?_
  refine V_to (fun _ _ => rfl) ?_
  refine C_seq ?_
  refine C_seq ?_
  refine C_region ?_
  refine V_y (Y_move rfl) rfl rfl rfl ?_
  refine V_y (Y_lenSl h_s1 rfl Tryz.underlying26 rfl) rfl rfl rfl ?_
  refine V_y (Y_move rfl) rfl rfl rfl ?_
  refine V_y (Y_lenSl h_s2 rfl Tryz.underlying26 rfl) rfl rfl rfl ?_
  refine V_y (Y_neq rfl rfl) rfl rfl rfl ?_
  refine V_to (fun _ _ => rfl) ?_
  refine C_cond rfl (fun hc5 => ?_) (fun hc5 => ?_)
  · rw [if_pos hc5] at hm
    refine C_seq ?_
    refine C_region ?_
    refine V_y (Y_assign rfl) rfl rfl rfl ?_
    refine V_to (fun _ _ => rfl) ?_
    obtain rfl := Option.some.inj hm
    refine C_ret ?_
    try simp only [↓inBlock_ret, ↓then_ret]
    exact retQ rfl (Res.one Tryz.results18 rfl) ⟨rfl, hK.kp⟩
  · rw [if_neg (nt hc5)] at hm
    refine C_skip_to (fun _ _ => rfl) ?_
    refine C_seq ?_
    refine C_seq ?_
    refine C_region ?_
    refine V_y (Y_move rfl) rfl rfl rfl ?_
    refine V_y (Y_lenSl h_s1 rfl Tryz.underlying26 rfl) rfl rfl rfl ?_
    refine V_y (Y_move rfl) rfl rfl rfl ?_
    refine V_to (fun _ _ => rfl) ?_
    have hn27 := Sl.le h_s1
    obtain ⟨o6, ho6, hm⟩ := Option.bind_eq_some_iff.1 hm
    refine C_cutG (ι := (Unit × (Nat → Prop))) (fun ⟨s7, A13⟩ => []) (fun ⟨s7, A13⟩ => fun w' => o6 = .fin s7 ∧ Hp w.heap.size A13 w' ([]) ∧ Tr Dw w.heap.size A w A13 w') ?_ ?_
    · refine C_block ?_
      refine C_range ho6 (fun k9 _ a w' => ∃ i : (Nat → Prop), Has ⟨32, [], none⟩ a ([(1, v_s2), (2, .func (.func eq_f) eq_a eq_c), (15, v_s1), (16, .int .i64 (s1.length : Int)), (17, .int .i64 (k9 : Int))]) ∧ Hp w.heap.size i w' ([]) ∧ Tr Dw w.heap.size A w i w') (fun a ha => ⟨A, ha.sub ⟨rfl, rfl, rfl, rfl, rfl, trivial⟩, ⟨hH, Tr.refl (Dw := Dw) hA⟩⟩) ?_
      rintro K k9 _ a w17 ⟨A18, ha78, hH19, hr8⟩ hle23 K26 h25
      refine C_of ?_ ha78
      replace h_s2 := Sl.tr (Dw := Dw) h_s2 hr8
      replace h_s1 := Sl.tr (Dw := Dw) h_s1 hr8
      replace hK := Tr.trans (Dw := Dw) hK hr8
      replace hB := Nat.le_trans hB hr8.ex.size
      replace hA := hr8.new
      replace hH : Hp w.heap.size A18 w17 ([]) := hH19
      refine C_seq (C_region (V_y (Y_lss rfl rfl) rfl rfl rfl (V_to (fun _ _ => rfl) ?_)))
      refine C_seq ?_
      refine C_cond rfl (fun hc28 => ?_) (fun hc28 => ?_)
      · have hlt24 := lt_of_dec hc28
        obtain ⟨x20, h21, h22⟩ := K26 hlt24
        refine C_skip_to (fun _ _ => rfl) ?_
        refine C_seq ?_
        refine C_block ?_
        refine C_seq ?_
        refine C_region ?_
        refine V_y (Y_move rfl) rfl rfl rfl ?_
        obtain ⟨x29, hx29, h21⟩ := Option.bind_eq_some_iff.1 h21
        refine V_indexAddr h_s1 hx29 Tryz.underlying26 Tryz.sizeOf53 rfl rfl rfl ?_
        intro b30 o31 h32
        obtain ⟨v33, h35, h34⟩ := El_cal_Special h32
        refine V_y (Y_loadA h35 Tryz.isAgg53 Tryz.sizeOf53 rfl) rfl rfl rfl ?_
        refine V_alloc Tryz.zeroValue53 rfl ?_
        intro b36 w37 h38
        refine V_y (Y_assign rfl) rfl rfl rfl ?_
        have h43 : (v33).oneCell' = true := by obtain ⟨_, _, e, _⟩ := Sl.form h34; rw [e]; rfl
        refine V_storeNew h38 Tryz.sizeOf53 rfl rfl rfl rfl (by exact (List.forall_mem_cons.2 ⟨rfl, (List.forall_mem_cons.2 ⟨h43, (fun _ h => nomatch h)⟩)⟩)) ?_
        intro w39 h40
        have hk45 := h40.kp (Dw := Dw)
        have h44 : El (α := cal_Special) A18 w39 b36 0 x29 := h40.el hA ⟨[.int .i64 x29.day], _, rfl, rfl, ⟨_, rfl, h34⟩⟩
        have ht46 := Kp.tr (Dw := Dw) hk45 hA hB
        replace hH := Hp.kp (Dw := Dw) hH hk45
        replace h_s2 := Sl.tr (Dw := Dw) h_s2 ht46
        replace h_s1 := Sl.tr (Dw := Dw) h_s1 ht46
        replace h32 := El.tr (Dw := Dw) h32 ht46
        replace h34 := Sl.tr (Dw := Dw) h34 ht46
        replace hK := Tr.trans (Dw := Dw) hK ht46
        replace hr8 := Tr.trans (Dw := Dw) hr8 ht46
        replace hB := Nat.le_trans hB ht46.ex.size
        replace hA := ht46.new
        refine V_to (fun _ _ => rfl) ?_
        refine C_seq ?_
        refine C_region ?_
        refine V_y (Y_move rfl) rfl rfl rfl ?_
        refine V_y (Y_move rfl) rfl rfl rfl ?_
        obtain ⟨x47, hx47, h21⟩ := Option.bind_eq_some_iff.1 h21
        refine V_indexAddr h_s2 hx47 Tryz.underlying26 Tryz.sizeOf53 rfl rfl rfl ?_
        intro b48 o49 h50
        obtain ⟨v51, h53, h52⟩ := El_cal_Special h50
        refine V_y (Y_loadA h53 Tryz.isAgg53 Tryz.sizeOf53 rfl) rfl rfl rfl ?_
        refine V_alloc Tryz.zeroValue53 rfl ?_
        intro b54 w55 h56
        have h61 : (v51).oneCell' = true := by obtain ⟨_, _, e, _⟩ := Sl.form h52; rw [e]; rfl
        refine V_storeNew h56 Tryz.sizeOf53 rfl rfl rfl rfl (by exact (List.forall_mem_cons.2 ⟨rfl, (List.forall_mem_cons.2 ⟨h61, (fun _ h => nomatch h)⟩)⟩)) ?_
        intro w57 h58
        have hk63 := h58.kp (Dw := Dw)
        have h62 : El (α := cal_Special) A18 w57 b54 0 x47 := h58.el hA ⟨[.int .i64 x47.day], _, rfl, rfl, ⟨_, rfl, h52⟩⟩
        have ht64 := Kp.tr (Dw := Dw) hk63 hA hB
        replace hH := Hp.kp (Dw := Dw) hH hk63
        replace h_s2 := Sl.tr (Dw := Dw) h_s2 ht64
        replace h_s1 := Sl.tr (Dw := Dw) h_s1 ht64
        replace h44 := El.tr (Dw := Dw) h44 ht64
        replace h50 := El.tr (Dw := Dw) h50 ht64
        replace h52 := Sl.tr (Dw := Dw) h52 ht64
        replace hK := Tr.trans (Dw := Dw) hK ht64
        replace hr8 := Tr.trans (Dw := Dw) hr8 ht64
        replace hB := Nat.le_trans hB ht64.ex.size
        replace hA := ht64.new
        refine V_to (fun _ _ => rfl) ?_
        refine C_seq ?_
        refine C_region ?_
        refine V_y (Y_move rfl) rfl rfl rfl ?_
        obtain ⟨v65, h67, h66⟩ := El_cal_Special h44
        refine V_y (Y_loadA h67 Tryz.isAgg53 Tryz.sizeOf53 rfl) rfl rfl rfl ?_
        obtain ⟨v68, h70, h69⟩ := El_cal_Special h62
        refine V_y (Y_loadA h70 Tryz.isAgg53 Tryz.sizeOf53 rfl) rfl rfl rfl ?_
        obtain ⟨x71, hx71, h21⟩ := Option.bind_eq_some_iff.1 h21
        refine V_call eq_call rfl rfl rfl rfl (eq_spec w57 _ hK hA x29 v65 h66 x47 v68 h69 _ hx71) ?_
        rintro _ w72 ⟨rfl, hk73⟩
        have ht74 := Kp.tr (Dw := Dw) hk73 hA hB
        replace hH := Hp.kp (Dw := Dw) hH hk73
        replace h_s2 := Sl.tr (Dw := Dw) h_s2 ht74
        replace h_s1 := Sl.tr (Dw := Dw) h_s1 ht74
        replace h44 := El.tr (Dw := Dw) h44 ht74
        replace h62 := El.tr (Dw := Dw) h62 ht74
        replace h66 := Sl.tr (Dw := Dw) h66 ht74
        replace h69 := Sl.tr (Dw := Dw) h69 ht74
        replace hK := Tr.trans (Dw := Dw) hK ht74
        replace hr8 := Tr.trans (Dw := Dw) hr8 ht74
        replace hB := Nat.le_trans hB ht74.ex.size
        replace hA := ht74.new
        refine V_y (Y_not rfl) rfl rfl rfl ?_
        refine V_to (fun _ _ => rfl) ?_
        refine C_cond rfl (fun hc75 => ?_) (fun hc75 => ?_)
        · rw [if_pos hc75] at h21
          refine C_seq ?_
          refine C_region ?_
          refine V_y (Y_assign rfl) rfl rfl rfl ?_
          refine V_to (fun _ _ => rfl) ?_
          obtain rfl := Option.some.inj h21
          obtain rfl := (h22 : Lp.rt _ = _)
          rw [Lp.andThen_rt] at hm
          obtain rfl := Option.some.inj hm
          refine C_ret ?_
          try simp only [↓inBlock_ret, ↓then_ret]
          exact retQ rfl (Res.one Tryz.results18 rfl) ⟨rfl, hK.kp⟩
        · rw [if_neg (nt hc75)] at h21
          refine C_skip_to (fun _ _ => rfl) ?_
          refine C_region ?_
          refine V_y (Y_addI rfl rfl) rfl rfl rfl ?_
          refine V_y (Y_move rfl) rfl rfl rfl ?_
          obtain rfl := Option.some.inj h21
          refine V_end (fun a ha76 => ?_)
          exact ⟨(), hlt24, h22, ⟨A18, ha76.sub ⟨rfl, rfl, rfl, rfl, (congrArg (fun z => some (Value.int .i64 z)) (w64_succ hlt24 hn27)), trivial⟩, ⟨hH, hr8⟩⟩⟩
      · refine C_exit (fun a ha77 => ?_)
        exact ⟨((), A18), ha77.sub trivial, ⟨(h25 (eq_of_dec hle23 hc28)).symm, hH, hr8⟩⟩
    rintro ⟨s7, A13⟩ w10 ⟨rfl, hH14, hk11⟩ a ha12
    rw [Lp.andThen_fin] at hm
    replace hK := Tr.trans (Dw := Dw) hK hk11
    replace hB := Nat.le_trans hB hk11.ex.size
    replace hA := hk11.new
    replace hH : Hp w.heap.size A13 w10 ([]) := hH14
    refine C_at (n := ⟨32, [], none⟩) (fun _ _ => rfl) ?_ ha12
    refine C_seq ?_
    refine C_region ?_
    refine V_y (Y_assign rfl) rfl rfl rfl ?_
    refine V_to (fun _ _ => rfl) ?_
    obtain rfl := Option.some.inj hm
    refine C_ret ?_
    try simp only [↓inBlock_ret, ↓then_ret]
    exact retQ rfl (Res.one Tryz.results18 rfl) ⟨rfl, hK.kp⟩

set_option maxRecDepth 4000 in
set_option maxHeartbeats 4000000 in
theorem portref2_Alike_1_c (w : World) {A : Nat → Prop} (hA : ∀ b, w.heap.size ≤ b → A b) (a_ : cal_Special) (v_a_ : Value) (h_a_ : Sl A w v_a_ a_.shifts) (b : cal_Special) (v_b : Value) (h_b : Sl A w v_b b.shifts) {r : Bool} (hm : portref2_Alike_1 a_ b = some r) : Ret Tryz.prog 19 #[.agg #[.int .i64 a_.day, v_a_], .agg #[.int .i64 b.day, v_b]] w fun v w' => v = .bool r ∧ Kp Dw w w' := by
  unfold portref2_Alike_1 at hm
  refine enter Tryz.func19 rfl Tryz.ntmps19 rfl ?_
  have hA0 := hA
  have hB := Nat.le_refl w.heap.size
  have hK : Tr Dw w.heap.size A w A w := Tr.refl (Dw := Dw) hA
  have hH : Hp w.heap.size A w [] := Hp.nil
  refine C_seq ?_
  refine C_region ?_
  refine V_box rfl rfl ?_
  intro b5 w6 h7
  have hk9 := h7.kp (Dw := Dw)
  have h8 : El (α := cal_Special) A w6 b5 0 a_ := h7.el hA ⟨[.int .i64 a_.day], _, rfl, rfl, ⟨_, rfl, h_a_⟩⟩
  have ht10 := Kp.tr (Dw := Dw) hk9 hA hB
  replace hH := Hp.kp (Dw := Dw) hH hk9
  replace h_a_ := Sl.tr (Dw := Dw) h_a_ ht10
  replace h_b := Sl.tr (Dw := Dw) h_b ht10
  replace hK := Tr.trans (Dw := Dw) hK ht10
  replace hB := Nat.le_trans hB ht10.ex.size
  replace hA := ht10.new
  refine V_box rfl rfl ?_
  intro b11 w12 h13
  have hk15 := h13.kp (Dw := Dw)
  have h14 : El (α := cal_Special) A w12 b11 0 b := h13.el hA ⟨[.int .i64 b.day], _, rfl, rfl, ⟨_, rfl, h_b⟩⟩
  have ht16 := Kp.tr (Dw := Dw) hk15 hA hB
  replace hH := Hp.kp (Dw := Dw) hH hk15
  replace h_a_ := Sl.tr (Dw := Dw) h_a_ ht16
  replace h_b := Sl.tr (Dw := Dw) h_b ht16
  replace h8 := El.tr (Dw := Dw) h8 ht16
  replace hK := Tr.trans (Dw := Dw) hK ht16
  replace hB := Nat.le_trans hB ht16.ex.size
  replace hA := ht16.new
  refine V_y (Y_assign rfl) rfl rfl rfl ?_
  refine V_to (fun _ _ => rfl) ?_
  refine C_seq ?_
  obtain ⟨s18, ho17, hm⟩ := Option.bind_eq_some_iff.1 hm
  refine C_cutG (ι := (Nat → Prop)) (fun (A23 : (Nat → Prop)) => [(4, .bool s18)]) (fun (A23 : (Nat → Prop)) => fun w' => Hp w.heap.size A23 w' ([]) ∧ Tr Dw w.heap.size A w12 A23 w') ?_ ?_
  · have hr19 : Tr Dw w.heap.size A w12 A w12 := Tr.refl (Dw := Dw) hA
    refine C_region ?_
    have h25 := El_cal_Special_0 h8
    refine V_y (Y_fieldAddr Tryz.underlying53 rfl Tryz.sizeOf3 (by decide) rfl) rfl rfl rfl ?_
    refine V_y (Y_load (El.int h25) Tryz.isAgg3 rfl) rfl rfl rfl ?_
    have h26 := El_cal_Special_0 h14
    refine V_y (Y_fieldAddr Tryz.underlying53 rfl Tryz.sizeOf3 (by decide) rfl) rfl rfl rfl ?_
    refine V_y (Y_load (El.int h26) Tryz.isAgg3 rfl) rfl rfl rfl ?_
    refine V_y (Y_eql rfl rfl) rfl rfl rfl ?_
    refine V_y (Y_move rfl) rfl rfl rfl ?_
    rcases Bool.eq_false_or_eq_true (a_.day == b.day) with hc27 | hc27
    · rw [if_pos hc27] at ho17
      refine V_ge rfl rfl rfl hc27 ?_
      have h28 := El_cal_Special_1 h8
      refine V_y (Y_fieldAddr Tryz.underlying53 rfl Tryz.sizeOf25 (by decide) rfl) rfl rfl rfl ?_
      refine V_ge rfl rfl rfl hc27 ?_
      obtain ⟨v29, h30, h31⟩ := El.list h28
      refine V_y (Y_load h30 Tryz.isAgg25 rfl) rfl rfl rfl ?_
      refine V_ge rfl rfl rfl hc27 ?_
      have h32 := El_cal_Special_1 h14
      refine V_y (Y_fieldAddr Tryz.underlying53 rfl Tryz.sizeOf25 (by decide) rfl) rfl rfl rfl ?_
      refine V_ge rfl rfl rfl hc27 ?_
      obtain ⟨v33, h34, h35⟩ := El.list h32
      refine V_y (Y_load h34 Tryz.isAgg25 rfl) rfl rfl rfl ?_
      refine V_ge rfl rfl rfl hc27 ?_
      obtain ⟨x36, hx36, ho17⟩ := Option.bind_eq_some_iff.1 ho17
      refine V_call Tryz.call17 rfl rfl rfl rfl (slices_Equal_Lcal_Shift_cal_Shift_c (Dw := Dw) w12 hA a_.shifts v29 h31 b.shifts v33 h35 hx36) ?_
      rintro _ w37 ⟨rfl, hk38⟩
      have ht39 := Kp.tr (Dw := Dw) hk38 hA hB
      replace hH := Hp.kp (Dw := Dw) hH hk38
      replace h8 := El.tr (Dw := Dw) h8 ht39
      replace h14 := El.tr (Dw := Dw) h14 ht39
      replace h25 := El.tr (Dw := Dw) h25 ht39
      replace h26 := El.tr (Dw := Dw) h26 ht39
      replace h28 := El.tr (Dw := Dw) h28 ht39
      replace h31 := Sl.tr (Dw := Dw) h31 ht39
      replace h32 := El.tr (Dw := Dw) h32 ht39
      replace h35 := Sl.tr (Dw := Dw) h35 ht39
      replace hK := Tr.trans (Dw := Dw) hK ht39
      replace hr19 := Tr.trans (Dw := Dw) hr19 ht39
      replace hB := Nat.le_trans hB ht39.ex.size
      replace hA := ht39.new
      refine V_y (Y_pick_te rfl hc27 rfl) rfl rfl rfl ?_
      refine V_y (Y_assign rfl) rfl rfl rfl ?_
      obtain rfl := Option.some.inj ho17
      refine V_end (fun a ha40 => ?_)
      exact ⟨A, ha40.sub ⟨rfl, trivial⟩, ⟨hH, hr19⟩⟩
    · rw [if_neg (nt hc27)] at ho17
      refine V_gn rfl rfl rfl hc27 rfl rfl rfl ?_
      refine V_gn rfl rfl rfl hc27 rfl rfl rfl ?_
      refine V_gn rfl rfl rfl hc27 rfl rfl rfl ?_
      refine V_gn rfl rfl rfl hc27 rfl rfl rfl ?_
      refine V_gn rfl rfl rfl hc27 rfl rfl rfl ?_
      refine V_y (Y_pick_fe rfl hc27 rfl) rfl rfl rfl ?_
      refine V_y (Y_assign rfl) rfl rfl rfl ?_
      obtain rfl := Option.some.inj ho17
      refine V_end (fun a ha41 => ?_)
      exact ⟨A, ha41.sub ⟨rfl, trivial⟩, ⟨hH, hr19⟩⟩
  rintro A23 w20 ⟨hH24, hk21⟩ a ha22
  replace hK := Tr.trans (Dw := Dw) hK hk21
  replace hB := Nat.le_trans hB hk21.ex.size
  replace hA := hk21.new
  replace hH : Hp w.heap.size A23 w20 ([]) := hH24
  refine C_at (n := ⟨17, [], none⟩) (fun _ _ => rfl) ?_ ha22
  obtain rfl := Option.some.inj hm
  refine C_ret ?_
  try simp only [↓inBlock_ret, ↓then_ret]
  exact retQ rfl (Res.one Tryz.results19 rfl) ⟨rfl, hK.kp⟩

set_option maxRecDepth 4000 in
set_option maxHeartbeats 4000000 in
theorem portref2_Alike_c (w : World) {A : Nat → Prop} (hA : ∀ b, w.heap.size ≤ b → A b) (a_ : cal_Calendar) (v_a_0 : Value) (h_a_0 : Sl A w v_a_0 a_.zone.changes) (v_a_1 : Value) (h_a_1 : Sl A w v_a_1 a_.week) (v_a_2 : Value) (h_a_2 : Sl A w v_a_2 a_.specials) (b : cal_Calendar) (v_b0 : Value) (h_b0 : Sl A w v_b0 b.zone.changes) (v_b1 : Value) (h_b1 : Sl A w v_b1 b.week) (v_b2 : Value) (h_b2 : Sl A w v_b2 b.specials) {r : Bool} (hm : portref2_Alike a_ b = some r) : Ret Tryz.prog 6 #[.iface 28 (.agg #[.int .i64 a_.zone.offset, v_a_0, v_a_1, v_a_2]), .iface 28 (.agg #[.int .i64 b.zone.offset, v_b0, v_b1, v_b2])] w fun v w' => v = .bool r ∧ Kp Dw w w' := by
  unfold portref2_Alike at hm
  refine enter Tryz.func6 rfl Tryz.ntmps6 rfl ?_
  have hA0 := hA
  have hB := Nat.le_refl w.heap.size
  have hK : Tr Dw w.heap.size A w A w := Tr.refl (Dw := Dw) hA
  have hH : Hp w.heap.size A w [] := Hp.nil
  refine C_seq ?_
  refine C_region ?_
  refine V_y (Y_assign rfl) rfl rfl rfl ?_
  refine V_to (fun _ _ => rfl) ?_
  refine C_seq ?_
  refine C_seq ?_
  refine C_region ?_
  refine V_y (Y_move rfl) rfl rfl rfl ?_
  refine V_to (fun _ _ => rfl) ?_
  refine C_block ?_
  refine C_seq ?_
  refine C_region ?_
  refine V_y (Y_asIS Tryz.underlying28 rfl) rfl rfl rfl ?_
  refine V_y (Y_extract rfl rfl) rfl rfl rfl ?_
  refine V_y (Y_extract rfl rfl) rfl rfl rfl ?_
  refine V_to (fun _ _ => rfl) ?_
  refine C_cond rfl (fun hc => ?_) (fun hc => ?_)
  · refine C_seq ?_
    refine C_region ?_
    refine V_alloc Tryz.zeroValue28 rfl ?_
    intro b13 w14 h15
    have h21 : (v_a_0).oneCell' = true := by obtain ⟨_, _, e, _⟩ := Sl.form h_a_0; rw [e]; rfl
    have h24 : (v_a_1).oneCell' = true := by obtain ⟨_, _, e, _⟩ := Sl.form h_a_1; rw [e]; rfl
    have h27 : (v_a_2).oneCell' = true := by obtain ⟨_, _, e, _⟩ := Sl.form h_a_2; rw [e]; rfl
    refine V_storeNew h15 Tryz.sizeOf28 rfl rfl rfl rfl (by exact (List.forall_mem_cons.2 ⟨rfl, (List.forall_mem_cons.2 ⟨h21, (List.forall_mem_cons.2 ⟨h24, (List.forall_mem_cons.2 ⟨h27, (fun _ h => nomatch h)⟩)⟩)⟩)⟩)) ?_
    intro w17 h18
    have hk29 := h18.kp (Dw := Dw)
    have h28 : El (α := cal_Calendar) A w17 b13 0 a_ := h18.el hA ⟨[.int .i64 a_.zone.offset, v_a_0], _, rfl, ⟨[.int .i64 a_.zone.offset], _, rfl, rfl, ⟨_, rfl, h_a_0⟩⟩, ⟨[v_a_1], _, rfl, ⟨_, rfl, h_a_1⟩, ⟨_, rfl, h_a_2⟩⟩⟩
    have ht30 := Kp.tr (Dw := Dw) hk29 hA hB
    replace hH := Hp.kp (Dw := Dw) hH hk29
    replace h_b0 := Sl.tr (Dw := Dw) h_b0 ht30
    replace h_b1 := Sl.tr (Dw := Dw) h_b1 ht30
    replace h_b2 := Sl.tr (Dw := Dw) h_b2 ht30
    replace h_a_0 := Sl.tr (Dw := Dw) h_a_0 ht30
    replace h_a_1 := Sl.tr (Dw := Dw) h_a_1 ht30
    replace h_a_2 := Sl.tr (Dw := Dw) h_a_2 ht30
    replace hK := Tr.trans (Dw := Dw) hK ht30
    replace hB := Nat.le_trans hB ht30.ex.size
    replace hA := ht30.new
    refine V_to (fun _ _ => rfl) ?_
    refine C_seq ?_
    refine C_region ?_
    refine V_y (Y_move rfl) rfl rfl rfl ?_
    refine V_y (Y_asIS Tryz.underlying28 rfl) rfl rfl rfl ?_
    refine V_y (Y_move rfl) rfl rfl rfl ?_
    refine V_y (Y_extract rfl rfl) rfl rfl rfl ?_
    refine V_y (Y_extract rfl rfl) rfl rfl rfl ?_
    refine V_alloc Tryz.zeroValue28 rfl ?_
    intro b31 w33 h34
    have h39 : (v_b0).oneCell' = true := by obtain ⟨_, _, e, _⟩ := Sl.form h_b0; rw [e]; rfl
    have h42 : (v_b1).oneCell' = true := by obtain ⟨_, _, e, _⟩ := Sl.form h_b1; rw [e]; rfl
    have h45 : (v_b2).oneCell' = true := by obtain ⟨_, _, e, _⟩ := Sl.form h_b2; rw [e]; rfl
    refine V_storeNew h34 Tryz.sizeOf28 rfl rfl rfl rfl (by exact (List.forall_mem_cons.2 ⟨rfl, (List.forall_mem_cons.2 ⟨h39, (List.forall_mem_cons.2 ⟨h42, (List.forall_mem_cons.2 ⟨h45, (fun _ h => nomatch h)⟩)⟩)⟩)⟩)) ?_
    intro w35 h36
    have hk47 := h36.kp (Dw := Dw)
    have h46 : El (α := cal_Calendar) A w35 b31 0 b := h36.el hA ⟨[.int .i64 b.zone.offset, v_b0], _, rfl, ⟨[.int .i64 b.zone.offset], _, rfl, rfl, ⟨_, rfl, h_b0⟩⟩, ⟨[v_b1], _, rfl, ⟨_, rfl, h_b1⟩, ⟨_, rfl, h_b2⟩⟩⟩
    have ht48 := Kp.tr (Dw := Dw) hk47 hA hB
    replace hH := Hp.kp (Dw := Dw) hH hk47
    replace h_b0 := Sl.tr (Dw := Dw) h_b0 ht48
    replace h_b1 := Sl.tr (Dw := Dw) h_b1 ht48
    replace h_b2 := Sl.tr (Dw := Dw) h_b2 ht48
    replace h28 := El.tr (Dw := Dw) h28 ht48
    replace hK := Tr.trans (Dw := Dw) hK ht48
    replace hB := Nat.le_trans hB ht48.ex.size
    replace hA := ht48.new
    refine V_y (Y_assign rfl) rfl rfl rfl ?_
    refine V_to (fun _ _ => rfl) ?_
    refine C_seq ?_
    obtain ⟨s50, ho49, hm⟩ := Option.bind_eq_some_iff.1 hm
    refine C_cutG (ι := (Nat → Prop)) (fun (A55 : (Nat → Prop)) => [(4, .bool s50)]) (fun (A55 : (Nat → Prop)) => fun w' => Hp w.heap.size A55 w' ([]) ∧ Tr Dw w.heap.size A w35 A55 w') ?_ ?_
    · have hr51 : Tr Dw w.heap.size A w35 A w35 := Tr.refl (Dw := Dw) hA
      refine C_region ?_
      refine V_y (Y_move rfl) rfl rfl rfl ?_
      refine V_y (Y_move rfl) rfl rfl rfl ?_
      rcases Bool.eq_false_or_eq_true (true) with hc57 | hc57
      · rw [if_pos hc57] at ho49
        refine V_ge rfl rfl rfl hc57 ?_
        have h58 := El_cal_Calendar_0 h28
        refine V_y (Y_fieldAddr Tryz.underlying28 rfl Tryz.sizeOf24 (by decide) rfl) rfl rfl rfl ?_
        refine V_ge rfl rfl rfl hc57 ?_
        have h59 := El_cal_Zone_0 h58
        refine V_y (Y_fieldAddr Tryz.underlying24 rfl Tryz.sizeOf3 (by decide) rfl) rfl rfl rfl ?_
        refine V_ge rfl rfl rfl hc57 ?_
        refine V_y (Y_load (El.int h59) Tryz.isAgg3 rfl) rfl rfl rfl ?_
        refine V_ge rfl rfl rfl hc57 ?_
        have h60 := El_cal_Calendar_0 h46
        refine V_y (Y_fieldAddr Tryz.underlying28 rfl Tryz.sizeOf24 (by decide) rfl) rfl rfl rfl ?_
        refine V_ge rfl rfl rfl hc57 ?_
        have h61 := El_cal_Zone_0 h60
        refine V_y (Y_fieldAddr Tryz.underlying24 rfl Tryz.sizeOf3 (by decide) rfl) rfl rfl rfl ?_
        refine V_ge rfl rfl rfl hc57 ?_
        refine V_y (Y_load (El.int h61) Tryz.isAgg3 rfl) rfl rfl rfl ?_
        refine V_ge rfl rfl rfl hc57 ?_
        refine V_y (Y_eql rfl rfl) rfl rfl rfl ?_
        refine V_y (Y_pick_te rfl hc57 rfl) rfl rfl rfl ?_
        refine V_y (Y_move rfl) rfl rfl rfl ?_
        rcases Bool.eq_false_or_eq_true (a_.zone.offset == b.zone.offset) with hc62 | hc62
        · rw [if_pos hc62] at ho49
          refine V_ge rfl rfl rfl hc62 ?_
          have h63 := El_cal_Calendar_0 h28
          refine V_y (Y_fieldAddr Tryz.underlying28 rfl Tryz.sizeOf24 (by decide) rfl) rfl rfl rfl ?_
          refine V_ge rfl rfl rfl hc62 ?_
          have h64 := El_cal_Zone_1 h63
          refine V_y (Y_fieldAddr Tryz.underlying24 rfl Tryz.sizeOf22 (by decide) rfl) rfl rfl rfl ?_
          refine V_ge rfl rfl rfl hc62 ?_
          obtain ⟨v65, h66, h67⟩ := El.list h64
          refine V_y (Y_load h66 Tryz.isAgg22 rfl) rfl rfl rfl ?_
          refine V_ge rfl rfl rfl hc62 ?_
          have h68 := El_cal_Calendar_0 h46
          refine V_y (Y_fieldAddr Tryz.underlying28 rfl Tryz.sizeOf24 (by decide) rfl) rfl rfl rfl ?_
          refine V_ge rfl rfl rfl hc62 ?_
          have h69 := El_cal_Zone_1 h68
          refine V_y (Y_fieldAddr Tryz.underlying24 rfl Tryz.sizeOf22 (by decide) rfl) rfl rfl rfl ?_
          refine V_ge rfl rfl rfl hc62 ?_
          obtain ⟨v70, h71, h72⟩ := El.list h69
          refine V_y (Y_load h71 Tryz.isAgg22 rfl) rfl rfl rfl ?_
          refine V_ge rfl rfl rfl hc62 ?_
          obtain ⟨x73, hx73, ho49⟩ := Option.bind_eq_some_iff.1 ho49
          refine V_call Tryz.call16 rfl rfl rfl rfl (slices_Equal_Lcal_Change_cal_Change_c (Dw := Dw) w35 hA a_.zone.changes v65 h67 b.zone.changes v70 h72 hx73) ?_
          rintro _ w74 ⟨rfl, hk75⟩
          have ht76 := Kp.tr (Dw := Dw) hk75 hA hB
          replace hH := Hp.kp (Dw := Dw) hH hk75
          replace h28 := El.tr (Dw := Dw) h28 ht76
          replace h46 := El.tr (Dw := Dw) h46 ht76
          replace h58 := El.tr (Dw := Dw) h58 ht76
          replace h59 := El.tr (Dw := Dw) h59 ht76
          replace h60 := El.tr (Dw := Dw) h60 ht76
          replace h61 := El.tr (Dw := Dw) h61 ht76
          replace h63 := El.tr (Dw := Dw) h63 ht76
          replace h64 := El.tr (Dw := Dw) h64 ht76
          replace h67 := Sl.tr (Dw := Dw) h67 ht76
          replace h68 := El.tr (Dw := Dw) h68 ht76
          replace h69 := El.tr (Dw := Dw) h69 ht76
          replace h72 := Sl.tr (Dw := Dw) h72 ht76
          replace hK := Tr.trans (Dw := Dw) hK ht76
          replace hr51 := Tr.trans (Dw := Dw) hr51 ht76
          replace hB := Nat.le_trans hB ht76.ex.size
          replace hA := ht76.new
          refine V_y (Y_pick_te rfl hc62 rfl) rfl rfl rfl ?_
          refine V_y (Y_move rfl) rfl rfl rfl ?_
          rcases Bool.eq_false_or_eq_true (x73) with hc77 | hc77
          · rw [if_pos hc77] at ho49
            refine V_ge rfl rfl rfl hc77 ?_
            have h78 := El_cal_Calendar_1 h28
            refine V_y (Y_fieldAddr Tryz.underlying28 rfl Tryz.sizeOf25 (by decide) rfl) rfl rfl rfl ?_
            refine V_ge rfl rfl rfl hc77 ?_
            obtain ⟨v79, h80, h81⟩ := El.list h78
            refine V_y (Y_load h80 Tryz.isAgg25 rfl) rfl rfl rfl ?_
            refine V_ge rfl rfl rfl hc77 ?_
            have h82 := El_cal_Calendar_1 h46
            refine V_y (Y_fieldAddr Tryz.underlying28 rfl Tryz.sizeOf25 (by decide) rfl) rfl rfl rfl ?_
            refine V_ge rfl rfl rfl hc77 ?_
            obtain ⟨v83, h84, h85⟩ := El.list h82
            refine V_y (Y_load h84 Tryz.isAgg25 rfl) rfl rfl rfl ?_
            refine V_ge rfl rfl rfl hc77 ?_
            obtain ⟨x86, hx86, ho49⟩ := Option.bind_eq_some_iff.1 ho49
            refine V_call Tryz.call17 rfl rfl rfl rfl (slices_Equal_Lcal_Shift_cal_Shift_c (Dw := Dw) w74 hA a_.week v79 h81 b.week v83 h85 hx86) ?_
            rintro _ w87 ⟨rfl, hk88⟩
            have ht89 := Kp.tr (Dw := Dw) hk88 hA hB
            replace hH := Hp.kp (Dw := Dw) hH hk88
            replace h28 := El.tr (Dw := Dw) h28 ht89
            replace h46 := El.tr (Dw := Dw) h46 ht89
            replace h58 := El.tr (Dw := Dw) h58 ht89
            replace h59 := El.tr (Dw := Dw) h59 ht89
            replace h60 := El.tr (Dw := Dw) h60 ht89
            replace h61 := El.tr (Dw := Dw) h61 ht89
            replace h63 := El.tr (Dw := Dw) h63 ht89
            replace h64 := El.tr (Dw := Dw) h64 ht89
            replace h67 := Sl.tr (Dw := Dw) h67 ht89
            replace h68 := El.tr (Dw := Dw) h68 ht89
            replace h69 := El.tr (Dw := Dw) h69 ht89
            replace h72 := Sl.tr (Dw := Dw) h72 ht89
            replace h78 := El.tr (Dw := Dw) h78 ht89
            replace h81 := Sl.tr (Dw := Dw) h81 ht89
            replace h82 := El.tr (Dw := Dw) h82 ht89
            replace h85 := Sl.tr (Dw := Dw) h85 ht89
            replace hK := Tr.trans (Dw := Dw) hK ht89
            replace hr51 := Tr.trans (Dw := Dw) hr51 ht89
            replace hB := Nat.le_trans hB ht89.ex.size
            replace hA := ht89.new
            refine V_y (Y_pick_te rfl hc77 rfl) rfl rfl rfl ?_
            refine V_y (Y_move rfl) rfl rfl rfl ?_
            rcases Bool.eq_false_or_eq_true (x86) with hc90 | hc90
            · rw [if_pos hc90] at ho49
              refine V_ge rfl rfl rfl hc90 ?_
              have h91 := El_cal_Calendar_2 h28
              refine V_y (Y_fieldAddr Tryz.underlying28 rfl Tryz.sizeOf26 (by decide) rfl) rfl rfl rfl ?_
              refine V_ge rfl rfl rfl hc90 ?_
              obtain ⟨v92, h93, h94⟩ := El.list h91
              refine V_y (Y_load h93 Tryz.isAgg26 rfl) rfl rfl rfl ?_
              refine V_ge rfl rfl rfl hc90 ?_
              have h95 := El_cal_Calendar_2 h46
              refine V_y (Y_fieldAddr Tryz.underlying28 rfl Tryz.sizeOf26 (by decide) rfl) rfl rfl rfl ?_
              refine V_ge rfl rfl rfl hc90 ?_
              obtain ⟨v96, h97, h98⟩ := El.list h95
              refine V_y (Y_load h97 Tryz.isAgg26 rfl) rfl rfl rfl ?_
              refine V_ge rfl rfl rfl hc90 ?_
              obtain ⟨x101, hx101, ho49⟩ := Option.bind_eq_some_iff.1 ho49
              refine V_call Tryz.call18 rfl rfl rfl rfl (slices_EqualFunc_Lcal_Special_Lcal_Special_cal_Special_cal_Special_c (Dw := Dw) w87 hA a_.specials v92 h94 b.specials v96 h98 (fun y114 y115 => portref2_Alike_1 y114 y115) 19 #[] #[] Tryz.call19 (fun w110 A111 ht112 h113 y102 v103 h104 y105 v106 h107 r108 h109 => (portref2_Alike_1_c (Dw := Dw) w110 h113 y102 v103 h104 y105 v106 h107  h109).mono (fun _ _ h => ⟨h.1, h.2⟩)) hx101) ?_
              rintro _ w116 ⟨rfl, hk117⟩
              have ht118 := Kp.tr (Dw := Dw) hk117 hA hB
              replace hH := Hp.kp (Dw := Dw) hH hk117
              replace h28 := El.tr (Dw := Dw) h28 ht118
              replace h46 := El.tr (Dw := Dw) h46 ht118
              replace h58 := El.tr (Dw := Dw) h58 ht118
              replace h59 := El.tr (Dw := Dw) h59 ht118
              replace h60 := El.tr (Dw := Dw) h60 ht118
              replace h61 := El.tr (Dw := Dw) h61 ht118
              replace h63 := El.tr (Dw := Dw) h63 ht118
              replace h64 := El.tr (Dw := Dw) h64 ht118
              replace h67 := Sl.tr (Dw := Dw) h67 ht118
              replace h68 := El.tr (Dw := Dw) h68 ht118
              replace h69 := El.tr (Dw := Dw) h69 ht118
              replace h72 := Sl.tr (Dw := Dw) h72 ht118
              replace h78 := El.tr (Dw := Dw) h78 ht118
              replace h81 := Sl.tr (Dw := Dw) h81 ht118
              replace h82 := El.tr (Dw := Dw) h82 ht118
              replace h85 := Sl.tr (Dw := Dw) h85 ht118
              replace h91 := El.tr (Dw := Dw) h91 ht118
              replace h94 := Sl.tr (Dw := Dw) h94 ht118
              replace h95 := El.tr (Dw := Dw) h95 ht118
              replace h98 := Sl.tr (Dw := Dw) h98 ht118
              replace hK := Tr.trans (Dw := Dw) hK ht118
              replace hr51 := Tr.trans (Dw := Dw) hr51 ht118
              replace hB := Nat.le_trans hB ht118.ex.size
              replace hA := ht118.new
              refine V_y (Y_pick_te rfl hc90 rfl) rfl rfl rfl ?_
              refine V_y (Y_assign rfl) rfl rfl rfl ?_
              obtain rfl := Option.some.inj ho49
              refine V_end (fun a ha119 => ?_)
              exact ⟨A, ha119.sub ⟨rfl, trivial⟩, ⟨hH, hr51⟩⟩
            · rw [if_neg (nt hc90)] at ho49
              refine V_gn rfl rfl rfl hc90 rfl rfl rfl ?_
              refine V_gn rfl rfl rfl hc90 rfl rfl rfl ?_
              refine V_gn rfl rfl rfl hc90 rfl rfl rfl ?_
              refine V_gn rfl rfl rfl hc90 rfl rfl rfl ?_
              refine V_gn rfl rfl rfl hc90 rfl rfl rfl ?_
              refine V_y (Y_pick_fe rfl hc90 rfl) rfl rfl rfl ?_
              refine V_y (Y_assign rfl) rfl rfl rfl ?_
              obtain rfl := Option.some.inj ho49
              refine V_end (fun a ha120 => ?_)
              exact ⟨A, ha120.sub ⟨rfl, trivial⟩, ⟨hH, hr51⟩⟩
          · rw [if_neg (nt hc77)] at ho49
            refine V_gn rfl rfl rfl hc77 rfl rfl rfl ?_
            refine V_gn rfl rfl rfl hc77 rfl rfl rfl ?_
            refine V_gn rfl rfl rfl hc77 rfl rfl rfl ?_
            refine V_gn rfl rfl rfl hc77 rfl rfl rfl ?_
            refine V_gn rfl rfl rfl hc77 rfl rfl rfl ?_
            refine V_y (Y_pick_fe rfl hc77 rfl) rfl rfl rfl ?_
            refine V_y (Y_move rfl) rfl rfl rfl ?_
            rcases Bool.eq_false_or_eq_true (false) with hc121 | hc121
            · rw [if_pos hc121] at ho49
              refine V_ge rfl rfl rfl hc121 ?_
              have h122 := El_cal_Calendar_2 h28
              refine V_y (Y_fieldAddr Tryz.underlying28 rfl Tryz.sizeOf26 (by decide) rfl) rfl rfl rfl ?_
              refine V_ge rfl rfl rfl hc121 ?_
              obtain ⟨v123, h124, h125⟩ := El.list h122
              refine V_y (Y_load h124 Tryz.isAgg26 rfl) rfl rfl rfl ?_
              refine V_ge rfl rfl rfl hc121 ?_
              have h126 := El_cal_Calendar_2 h46
              refine V_y (Y_fieldAddr Tryz.underlying28 rfl Tryz.sizeOf26 (by decide) rfl) rfl rfl rfl ?_
              refine V_ge rfl rfl rfl hc121 ?_
              obtain ⟨v127, h128, h129⟩ := El.list h126
              refine V_y (Y_load h128 Tryz.isAgg26 rfl) rfl rfl rfl ?_
              refine V_ge rfl rfl rfl hc121 ?_
              obtain ⟨x132, hx132, ho49⟩ := Option.bind_eq_some_iff.1 ho49
              refine V_call Tryz.call18 rfl rfl rfl rfl (slices_EqualFunc_Lcal_Special_Lcal_Special_cal_Special_cal_Special_c (Dw := Dw) w74 hA a_.specials v123 h125 b.specials v127 h129 (fun y145 y146 => portref2_Alike_1 y145 y146) 19 #[] #[] Tryz.call19 (fun w141 A142 ht143 h144 y133 v134 h135 y136 v137 h138 r139 h140 => (portref2_Alike_1_c (Dw := Dw) w141 h144 y133 v134 h135 y136 v137 h138  h140).mono (fun _ _ h => ⟨h.1, h.2⟩)) hx132) ?_
              rintro _ w147 ⟨rfl, hk148⟩
              have ht149 := Kp.tr (Dw := Dw) hk148 hA hB
              replace hH := Hp.kp (Dw := Dw) hH hk148
              replace h28 := El.tr (Dw := Dw) h28 ht149
              replace h46 := El.tr (Dw := Dw) h46 ht149
              replace h58 := El.tr (Dw := Dw) h58 ht149
              replace h59 := El.tr (Dw := Dw) h59 ht149
              replace h60 := El.tr (Dw := Dw) h60 ht149
              replace h61 := El.tr (Dw := Dw) h61 ht149
              replace h63 := El.tr (Dw := Dw) h63 ht149
              replace h64 := El.tr (Dw := Dw) h64 ht149
              replace h67 := Sl.tr (Dw := Dw) h67 ht149
              replace h68 := El.tr (Dw := Dw) h68 ht149
              replace h69 := El.tr (Dw := Dw) h69 ht149
              replace h72 := Sl.tr (Dw := Dw) h72 ht149
              replace h122 := El.tr (Dw := Dw) h122 ht149
              replace h125 := Sl.tr (Dw := Dw) h125 ht149
              replace h126 := El.tr (Dw := Dw) h126 ht149
              replace h129 := Sl.tr (Dw := Dw) h129 ht149
              replace hK := Tr.trans (Dw := Dw) hK ht149
              replace hr51 := Tr.trans (Dw := Dw) hr51 ht149
              replace hB := Nat.le_trans hB ht149.ex.size
              replace hA := ht149.new
              refine V_y (Y_pick_te rfl hc121 rfl) rfl rfl rfl ?_
              refine V_y (Y_assign rfl) rfl rfl rfl ?_
              obtain rfl := Option.some.inj ho49
              refine V_end (fun a ha150 => ?_)
              exact ⟨A, ha150.sub ⟨rfl, trivial⟩, ⟨hH, hr51⟩⟩
            · rw [if_neg (nt hc121)] at ho49
              refine V_gn rfl rfl rfl hc121 rfl rfl rfl ?_
              refine V_gn rfl rfl rfl hc121 rfl rfl rfl ?_
              refine V_gn rfl rfl rfl hc121 rfl rfl rfl ?_
              refine V_gn rfl rfl rfl hc121 rfl rfl rfl ?_
              refine V_gn rfl rfl rfl hc121 rfl rfl rfl ?_
              refine V_y (Y_pick_fe rfl hc121 rfl) rfl rfl rfl ?_
              refine V_y (Y_assign rfl) rfl rfl rfl ?_
              obtain rfl := Option.some.inj ho49
              refine V_end (fun a ha151 => ?_)
              exact ⟨A, ha151.sub ⟨rfl, trivial⟩, ⟨hH, hr51⟩⟩
        · rw [if_neg (nt hc62)] at ho49
          refine V_gn rfl rfl rfl hc62 rfl rfl rfl ?_
          refine V_gn rfl rfl rfl hc62 rfl rfl rfl ?_
          refine V_gn rfl rfl rfl hc62 rfl rfl rfl ?_
          refine V_gn rfl rfl rfl hc62 rfl rfl rfl ?_
          refine V_gn rfl rfl rfl hc62 rfl rfl rfl ?_
          refine V_gn rfl rfl rfl hc62 rfl rfl rfl ?_
          refine V_gn rfl rfl rfl hc62 rfl rfl rfl ?_
          refine V_y (Y_pick_fe rfl hc62 rfl) rfl rfl rfl ?_
          refine V_y (Y_move rfl) rfl rfl rfl ?_
          rcases Bool.eq_false_or_eq_true (false) with hc152 | hc152
          · rw [if_pos hc152] at ho49
            refine V_ge rfl rfl rfl hc152 ?_
            have h153 := El_cal_Calendar_1 h28
            refine V_y (Y_fieldAddr Tryz.underlying28 rfl Tryz.sizeOf25 (by decide) rfl) rfl rfl rfl ?_
            refine V_ge rfl rfl rfl hc152 ?_
            obtain ⟨v154, h155, h156⟩ := El.list h153
            refine V_y (Y_load h155 Tryz.isAgg25 rfl) rfl rfl rfl ?_
            refine V_ge rfl rfl rfl hc152 ?_
            have h157 := El_cal_Calendar_1 h46
            refine V_y (Y_fieldAddr Tryz.underlying28 rfl Tryz.sizeOf25 (by decide) rfl) rfl rfl rfl ?_
            refine V_ge rfl rfl rfl hc152 ?_
            obtain ⟨v158, h159, h160⟩ := El.list h157
            refine V_y (Y_load h159 Tryz.isAgg25 rfl) rfl rfl rfl ?_
            refine V_ge rfl rfl rfl hc152 ?_
            obtain ⟨x161, hx161, ho49⟩ := Option.bind_eq_some_iff.1 ho49
            refine V_call Tryz.call17 rfl rfl rfl rfl (slices_Equal_Lcal_Shift_cal_Shift_c (Dw := Dw) w35 hA a_.week v154 h156 b.week v158 h160 hx161) ?_
            rintro _ w162 ⟨rfl, hk163⟩
            have ht164 := Kp.tr (Dw := Dw) hk163 hA hB
            replace hH := Hp.kp (Dw := Dw) hH hk163
            replace h28 := El.tr (Dw := Dw) h28 ht164
            replace h46 := El.tr (Dw := Dw) h46 ht164
            replace h58 := El.tr (Dw := Dw) h58 ht164
            replace h59 := El.tr (Dw := Dw) h59 ht164
            replace h60 := El.tr (Dw := Dw) h60 ht164
            replace h61 := El.tr (Dw := Dw) h61 ht164
            replace h153 := El.tr (Dw := Dw) h153 ht164
            replace h156 := Sl.tr (Dw := Dw) h156 ht164
            replace h157 := El.tr (Dw := Dw) h157 ht164
            replace h160 := Sl.tr (Dw := Dw) h160 ht164
            replace hK := Tr.trans (Dw := Dw) hK ht164
            replace hr51 := Tr.trans (Dw := Dw) hr51 ht164
            replace hB := Nat.le_trans hB ht164.ex.size
            replace hA := ht164.new
            refine V_y (Y_pick_te rfl hc152 rfl) rfl rfl rfl ?_
            refine V_y (Y_move rfl) rfl rfl rfl ?_
            rcases Bool.eq_false_or_eq_true (x161) with hc165 | hc165
            · rw [if_pos hc165] at ho49
              refine V_ge rfl rfl rfl hc165 ?_
              have h166 := El_cal_Calendar_2 h28
              refine V_y (Y_fieldAddr Tryz.underlying28 rfl Tryz.sizeOf26 (by decide) rfl) rfl rfl rfl ?_
              refine V_ge rfl rfl rfl hc165 ?_
              obtain ⟨v167, h168, h169⟩ := El.list h166
              refine V_y (Y_load h168 Tryz.isAgg26 rfl) rfl rfl rfl ?_
              refine V_ge rfl rfl rfl hc165 ?_
              have h170 := El_cal_Calendar_2 h46
              refine V_y (Y_fieldAddr Tryz.underlying28 rfl Tryz.sizeOf26 (by decide) rfl) rfl rfl rfl ?_
              refine V_ge rfl rfl rfl hc165 ?_
              obtain ⟨v171, h172, h173⟩ := El.list h170
              refine V_y (Y_load h172 Tryz.isAgg26 rfl) rfl rfl rfl ?_
              refine V_ge rfl rfl rfl hc165 ?_
              obtain ⟨x176, hx176, ho49⟩ := Option.bind_eq_some_iff.1 ho49
              refine V_call Tryz.call18 rfl rfl rfl rfl (slices_EqualFunc_Lcal_Special_Lcal_Special_cal_Special_cal_Special_c (Dw := Dw) w162 hA a_.specials v167 h169 b.specials v171 h173 (fun y189 y190 => portref2_Alike_1 y189 y190) 19 #[] #[] Tryz.call19 (fun w185 A186 ht187 h188 y177 v178 h179 y180 v181 h182 r183 h184 => (portref2_Alike_1_c (Dw := Dw) w185 h188 y177 v178 h179 y180 v181 h182  h184).mono (fun _ _ h => ⟨h.1, h.2⟩)) hx176) ?_
              rintro _ w191 ⟨rfl, hk192⟩
              have ht193 := Kp.tr (Dw := Dw) hk192 hA hB
              replace hH := Hp.kp (Dw := Dw) hH hk192
              replace h28 := El.tr (Dw := Dw) h28 ht193
              replace h46 := El.tr (Dw := Dw) h46 ht193
              replace h58 := El.tr (Dw := Dw) h58 ht193
              replace h59 := El.tr (Dw := Dw) h59 ht193
              replace h60 := El.tr (Dw := Dw) h60 ht193
              replace h61 := El.tr (Dw := Dw) h61 ht193
              replace h153 := El.tr (Dw := Dw) h153 ht193
              replace h156 := Sl.tr (Dw := Dw) h156 ht193
              replace h157 := El.tr (Dw := Dw) h157 ht193
              replace h160 := Sl.tr (Dw := Dw) h160 ht193
              replace h166 := El.tr (Dw := Dw) h166 ht193
              replace h169 := Sl.tr (Dw := Dw) h169 ht193
              replace h170 := El.tr (Dw := Dw) h170 ht193
              replace h173 := Sl.tr (Dw := Dw) h173 ht193
              replace hK := Tr.trans (Dw := Dw) hK ht193
              replace hr51 := Tr.trans (Dw := Dw) hr51 ht193
              replace hB := Nat.le_trans hB ht193.ex.size
              replace hA := ht193.new
              refine V_y (Y_pick_te rfl hc165 rfl) rfl rfl rfl ?_
              refine V_y (Y_assign rfl) rfl rfl rfl ?_
              obtain rfl := Option.some.inj ho49
              refine V_end (fun a ha194 => ?_)
              exact ⟨A, ha194.sub ⟨rfl, trivial⟩, ⟨hH, hr51⟩⟩
            · rw [if_neg (nt hc165)] at ho49
              refine V_gn rfl rfl rfl hc165 rfl rfl rfl ?_
              refine V_gn rfl rfl rfl hc165 rfl rfl rfl ?_
              refine V_gn rfl rfl rfl hc165 rfl rfl rfl ?_
              refine V_gn rfl rfl rfl hc165 rfl rfl rfl ?_
              refine V_gn rfl rfl rfl hc165 rfl rfl rfl ?_
              refine V_y (Y_pick_fe rfl hc165 rfl) rfl rfl rfl ?_
              refine V_y (Y_assign rfl) rfl rfl rfl ?_
              obtain rfl := Option.some.inj ho49
              refine V_end (fun a ha195 => ?_)
              exact ⟨A, ha195.sub ⟨rfl, trivial⟩, ⟨hH, hr51⟩⟩
          · rw [if_neg (nt hc152)] at ho49
            refine V_gn rfl rfl rfl hc152 rfl rfl rfl ?_
            refine V_gn rfl rfl rfl hc152 rfl rfl rfl ?_
            refine V_gn rfl rfl rfl hc152 rfl rfl rfl ?_
            refine V_gn rfl rfl rfl hc152 rfl rfl rfl ?_
            refine V_gn rfl rfl rfl hc152 rfl rfl rfl ?_
            refine V_y (Y_pick_fe rfl hc152 rfl) rfl rfl rfl ?_
            refine V_y (Y_move rfl) rfl rfl rfl ?_
            rcases Bool.eq_false_or_eq_true (false) with hc196 | hc196
            · rw [if_pos hc196] at ho49
              refine V_ge rfl rfl rfl hc196 ?_
              have h197 := El_cal_Calendar_2 h28
              refine V_y (Y_fieldAddr Tryz.underlying28 rfl Tryz.sizeOf26 (by decide) rfl) rfl rfl rfl ?_
              refine V_ge rfl rfl rfl hc196 ?_
              obtain ⟨v198, h199, h200⟩ := El.list h197
              refine V_y (Y_load h199 Tryz.isAgg26 rfl) rfl rfl rfl ?_
              refine V_ge rfl rfl rfl hc196 ?_
              have h201 := El_cal_Calendar_2 h46
              refine V_y (Y_fieldAddr Tryz.underlying28 rfl Tryz.sizeOf26 (by decide) rfl) rfl rfl rfl ?_
              refine V_ge rfl rfl rfl hc196 ?_
              obtain ⟨v202, h203, h204⟩ := El.list h201
              refine V_y (Y_load h203 Tryz.isAgg26 rfl) rfl rfl rfl ?_
              refine V_ge rfl rfl rfl hc196 ?_
              obtain ⟨x207, hx207, ho49⟩ := Option.bind_eq_some_iff.1 ho49
              refine V_call Tryz.call18 rfl rfl rfl rfl (slices_EqualFunc_Lcal_Special_Lcal_Special_cal_Special_cal_Special_c (Dw := Dw) w35 hA a_.specials v198 h200 b.specials v202 h204 (fun y220 y221 => portref2_Alike_1 y220 y221) 19 #[] #[] Tryz.call19 (fun w216 A217 ht218 h219 y208 v209 h210 y211 v212 h213 r214 h215 => (portref2_Alike_1_c (Dw := Dw) w216 h219 y208 v209 h210 y211 v212 h213  h215).mono (fun _ _ h => ⟨h.1, h.2⟩)) hx207) ?_
              rintro _ w222 ⟨rfl, hk223⟩
              have ht224 := Kp.tr (Dw := Dw) hk223 hA hB
              replace hH := Hp.kp (Dw := Dw) hH hk223
              replace h28 := El.tr (Dw := Dw) h28 ht224
              replace h46 := El.tr (Dw := Dw) h46 ht224
              replace h58 := El.tr (Dw := Dw) h58 ht224
              replace h59 := El.tr (Dw := Dw) h59 ht224
              replace h60 := El.tr (Dw := Dw) h60 ht224
              replace h61 := El.tr (Dw := Dw) h61 ht224
              replace h197 := El.tr (Dw := Dw) h197 ht224
              replace h200 := Sl.tr (Dw := Dw) h200 ht224
              replace h201 := El.tr (Dw := Dw) h201 ht224
              replace h204 := Sl.tr (Dw := Dw) h204 ht224
              replace hK := Tr.trans (Dw := Dw) hK ht224
              replace hr51 := Tr.trans (Dw := Dw) hr51 ht224
              replace hB := Nat.le_trans hB ht224.ex.size
              replace hA := ht224.new
              refine V_y (Y_pick_te rfl hc196 rfl) rfl rfl rfl ?_
              refine V_y (Y_assign rfl) rfl rfl rfl ?_
              obtain rfl := Option.some.inj ho49
              refine V_end (fun a ha225 => ?_)
              exact ⟨A, ha225.sub ⟨rfl, trivial⟩, ⟨hH, hr51⟩⟩
            · rw [if_neg (nt hc196)] at ho49
              refine V_gn rfl rfl rfl hc196 rfl rfl rfl ?_
              refine V_gn rfl rfl rfl hc196 rfl rfl rfl ?_
              refine V_gn rfl rfl rfl hc196 rfl rfl rfl ?_
              refine V_gn rfl rfl rfl hc196 rfl rfl rfl ?_
              refine V_gn rfl rfl rfl hc196 rfl rfl rfl ?_
              refine V_y (Y_pick_fe rfl hc196 rfl) rfl rfl rfl ?_
              refine V_y (Y_assign rfl) rfl rfl rfl ?_
              obtain rfl := Option.some.inj ho49
              refine V_end (fun a ha226 => ?_)
              exact ⟨A, ha226.sub ⟨rfl, trivial⟩, ⟨hH, hr51⟩⟩
      · rw [if_neg (nt hc57)] at ho49
        refine V_gn rfl rfl rfl hc57 rfl rfl rfl ?_
        refine V_gn rfl rfl rfl hc57 rfl rfl rfl ?_
        refine V_gn rfl rfl rfl hc57 rfl rfl rfl ?_
        refine V_gn rfl rfl rfl hc57 rfl rfl rfl ?_
        refine V_gn rfl rfl rfl hc57 rfl rfl rfl ?_
        refine V_gn rfl rfl rfl hc57 rfl rfl rfl ?_
        refine V_gn rfl rfl rfl hc57 rfl rfl rfl ?_
        refine V_y (Y_pick_fe rfl hc57 rfl) rfl rfl rfl ?_
        refine V_y (Y_move rfl) rfl rfl rfl ?_
        rcases Bool.eq_false_or_eq_true (false) with hc227 | hc227
        · rw [if_pos hc227] at ho49
          refine V_ge rfl rfl rfl hc227 ?_
          have h228 := El_cal_Calendar_0 h28
          refine V_y (Y_fieldAddr Tryz.underlying28 rfl Tryz.sizeOf24 (by decide) rfl) rfl rfl rfl ?_
          refine V_ge rfl rfl rfl hc227 ?_
          have h229 := El_cal_Zone_1 h228
          refine V_y (Y_fieldAddr Tryz.underlying24 rfl Tryz.sizeOf22 (by decide) rfl) rfl rfl rfl ?_
          refine V_ge rfl rfl rfl hc227 ?_
          obtain ⟨v230, h231, h232⟩ := El.list h229
          refine V_y (Y_load h231 Tryz.isAgg22 rfl) rfl rfl rfl ?_
          refine V_ge rfl rfl rfl hc227 ?_
          have h233 := El_cal_Calendar_0 h46
          refine V_y (Y_fieldAddr Tryz.underlying28 rfl Tryz.sizeOf24 (by decide) rfl) rfl rfl rfl ?_
          refine V_ge rfl rfl rfl hc227 ?_
          have h234 := El_cal_Zone_1 h233
          refine V_y (Y_fieldAddr Tryz.underlying24 rfl Tryz.sizeOf22 (by decide) rfl) rfl rfl rfl ?_
          refine V_ge rfl rfl rfl hc227 ?_
          obtain ⟨v235, h236, h237⟩ := El.list h234
          refine V_y (Y_load h236 Tryz.isAgg22 rfl) rfl rfl rfl ?_
          refine V_ge rfl rfl rfl hc227 ?_
          obtain ⟨x238, hx238, ho49⟩ := Option.bind_eq_some_iff.1 ho49
          refine V_call Tryz.call16 rfl rfl rfl rfl (slices_Equal_Lcal_Change_cal_Change_c (Dw := Dw) w35 hA a_.zone.changes v230 h232 b.zone.changes v235 h237 hx238) ?_
          rintro _ w239 ⟨rfl, hk240⟩
          have ht241 := Kp.tr (Dw := Dw) hk240 hA hB
          replace hH := Hp.kp (Dw := Dw) hH hk240
          replace h28 := El.tr (Dw := Dw) h28 ht241
          replace h46 := El.tr (Dw := Dw) h46 ht241
          replace h228 := El.tr (Dw := Dw) h228 ht241
          replace h229 := El.tr (Dw := Dw) h229 ht241
          replace h232 := Sl.tr (Dw := Dw) h232 ht241
          replace h233 := El.tr (Dw := Dw) h233 ht241
          replace h234 := El.tr (Dw := Dw) h234 ht241
          replace h237 := Sl.tr (Dw := Dw) h237 ht241
          replace hK := Tr.trans (Dw := Dw) hK ht241
          replace hr51 := Tr.trans (Dw := Dw) hr51 ht241
          replace hB := Nat.le_trans hB ht241.ex.size
          replace hA := ht241.new
          refine V_y (Y_pick_te rfl hc227 rfl) rfl rfl rfl ?_
          refine V_y (Y_move rfl) rfl rfl rfl ?_
          rcases Bool.eq_false_or_eq_true (x238) with hc242 | hc242
          · rw [if_pos hc242] at ho49
            refine V_ge rfl rfl rfl hc242 ?_
            have h243 := El_cal_Calendar_1 h28
            refine V_y (Y_fieldAddr Tryz.underlying28 rfl Tryz.sizeOf25 (by decide) rfl) rfl rfl rfl ?_
            refine V_ge rfl rfl rfl hc242 ?_
            obtain ⟨v244, h245, h246⟩ := El.list h243
            refine V_y (Y_load h245 Tryz.isAgg25 rfl) rfl rfl rfl ?_
            refine V_ge rfl rfl rfl hc242 ?_
            have h247 := El_cal_Calendar_1 h46
            refine V_y (Y_fieldAddr Tryz.underlying28 rfl Tryz.sizeOf25 (by decide) rfl) rfl rfl rfl ?_
            refine V_ge rfl rfl rfl hc242 ?_
            obtain ⟨v248, h249, h250⟩ := El.list h247
            refine V_y (Y_load h249 Tryz.isAgg25 rfl) rfl rfl rfl ?_
            refine V_ge rfl rfl rfl hc242 ?_
            obtain ⟨x251, hx251, ho49⟩ := Option.bind_eq_some_iff.1 ho49
            refine V_call Tryz.call17 rfl rfl rfl rfl (slices_Equal_Lcal_Shift_cal_Shift_c (Dw := Dw) w239 hA a_.week v244 h246 b.week v248 h250 hx251) ?_
            rintro _ w252 ⟨rfl, hk253⟩
            have ht254 := Kp.tr (Dw := Dw) hk253 hA hB
            replace hH := Hp.kp (Dw := Dw) hH hk253
            replace h28 := El.tr (Dw := Dw) h28 ht254
            replace h46 := El.tr (Dw := Dw) h46 ht254
            replace h228 := El.tr (Dw := Dw) h228 ht254
            replace h229 := El.tr (Dw := Dw) h229 ht254
            replace h232 := Sl.tr (Dw := Dw) h232 ht254
            replace h233 := El.tr (Dw := Dw) h233 ht254
            replace h234 := El.tr (Dw := Dw) h234 ht254
            replace h237 := Sl.tr (Dw := Dw) h237 ht254
            replace h243 := El.tr (Dw := Dw) h243 ht254
            replace h246 := Sl.tr (Dw := Dw) h246 ht254
            replace h247 := El.tr (Dw := Dw) h247 ht254
            replace h250 := Sl.tr (Dw := Dw) h250 ht254
            replace hK := Tr.trans (Dw := Dw) hK ht254
            replace hr51 := Tr.trans (Dw := Dw) hr51 ht254
            replace hB := Nat.le_trans hB ht254.ex.size
            replace hA := ht254.new
            refine V_y (Y_pick_te rfl hc242 rfl) rfl rfl rfl ?_
            refine V_y (Y_move rfl) rfl rfl rfl ?_
            rcases Bool.eq_false_or_eq_true (x251) with hc255 | hc255
            · rw [if_pos hc255] at ho49
              refine V_ge rfl rfl rfl hc255 ?_
              have h256 := El_cal_Calendar_2 h28
              refine V_y (Y_fieldAddr Tryz.underlying28 rfl Tryz.sizeOf26 (by decide) rfl) rfl rfl rfl ?_
              refine V_ge rfl rfl rfl hc255 ?_
              obtain ⟨v257, h258, h259⟩ := El.list h256
              refine V_y (Y_load h258 Tryz.isAgg26 rfl) rfl rfl rfl ?_
              refine V_ge rfl rfl rfl hc255 ?_
              have h260 := El_cal_Calendar_2 h46
              refine V_y (Y_fieldAddr Tryz.underlying28 rfl Tryz.sizeOf26 (by decide) rfl) rfl rfl rfl ?_
              refine V_ge rfl rfl rfl hc255 ?_
              obtain ⟨v261, h262, h263⟩ := El.list h260
              refine V_y (Y_load h262 Tryz.isAgg26 rfl) rfl rfl rfl ?_
              refine V_ge rfl rfl rfl hc255 ?_
              obtain ⟨x266, hx266, ho49⟩ := Option.bind_eq_some_iff.1 ho49
              refine V_call Tryz.call18 rfl rfl rfl rfl (slices_EqualFunc_Lcal_Special_Lcal_Special_cal_Special_cal_Special_c (Dw := Dw) w252 hA a_.specials v257 h259 b.specials v261 h263 (fun y279 y280 => portref2_Alike_1 y279 y280) 19 #[] #[] Tryz.call19 (fun w275 A276 ht277 h278 y267 v268 h269 y270 v271 h272 r273 h274 => (portref2_Alike_1_c (Dw := Dw) w275 h278 y267 v268 h269 y270 v271 h272  h274).mono (fun _ _ h => ⟨h.1, h.2⟩)) hx266) ?_
              rintro _ w281 ⟨rfl, hk282⟩
              have ht283 := Kp.tr (Dw := Dw) hk282 hA hB
              replace hH := Hp.kp (Dw := Dw) hH hk282
              replace h28 := El.tr (Dw := Dw) h28 ht283
              replace h46 := El.tr (Dw := Dw) h46 ht283
              replace h228 := El.tr (Dw := Dw) h228 ht283
              replace h229 := El.tr (Dw := Dw) h229 ht283
              replace h232 := Sl.tr (Dw := Dw) h232 ht283
              replace h233 := El.tr (Dw := Dw) h233 ht283
              replace h234 := El.tr (Dw := Dw) h234 ht283
              replace h237 := Sl.tr (Dw := Dw) h237 ht283
              replace h243 := El.tr (Dw := Dw) h243 ht283
              replace h246 := Sl.tr (Dw := Dw) h246 ht283
              replace h247 := El.tr (Dw := Dw) h247 ht283
              replace h250 := Sl.tr (Dw := Dw) h250 ht283
              replace h256 := El.tr (Dw := Dw) h256 ht283
              replace h259 := Sl.tr (Dw := Dw) h259 ht283
              replace h260 := El.tr (Dw := Dw) h260 ht283
              replace h263 := Sl.tr (Dw := Dw) h263 ht283
              replace hK := Tr.trans (Dw := Dw) hK ht283
              replace hr51 := Tr.trans (Dw := Dw) hr51 ht283
              replace hB := Nat.le_trans hB ht283.ex.size
              replace hA := ht283.new
              refine V_y (Y_pick_te rfl hc255 rfl) rfl rfl rfl ?_
              refine V_y (Y_assign rfl) rfl rfl rfl ?_
              obtain rfl := Option.some.inj ho49
              refine V_end (fun a ha284 => ?_)
              exact ⟨A, ha284.sub ⟨rfl, trivial⟩, ⟨hH, hr51⟩⟩
            · rw [if_neg (nt hc255)] at ho49
              refine V_gn rfl rfl rfl hc255 rfl rfl rfl ?_
              refine V_gn rfl rfl rfl hc255 rfl rfl rfl ?_
              refine V_gn rfl rfl rfl hc255 rfl rfl rfl ?_
              refine V_gn rfl rfl rfl hc255 rfl rfl rfl ?_
              refine V_gn rfl rfl rfl hc255 rfl rfl rfl ?_
              refine V_y (Y_pick_fe rfl hc255 rfl) rfl rfl rfl ?_
              refine V_y (Y_assign rfl) rfl rfl rfl ?_
              obtain rfl := Option.some.inj ho49
              refine V_end (fun a ha285 => ?_)
              exact ⟨A, ha285.sub ⟨rfl, trivial⟩, ⟨hH, hr51⟩⟩
          · rw [if_neg (nt hc242)] at ho49
            refine V_gn rfl rfl rfl hc242 rfl rfl rfl ?_
            refine V_gn rfl rfl rfl hc242 rfl rfl rfl ?_
            refine V_gn rfl rfl rfl hc242 rfl rfl rfl ?_
            refine V_gn rfl rfl rfl hc242 rfl rfl rfl ?_
            refine V_gn rfl rfl rfl hc242 rfl rfl rfl ?_
            refine V_y (Y_pick_fe rfl hc242 rfl) rfl rfl rfl ?_
            refine V_y (Y_move rfl) rfl rfl rfl ?_
            rcases Bool.eq_false_or_eq_true (false) with hc286 | hc286
            · rw [if_pos hc286] at ho49
              refine V_ge rfl rfl rfl hc286 ?_
              have h287 := El_cal_Calendar_2 h28
              refine V_y (Y_fieldAddr Tryz.underlying28 rfl Tryz.sizeOf26 (by decide) rfl) rfl rfl rfl ?_
              refine V_ge rfl rfl rfl hc286 ?_
              obtain ⟨v288, h289, h290⟩ := El.list h287
              refine V_y (Y_load h289 Tryz.isAgg26 rfl) rfl rfl rfl ?_
              refine V_ge rfl rfl rfl hc286 ?_
              have h291 := El_cal_Calendar_2 h46
              refine V_y (Y_fieldAddr Tryz.underlying28 rfl Tryz.sizeOf26 (by decide) rfl) rfl rfl rfl ?_
              refine V_ge rfl rfl rfl hc286 ?_
              obtain ⟨v292, h293, h294⟩ := El.list h291
              refine V_y (Y_load h293 Tryz.isAgg26 rfl) rfl rfl rfl ?_
              refine V_ge rfl rfl rfl hc286 ?_
              obtain ⟨x297, hx297, ho49⟩ := Option.bind_eq_some_iff.1 ho49
              refine V_call Tryz.call18 rfl rfl rfl rfl (slices_EqualFunc_Lcal_Special_Lcal_Special_cal_Special_cal_Special_c (Dw := Dw) w239 hA a_.specials v288 h290 b.specials v292 h294 (fun y310 y311 => portref2_Alike_1 y310 y311) 19 #[] #[] Tryz.call19 (fun w306 A307 ht308 h309 y298 v299 h300 y301 v302 h303 r304 h305 => (portref2_Alike_1_c (Dw := Dw) w306 h309 y298 v299 h300 y301 v302 h303  h305).mono (fun _ _ h => ⟨h.1, h.2⟩)) hx297) ?_
              rintro _ w312 ⟨rfl, hk313⟩
              have ht314 := Kp.tr (Dw := Dw) hk313 hA hB
              replace hH := Hp.kp (Dw := Dw) hH hk313
              replace h28 := El.tr (Dw := Dw) h28 ht314
              replace h46 := El.tr (Dw := Dw) h46 ht314
              replace h228 := El.tr (Dw := Dw) h228 ht314
              replace h229 := El.tr (Dw := Dw) h229 ht314
              replace h232 := Sl.tr (Dw := Dw) h232 ht314
              replace h233 := El.tr (Dw := Dw) h233 ht314
              replace h234 := El.tr (Dw := Dw) h234 ht314
              replace h237 := Sl.tr (Dw := Dw) h237 ht314
              replace h287 := El.tr (Dw := Dw) h287 ht314
              replace h290 := Sl.tr (Dw := Dw) h290 ht314
              replace h291 := El.tr (Dw := Dw) h291 ht314
              replace h294 := Sl.tr (Dw := Dw) h294 ht314
              replace hK := Tr.trans (Dw := Dw) hK ht314
              replace hr51 := Tr.trans (Dw := Dw) hr51 ht314
              replace hB := Nat.le_trans hB ht314.ex.size
              replace hA := ht314.new
              refine V_y (Y_pick_te rfl hc286 rfl) rfl rfl rfl ?_
              refine V_y (Y_assign rfl) rfl rfl rfl ?_
              obtain rfl := Option.some.inj ho49
              refine V_end (fun a ha315 => ?_)
              exact ⟨A, ha315.sub ⟨rfl, trivial⟩, ⟨hH, hr51⟩⟩
            · rw [if_neg (nt hc286)] at ho49
              refine V_gn rfl rfl rfl hc286 rfl rfl rfl ?_
              refine V_gn rfl rfl rfl hc286 rfl rfl rfl ?_
              refine V_gn rfl rfl rfl hc286 rfl rfl rfl ?_
              refine V_gn rfl rfl rfl hc286 rfl rfl rfl ?_
              refine V_gn rfl rfl rfl hc286 rfl rfl rfl ?_
              refine V_y (Y_pick_fe rfl hc286 rfl) rfl rfl rfl ?_
              refine V_y (Y_assign rfl) rfl rfl rfl ?_
              obtain rfl := Option.some.inj ho49
              refine V_end (fun a ha316 => ?_)
              exact ⟨A, ha316.sub ⟨rfl, trivial⟩, ⟨hH, hr51⟩⟩
        · rw [if_neg (nt hc227)] at ho49
          refine V_gn rfl rfl rfl hc227 rfl rfl rfl ?_
          refine V_gn rfl rfl rfl hc227 rfl rfl rfl ?_
          refine V_gn rfl rfl rfl hc227 rfl rfl rfl ?_
          refine V_gn rfl rfl rfl hc227 rfl rfl rfl ?_
          refine V_gn rfl rfl rfl hc227 rfl rfl rfl ?_
          refine V_gn rfl rfl rfl hc227 rfl rfl rfl ?_
          refine V_gn rfl rfl rfl hc227 rfl rfl rfl ?_
          refine V_y (Y_pick_fe rfl hc227 rfl) rfl rfl rfl ?_
          refine V_y (Y_move rfl) rfl rfl rfl ?_
          rcases Bool.eq_false_or_eq_true (false) with hc317 | hc317
          · rw [if_pos hc317] at ho49
            refine V_ge rfl rfl rfl hc317 ?_
            have h318 := El_cal_Calendar_1 h28
            refine V_y (Y_fieldAddr Tryz.underlying28 rfl Tryz.sizeOf25 (by decide) rfl) rfl rfl rfl ?_
            refine V_ge rfl rfl rfl hc317 ?_
            obtain ⟨v319, h320, h321⟩ := El.list h318
            refine V_y (Y_load h320 Tryz.isAgg25 rfl) rfl rfl rfl ?_
            refine V_ge rfl rfl rfl hc317 ?_
            have h322 := El_cal_Calendar_1 h46
            refine V_y (Y_fieldAddr Tryz.underlying28 rfl Tryz.sizeOf25 (by decide) rfl) rfl rfl rfl ?_
            refine V_ge rfl rfl rfl hc317 ?_
            obtain ⟨v323, h324, h325⟩ := El.list h322
            refine V_y (Y_load h324 Tryz.isAgg25 rfl) rfl rfl rfl ?_
            refine V_ge rfl rfl rfl hc317 ?_
            obtain ⟨x326, hx326, ho49⟩ := Option.bind_eq_some_iff.1 ho49
            refine V_call Tryz.call17 rfl rfl rfl rfl (slices_Equal_Lcal_Shift_cal_Shift_c (Dw := Dw) w35 hA a_.week v319 h321 b.week v323 h325 hx326) ?_
            rintro _ w327 ⟨rfl, hk328⟩
            have ht329 := Kp.tr (Dw := Dw) hk328 hA hB
            replace hH := Hp.kp (Dw := Dw) hH hk328
            replace h28 := El.tr (Dw := Dw) h28 ht329
            replace h46 := El.tr (Dw := Dw) h46 ht329
            replace h318 := El.tr (Dw := Dw) h318 ht329
            replace h321 := Sl.tr (Dw := Dw) h321 ht329
            replace h322 := El.tr (Dw := Dw) h322 ht329
            replace h325 := Sl.tr (Dw := Dw) h325 ht329
            replace hK := Tr.trans (Dw := Dw) hK ht329
            replace hr51 := Tr.trans (Dw := Dw) hr51 ht329
            replace hB := Nat.le_trans hB ht329.ex.size
            replace hA := ht329.new
            refine V_y (Y_pick_te rfl hc317 rfl) rfl rfl rfl ?_
            refine V_y (Y_move rfl) rfl rfl rfl ?_
            rcases Bool.eq_false_or_eq_true (x326) with hc330 | hc330
            · rw [if_pos hc330] at ho49
              refine V_ge rfl rfl rfl hc330 ?_
              have h331 := El_cal_Calendar_2 h28
              refine V_y (Y_fieldAddr Tryz.underlying28 rfl Tryz.sizeOf26 (by decide) rfl) rfl rfl rfl ?_
              refine V_ge rfl rfl rfl hc330 ?_
              obtain ⟨v332, h333, h334⟩ := El.list h331
              refine V_y (Y_load h333 Tryz.isAgg26 rfl) rfl rfl rfl ?_
              refine V_ge rfl rfl rfl hc330 ?_
              have h335 := El_cal_Calendar_2 h46
              refine V_y (Y_fieldAddr Tryz.underlying28 rfl Tryz.sizeOf26 (by decide) rfl) rfl rfl rfl ?_
              refine V_ge rfl rfl rfl hc330 ?_
              obtain ⟨v336, h337, h338⟩ := El.list h335
              refine V_y (Y_load h337 Tryz.isAgg26 rfl) rfl rfl rfl ?_
              refine V_ge rfl rfl rfl hc330 ?_
              obtain ⟨x341, hx341, ho49⟩ := Option.bind_eq_some_iff.1 ho49
              refine V_call Tryz.call18 rfl rfl rfl rfl (slices_EqualFunc_Lcal_Special_Lcal_Special_cal_Special_cal_Special_c (Dw := Dw) w327 hA a_.specials v332 h334 b.specials v336 h338 (fun y354 y355 => portref2_Alike_1 y354 y355) 19 #[] #[] Tryz.call19 (fun w350 A351 ht352 h353 y342 v343 h344 y345 v346 h347 r348 h349 => (portref2_Alike_1_c (Dw := Dw) w350 h353 y342 v343 h344 y345 v346 h347  h349).mono (fun _ _ h => ⟨h.1, h.2⟩)) hx341) ?_
              rintro _ w356 ⟨rfl, hk357⟩
              have ht358 := Kp.tr (Dw := Dw) hk357 hA hB
              replace hH := Hp.kp (Dw := Dw) hH hk357
              replace h28 := El.tr (Dw := Dw) h28 ht358
              replace h46 := El.tr (Dw := Dw) h46 ht358
              replace h318 := El.tr (Dw := Dw) h318 ht358
              replace h321 := Sl.tr (Dw := Dw) h321 ht358
              replace h322 := El.tr (Dw := Dw) h322 ht358
              replace h325 := Sl.tr (Dw := Dw) h325 ht358
              replace h331 := El.tr (Dw := Dw) h331 ht358
              replace h334 := Sl.tr (Dw := Dw) h334 ht358
              replace h335 := El.tr (Dw := Dw) h335 ht358
              replace h338 := Sl.tr (Dw := Dw) h338 ht358
              replace hK := Tr.trans (Dw := Dw) hK ht358
              replace hr51 := Tr.trans (Dw := Dw) hr51 ht358
              replace hB := Nat.le_trans hB ht358.ex.size
              replace hA := ht358.new
              refine V_y (Y_pick_te rfl hc330 rfl) rfl rfl rfl ?_
              refine V_y (Y_assign rfl) rfl rfl rfl ?_
              obtain rfl := Option.some.inj ho49
              refine V_end (fun a ha359 => ?_)
              exact ⟨A, ha359.sub ⟨rfl, trivial⟩, ⟨hH, hr51⟩⟩
            · rw [if_neg (nt hc330)] at ho49
              refine V_gn rfl rfl rfl hc330 rfl rfl rfl ?_
              refine V_gn rfl rfl rfl hc330 rfl rfl rfl ?_
              refine V_gn rfl rfl rfl hc330 rfl rfl rfl ?_
              refine V_gn rfl rfl rfl hc330 rfl rfl rfl ?_
              refine V_gn rfl rfl rfl hc330 rfl rfl rfl ?_
              refine V_y (Y_pick_fe rfl hc330 rfl) rfl rfl rfl ?_
              refine V_y (Y_assign rfl) rfl rfl rfl ?_
              obtain rfl := Option.some.inj ho49
              refine V_end (fun a ha360 => ?_)
              exact ⟨A, ha360.sub ⟨rfl, trivial⟩, ⟨hH, hr51⟩⟩
          · rw [if_neg (nt hc317)] at ho49
            refine V_gn rfl rfl rfl hc317 rfl rfl rfl ?_
            refine V_gn rfl rfl rfl hc317 rfl rfl rfl ?_
            refine V_gn rfl rfl rfl hc317 rfl rfl rfl ?_
            refine V_gn rfl rfl rfl hc317 rfl rfl rfl ?_
            refine V_gn rfl rfl rfl hc317 rfl rfl rfl ?_
            refine V_y (Y_pick_fe rfl hc317 rfl) rfl rfl rfl ?_
            refine V_y (Y_move rfl) rfl rfl rfl ?_
            rcases Bool.eq_false_or_eq_true (false) with hc361 | hc361
            · rw [if_pos hc361] at ho49
              refine V_ge rfl rfl rfl hc361 ?_
              have h362 := El_cal_Calendar_2 h28
              refine V_y (Y_fieldAddr Tryz.underlying28 rfl Tryz.sizeOf26 (by decide) rfl) rfl rfl rfl ?_
              refine V_ge rfl rfl rfl hc361 ?_
              obtain ⟨v363, h364, h365⟩ := El.list h362
              refine V_y (Y_load h364 Tryz.isAgg26 rfl) rfl rfl rfl ?_
              refine V_ge rfl rfl rfl hc361 ?_
              have h366 := El_cal_Calendar_2 h46
              refine V_y (Y_fieldAddr Tryz.underlying28 rfl Tryz.sizeOf26 (by decide) rfl) rfl rfl rfl ?_
              refine V_ge rfl rfl rfl hc361 ?_
              obtain ⟨v367, h368, h369⟩ := El.list h366
              refine V_y (Y_load h368 Tryz.isAgg26 rfl) rfl rfl rfl ?_
              refine V_ge rfl rfl rfl hc361 ?_
              obtain ⟨x372, hx372, ho49⟩ := Option.bind_eq_some_iff.1 ho49
              refine V_call Tryz.call18 rfl rfl rfl rfl (slices_EqualFunc_Lcal_Special_Lcal_Special_cal_Special_cal_Special_c (Dw := Dw) w35 hA a_.specials v363 h365 b.specials v367 h369 (fun y385 y386 => portref2_Alike_1 y385 y386) 19 #[] #[] Tryz.call19 (fun w381 A382 ht383 h384 y373 v374 h375 y376 v377 h378 r379 h380 => (portref2_Alike_1_c (Dw := Dw) w381 h384 y373 v374 h375 y376 v377 h378  h380).mono (fun _ _ h => ⟨h.1, h.2⟩)) hx372) ?_
              rintro _ w387 ⟨rfl, hk388⟩
              have ht389 := Kp.tr (Dw := Dw) hk388 hA hB
              replace hH := Hp.kp (Dw := Dw) hH hk388
              replace h28 := El.tr (Dw := Dw) h28 ht389
              replace h46 := El.tr (Dw := Dw) h46 ht389
              replace h362 := El.tr (Dw := Dw) h362 ht389
              replace h365 := Sl.tr (Dw := Dw) h365 ht389
              replace h366 := El.tr (Dw := Dw) h366 ht389
              replace h369 := Sl.tr (Dw := Dw) h369 ht389
              replace hK := Tr.trans (Dw := Dw) hK ht389
              replace hr51 := Tr.trans (Dw := Dw) hr51 ht389
              replace hB := Nat.le_trans hB ht389.ex.size
              replace hA := ht389.new
              refine V_y (Y_pick_te rfl hc361 rfl) rfl rfl rfl ?_
              refine V_y (Y_assign rfl) rfl rfl rfl ?_
              obtain rfl := Option.some.inj ho49
              refine V_end (fun a ha390 => ?_)
              exact ⟨A, ha390.sub ⟨rfl, trivial⟩, ⟨hH, hr51⟩⟩
            · rw [if_neg (nt hc361)] at ho49
              refine V_gn rfl rfl rfl hc361 rfl rfl rfl ?_
              refine V_gn rfl rfl rfl hc361 rfl rfl rfl ?_
              refine V_gn rfl rfl rfl hc361 rfl rfl rfl ?_
              refine V_gn rfl rfl rfl hc361 rfl rfl rfl ?_
              refine V_gn rfl rfl rfl hc361 rfl rfl rfl ?_
              refine V_y (Y_pick_fe rfl hc361 rfl) rfl rfl rfl ?_
              refine V_y (Y_assign rfl) rfl rfl rfl ?_
              obtain rfl := Option.some.inj ho49
              refine V_end (fun a ha391 => ?_)
              exact ⟨A, ha391.sub ⟨rfl, trivial⟩, ⟨hH, hr51⟩⟩
    rintro A55 w52 ⟨hH56, hk53⟩ a ha54
    replace hK := Tr.trans (Dw := Dw) hK hk53
    replace hB := Nat.le_trans hB hk53.ex.size
    replace hA := hk53.new
    replace hH : Hp w.heap.size A55 w52 ([]) := hH56
    refine C_at (n := ⟨248, [], none⟩) (fun _ _ => rfl) ?_ ha54
    obtain rfl := Option.some.inj hm
    refine C_ret ?_
    try simp only [↓inBlock_ret, ↓then_ret]
    exact retQ rfl (Res.one Tryz.results6 rfl) ⟨rfl, hK.kp⟩
  · exact absurd hc (by decide)

set_option maxRecDepth 4000 in
set_option maxHeartbeats 4000000 in
theorem portlaw2_CalParses_c (w : World) {A : Nat → Prop} (hA : ∀ b, w.heap.size ≤ b → A b) (hT : Fz Tryz_FR A w) (s : ByteArray) {r : Bool} (hm : portlaw2_CalParses s = some r) : Ret Tryz.prog 3 #[.string s] w fun v w' => v = .bool r ∧ Kp False w w' := by
  unfold portlaw2_CalParses at hm
  refine enter Tryz.func3 rfl Tryz.ntmps3 rfl ?_
  have hA0 := hA
  have hB := Nat.le_refl w.heap.size
  have hK : Tr False w.heap.size A w A w := Tr.refl (Dw := False) hA
  have hH : Hp w.heap.size A w [] := Hp.nil
  refine C_seq ?_
  refine C_region ?_
  refine V_y (Y_assign rfl) rfl rfl rfl ?_
  refine V_to (fun _ _ => rfl) ?_
  refine C_seq ?_
  refine C_region ?_
  refine V_y (Y_move rfl) rfl rfl rfl ?_
  obtain ⟨x1, hx1, hm⟩ := Option.bind_eq_some_iff.1 hm
  refine V_call Tryz.call4 rfl rfl rfl rfl (cal_ReadCalendar_c w hA (Fz.tr (Dw := False) hT hK) s hx1) ?_
  rintro _ w9 ⟨v2, v4, v6, rfl, h3, h5, h7, hk10⟩
  have ht11 := Kp.tr (Dw := False) hk10 hA hB
  replace hH := Hp.kp (Dw := False) hH hk10
  replace hK := Tr.trans (Dw := False) hK ht11
  replace hB := Nat.le_trans hB ht11.ex.size
  replace hA := ht11.new
  refine V_y (Y_move rfl) rfl rfl rfl ?_
  refine V_y (Y_extract rfl rfl) rfl rfl rfl ?_
  refine V_y (Y_extract rfl rfl) rfl rfl rfl ?_
  refine V_y (Y_extract rfl rfl) rfl rfl rfl ?_
  refine V_alloc Tryz.zeroValue28 rfl ?_
  intro b12 w13 h14
  have h19 : (v2).oneCell' = true := by obtain ⟨_, _, e, _⟩ := Sl.form h3; rw [e]; rfl
  have h22 : (v4).oneCell' = true := by obtain ⟨_, _, e, _⟩ := Sl.form h5; rw [e]; rfl
  have h25 : (v6).oneCell' = true := by obtain ⟨_, _, e, _⟩ := Sl.form h7; rw [e]; rfl
  refine V_storeNew h14 Tryz.sizeOf28 rfl rfl rfl rfl (by exact (List.forall_mem_cons.2 ⟨rfl, (List.forall_mem_cons.2 ⟨h19, (List.forall_mem_cons.2 ⟨h22, (List.forall_mem_cons.2 ⟨h25, (fun _ h => nomatch h)⟩)⟩)⟩)⟩)) ?_
  intro w15 h16
  have hk27 := h16.kp (Dw := False)
  have h26 : El (α := cal_Calendar) A w15 b12 0 x1.1 := h16.el hA ⟨[.int .i64 x1.1.zone.offset, v2], _, rfl, ⟨[.int .i64 x1.1.zone.offset], _, rfl, rfl, ⟨_, rfl, h3⟩⟩, ⟨[v4], _, rfl, ⟨_, rfl, h5⟩, ⟨_, rfl, h7⟩⟩⟩
  have ht28 := Kp.tr (Dw := False) hk27 hA hB
  replace hH := Hp.kp (Dw := False) hH hk27
  replace h3 := Sl.tr (Dw := False) h3 ht28
  replace h5 := Sl.tr (Dw := False) h5 ht28
  replace h7 := Sl.tr (Dw := False) h7 ht28
  replace hK := Tr.trans (Dw := False) hK ht28
  replace hB := Nat.le_trans hB ht28.ex.size
  replace hA := ht28.new
  refine V_y (Y_assign rfl) rfl rfl rfl ?_
  refine V_y (Y_assign rfl) rfl rfl rfl ?_
  refine V_to (fun _ _ => rfl) ?_
  refine C_seq ?_
  refine C_region ?_
  refine V_y (Y_move rfl) rfl rfl rfl ?_
  obtain ⟨x29, hx29, hm⟩ := Option.bind_eq_some_iff.1 hm
  refine V_call Tryz.call5 rfl rfl rfl rfl (portref2_ReadCalendarOf_c w15 hA (Fz.tr (Dw := False) hT hK) s hx29) ?_
  rintro _ w36 ⟨v30, v32, v34, rfl, h31, h33, h35, hk37⟩
  have ht38 := Kp.tr (Dw := False) hk37 hA hB
  replace hH := Hp.kp (Dw := False) hH hk37
  replace h26 := El.tr (Dw := False) h26 ht38
  replace hK := Tr.trans (Dw := False) hK ht38
  replace hB := Nat.le_trans hB ht38.ex.size
  replace hA := ht38.new
  refine V_y (Y_move rfl) rfl rfl rfl ?_
  refine V_y (Y_extract rfl rfl) rfl rfl rfl ?_
  refine V_y (Y_extract rfl rfl) rfl rfl rfl ?_
  refine V_y (Y_extract rfl rfl) rfl rfl rfl ?_
  refine V_alloc Tryz.zeroValue28 rfl ?_
  intro b39 w40 h41
  have h46 : (v30).oneCell' = true := by obtain ⟨_, _, e, _⟩ := Sl.form h31; rw [e]; rfl
  have h49 : (v32).oneCell' = true := by obtain ⟨_, _, e, _⟩ := Sl.form h33; rw [e]; rfl
  have h52 : (v34).oneCell' = true := by obtain ⟨_, _, e, _⟩ := Sl.form h35; rw [e]; rfl
  refine V_storeNew h41 Tryz.sizeOf28 rfl rfl rfl rfl (by exact (List.forall_mem_cons.2 ⟨rfl, (List.forall_mem_cons.2 ⟨h46, (List.forall_mem_cons.2 ⟨h49, (List.forall_mem_cons.2 ⟨h52, (fun _ h => nomatch h)⟩)⟩)⟩)⟩)) ?_
  intro w42 h43
  have hk54 := h43.kp (Dw := False)
  have h53 : El (α := cal_Calendar) A w42 b39 0 x29.1 := h43.el hA ⟨[.int .i64 x29.1.zone.offset, v30], _, rfl, ⟨[.int .i64 x29.1.zone.offset], _, rfl, rfl, ⟨_, rfl, h31⟩⟩, ⟨[v32], _, rfl, ⟨_, rfl, h33⟩, ⟨_, rfl, h35⟩⟩⟩
  have ht55 := Kp.tr (Dw := False) hk54 hA hB
  replace hH := Hp.kp (Dw := False) hH hk54
  replace h26 := El.tr (Dw := False) h26 ht55
  replace h31 := Sl.tr (Dw := False) h31 ht55
  replace h33 := Sl.tr (Dw := False) h33 ht55
  replace h35 := Sl.tr (Dw := False) h35 ht55
  replace hK := Tr.trans (Dw := False) hK ht55
  replace hB := Nat.le_trans hB ht55.ex.size
  replace hA := ht55.new
  refine V_y (Y_assign rfl) rfl rfl rfl ?_
  refine V_y (Y_assign rfl) rfl rfl rfl ?_
  refine V_to (fun _ _ => rfl) ?_
  refine C_seq ?_
  obtain ⟨s57, ho56, hm⟩ := Option.bind_eq_some_iff.1 hm
  refine C_cutG (ι := (Nat → Prop)) (fun (A62 : (Nat → Prop)) => [(2, .bool s57)]) (fun (A62 : (Nat → Prop)) => fun w' => Hp w.heap.size A62 w' ([]) ∧ Tr False w.heap.size A w42 A62 w') ?_ ?_
  · have hr58 : Tr False w.heap.size A w42 A w42 := Tr.refl (Dw := False) hA
    refine C_region ?_
    refine V_y (Y_move rfl) rfl rfl rfl ?_
    refine V_y (Y_move rfl) rfl rfl rfl ?_
    refine V_y (Y_eql rfl rfl) rfl rfl rfl ?_
    refine V_y (Y_move rfl) rfl rfl rfl ?_
    rcases Bool.eq_false_or_eq_true (x1.2.1 == x29.2.1) with hc64 | hc64
    · rw [if_pos hc64] at ho56
      refine V_ge rfl rfl rfl hc64 ?_
      refine V_y (Y_move rfl) rfl rfl rfl ?_
      refine V_ge rfl rfl rfl hc64 ?_
      refine V_y (Y_move rfl) rfl rfl rfl ?_
      refine V_ge rfl rfl rfl hc64 ?_
      refine V_y (Y_eql rfl rfl) rfl rfl rfl ?_
      refine V_y (Y_pick_te rfl hc64 rfl) rfl rfl rfl ?_
      refine V_y (Y_move rfl) rfl rfl rfl ?_
      rcases Bool.eq_false_or_eq_true (x1.2.2 == x29.2.2) with hc65 | hc65
      · rw [if_pos hc65] at ho56
        refine V_ge rfl rfl rfl hc65 ?_
        obtain ⟨v66, v68, v70, h72, h67, h69, h71⟩ := El_cal_Calendar h26
        refine V_y (Y_loadA h72 Tryz.isAgg28 Tryz.sizeOf28 rfl) rfl rfl rfl ?_
        refine V_ge rfl rfl rfl hc65 ?_
        refine V_y (Y_mkIS Tryz.underlying28 rfl) rfl rfl rfl ?_
        refine V_ge rfl rfl rfl hc65 ?_
        obtain ⟨v73, v75, v77, h79, h74, h76, h78⟩ := El_cal_Calendar h53
        refine V_y (Y_loadA h79 Tryz.isAgg28 Tryz.sizeOf28 rfl) rfl rfl rfl ?_
        refine V_ge rfl rfl rfl hc65 ?_
        refine V_y (Y_mkIS Tryz.underlying28 rfl) rfl rfl rfl ?_
        refine V_ge rfl rfl rfl hc65 ?_
        obtain ⟨x80, hx80, ho56⟩ := Option.bind_eq_some_iff.1 ho56
        refine V_call Tryz.call6 rfl rfl rfl rfl (portref2_Alike_c (Dw := False) w42 hA x1.1 v66 h67 v68 h69 v70 h71 x29.1 v73 h74 v75 h76 v77 h78 hx80) ?_
        rintro _ w81 ⟨rfl, hk82⟩
        have ht83 := Kp.tr (Dw := False) hk82 hA hB
        replace hH := Hp.kp (Dw := False) hH hk82
        replace h26 := El.tr (Dw := False) h26 ht83
        replace h53 := El.tr (Dw := False) h53 ht83
        replace h67 := Sl.tr (Dw := False) h67 ht83
        replace h69 := Sl.tr (Dw := False) h69 ht83
        replace h71 := Sl.tr (Dw := False) h71 ht83
        replace h74 := Sl.tr (Dw := False) h74 ht83
        replace h76 := Sl.tr (Dw := False) h76 ht83
        replace h78 := Sl.tr (Dw := False) h78 ht83
        replace hK := Tr.trans (Dw := False) hK ht83
        replace hr58 := Tr.trans (Dw := False) hr58 ht83
        replace hB := Nat.le_trans hB ht83.ex.size
        replace hA := ht83.new
        refine V_y (Y_pick_te rfl hc65 rfl) rfl rfl rfl ?_
        refine V_y (Y_assign rfl) rfl rfl rfl ?_
        obtain rfl := Option.some.inj ho56
        refine V_end (fun a ha84 => ?_)
        exact ⟨A, ha84.sub ⟨rfl, trivial⟩, ⟨hH, hr58⟩⟩
      · rw [if_neg (nt hc65)] at ho56
        refine V_gn rfl rfl rfl hc65 rfl rfl rfl ?_
        refine V_gn rfl rfl rfl hc65 rfl rfl rfl ?_
        refine V_gn rfl rfl rfl hc65 rfl rfl rfl ?_
        refine V_gn rfl rfl rfl hc65 rfl rfl rfl ?_
        refine V_gn rfl rfl rfl hc65 rfl rfl rfl ?_
        refine V_y (Y_pick_fe rfl hc65 rfl) rfl rfl rfl ?_
        refine V_y (Y_assign rfl) rfl rfl rfl ?_
        obtain rfl := Option.some.inj ho56
        refine V_end (fun a ha85 => ?_)
        exact ⟨A, ha85.sub ⟨rfl, trivial⟩, ⟨hH, hr58⟩⟩
    · rw [if_neg (nt hc64)] at ho56
      refine V_gn rfl rfl rfl hc64 rfl rfl rfl ?_
      refine V_gn rfl rfl rfl hc64 rfl rfl rfl ?_
      refine V_gn rfl rfl rfl hc64 rfl rfl rfl ?_
      refine V_y (Y_pick_fe rfl hc64 rfl) rfl rfl rfl ?_
      refine V_y (Y_move rfl) rfl rfl rfl ?_
      rcases Bool.eq_false_or_eq_true (false) with hc86 | hc86
      · rw [if_pos hc86] at ho56
        refine V_ge rfl rfl rfl hc86 ?_
        obtain ⟨v87, v89, v91, h93, h88, h90, h92⟩ := El_cal_Calendar h26
        refine V_y (Y_loadA h93 Tryz.isAgg28 Tryz.sizeOf28 rfl) rfl rfl rfl ?_
        refine V_ge rfl rfl rfl hc86 ?_
        refine V_y (Y_mkIS Tryz.underlying28 rfl) rfl rfl rfl ?_
        refine V_ge rfl rfl rfl hc86 ?_
        obtain ⟨v94, v96, v98, h100, h95, h97, h99⟩ := El_cal_Calendar h53
        refine V_y (Y_loadA h100 Tryz.isAgg28 Tryz.sizeOf28 rfl) rfl rfl rfl ?_
        refine V_ge rfl rfl rfl hc86 ?_
        refine V_y (Y_mkIS Tryz.underlying28 rfl) rfl rfl rfl ?_
        refine V_ge rfl rfl rfl hc86 ?_
        obtain ⟨x101, hx101, ho56⟩ := Option.bind_eq_some_iff.1 ho56
        refine V_call Tryz.call6 rfl rfl rfl rfl (portref2_Alike_c (Dw := False) w42 hA x1.1 v87 h88 v89 h90 v91 h92 x29.1 v94 h95 v96 h97 v98 h99 hx101) ?_
        rintro _ w102 ⟨rfl, hk103⟩
        have ht104 := Kp.tr (Dw := False) hk103 hA hB
        replace hH := Hp.kp (Dw := False) hH hk103
        replace h26 := El.tr (Dw := False) h26 ht104
        replace h53 := El.tr (Dw := False) h53 ht104
        replace h88 := Sl.tr (Dw := False) h88 ht104
        replace h90 := Sl.tr (Dw := False) h90 ht104
        replace h92 := Sl.tr (Dw := False) h92 ht104
        replace h95 := Sl.tr (Dw := False) h95 ht104
        replace h97 := Sl.tr (Dw := False) h97 ht104
        replace h99 := Sl.tr (Dw := False) h99 ht104
        replace hK := Tr.trans (Dw := False) hK ht104
        replace hr58 := Tr.trans (Dw := False) hr58 ht104
        replace hB := Nat.le_trans hB ht104.ex.size
        replace hA := ht104.new
        refine V_y (Y_pick_te rfl hc86 rfl) rfl rfl rfl ?_
        refine V_y (Y_assign rfl) rfl rfl rfl ?_
        obtain rfl := Option.some.inj ho56
        refine V_end (fun a ha105 => ?_)
        exact ⟨A, ha105.sub ⟨rfl, trivial⟩, ⟨hH, hr58⟩⟩
      · rw [if_neg (nt hc86)] at ho56
        refine V_gn rfl rfl rfl hc86 rfl rfl rfl ?_
        refine V_gn rfl rfl rfl hc86 rfl rfl rfl ?_
        refine V_gn rfl rfl rfl hc86 rfl rfl rfl ?_
        refine V_gn rfl rfl rfl hc86 rfl rfl rfl ?_
        refine V_gn rfl rfl rfl hc86 rfl rfl rfl ?_
        refine V_y (Y_pick_fe rfl hc86 rfl) rfl rfl rfl ?_
        refine V_y (Y_assign rfl) rfl rfl rfl ?_
        obtain rfl := Option.some.inj ho56
        refine V_end (fun a ha106 => ?_)
        exact ⟨A, ha106.sub ⟨rfl, trivial⟩, ⟨hH, hr58⟩⟩
  rintro A62 w59 ⟨hH63, hk60⟩ a ha61
  replace hK := Tr.trans (Dw := False) hK hk60
  replace hB := Nat.le_trans hB hk60.ex.size
  replace hA := hk60.new
  replace hH : Hp w.heap.size A62 w59 ([]) := hH63
  refine C_at (n := ⟨36, [], none⟩) (fun _ _ => rfl) ?_ ha61
  obtain rfl := Option.some.inj hm
  refine C_ret ?_
  try simp only [↓inBlock_ret, ↓then_ret]
  exact retQ rfl (Res.one Tryz.results3 rfl) ⟨rfl, hK.kp⟩

end Go.Proofs.YtebbjefkndfkpaaGreatDoor.W
