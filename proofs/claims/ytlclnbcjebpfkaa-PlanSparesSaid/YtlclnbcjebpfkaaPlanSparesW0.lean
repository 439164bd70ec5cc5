/-
  Written by program (gen.py) from the IR of the dump: each function computes its model.
-/
import Derived.Test.YtlclnbcjebpfkaaProg
import Derived.Test.YtlclnbcjebpfkaaFx
import Derived.Test.YtlclnbcjebpfkaaPlanSparesM
import Derived.KernelRfl
namespace Go.Proofs.Ytlclnbcjebpfkaa.W
open Go Go.RowKit Go.Pu Go.Fw Go.Proofs Go.Proofs.Ytlclnbcjebpfkaa.M
set_option linter.unusedVariables false

theorem Try_info3 : Try.prog.info? 3 = some Try.t3 := by kernel_rfl
theorem Try_mixed : Try.prog.follows .mixedOrders = true := by kernel_rfl

instance : GoT staff_Form := GoT.of (β := Int × Int) fun x => (x.from_, x.slots)

theorem El_staff_Form_ {A : Nat → Prop} {w : World} {b off : Nat} {x : staff_Form} (h : El A w b off x) : El (α := Int × Int) A w b off (x.from_, x.slots) := h

theorem El_staff_Form_0 {A : Nat → Prop} {w : World} {b off : Nat} {x : staff_Form} (h : El A w b off x) : El A w b (off + 0) x.from_ := El.fst (El_staff_Form_ h)

theorem El_staff_Form_1 {A : Nat → Prop} {w : World} {b off : Nat} {x : staff_Form} (h : El A w b off x) : El A w b (off + 1) x.slots := El.snd (El_staff_Form_ h)

theorem El_staff_Form {A : Nat → Prop} {w : World} {b off : Nat} {x : staff_Form} (h : El A w b off x) : At w b off [.int .i64 x.from_, .int .i64 x.slots] ∧ True := by
  obtain ⟨h1, h2, cs, h3, h4⟩ := h
  obtain ⟨_, _, rfl, rfl, rfl⟩ := h3
  exact ⟨h4, trivial⟩

set_option maxRecDepth 4000 in
theorem staff_within_c (w : World)  (n : Int) (low : Int) (high : Int) : Ret Try.prog 33 #[.int .i64 n, .int .i64 low, .int .i64 high] w fun v w' => v = .bool (staff_within n low high) ∧ w = w' := by
  generalize hm : staff_within n low high = r
  unfold staff_within at hm
  refine enter Try.func33 rfl Try.ntmps33 rfl ?_
  refine C_seq ?_
  refine C_region ?_
  refine V_y (Y_assign rfl) rfl rfl rfl ?_
  refine V_to (fun _ _ => rfl) ?_
  refine C_seq ?_
  refine C_region ?_
  refine V_y (Y_move rfl) rfl rfl rfl ?_
  refine V_y (Y_move rfl) rfl rfl rfl ?_
  refine V_y (Y_geq rfl rfl) rfl rfl rfl ?_
  refine V_y (Y_move rfl) rfl rfl rfl ?_
  refine V_cut 4 (fun _ : Unit => [(14, .bool ((decide (low ≤ n)) && (decide (n ≤ high))))]) (fun _ w' => w = w') ?_ ?_
  · simp only [List.take, List.drop]
    rcases Bool.eq_false_or_eq_true (decide (low ≤ n)) with hc1 | hc1
    · refine V_ge rfl rfl rfl hc1 ?_
      refine V_y (Y_move rfl) rfl rfl rfl ?_
      refine V_ge rfl rfl rfl hc1 ?_
      refine V_y (Y_move rfl) rfl rfl rfl ?_
      refine V_ge rfl rfl rfl hc1 ?_
      refine V_y (Y_leq rfl rfl) rfl rfl rfl ?_
      refine V_y (Y_pick_te rfl hc1 rfl) rfl rfl rfl ?_
      exact V_end fun a ha => ⟨(), ha.sub ⟨(by rw [hc1]; rfl), trivial⟩, rfl⟩
    · refine V_gn rfl rfl rfl hc1 rfl rfl rfl ?_
      refine V_gn rfl rfl rfl hc1 rfl rfl rfl ?_
      refine V_gn rfl rfl rfl hc1 rfl rfl rfl ?_
      refine V_y (Y_pick_fe rfl hc1 rfl) rfl rfl rfl ?_
      exact V_end fun a ha => ⟨(), ha.sub ⟨(by rw [hc1]; rfl), trivial⟩, rfl⟩
  simp only [List.take, List.drop]
  rintro _ _ rfl
  refine V_y (Y_assign rfl) rfl rfl rfl ?_
  refine V_to (fun _ _ => rfl) ?_
  obtain rfl := hm
  refine C_ret fun a ha => ?_
  try simp only [↓inBlock_ret, ↓then_ret]
  exact ret1 ha Try.results33 rfl ⟨rfl, rfl⟩

set_option maxRecDepth 4000 in
theorem cmp_isNaN_int_c (w : World)  (x : Int) : Ret Try.prog 72 #[.int .i64 x] w fun v w' => v = .bool (cmp_isNaN_int x) ∧ w = w' := by
  generalize hm : cmp_isNaN_int x = r
  unfold cmp_isNaN_int at hm
  refine enter Try.func72 rfl Try.ntmps72 rfl ?_
  refine C_seq ?_
  refine C_region ?_
  refine V_y (Y_assign rfl) rfl rfl rfl ?_
  refine V_to (fun _ _ => rfl) ?_
  refine C_seq ?_
  refine C_region ?_
  refine V_y (Y_move rfl) rfl rfl rfl ?_
  refine V_y (Y_move rfl) rfl rfl rfl ?_
  refine V_y (Y_neq rfl rfl) rfl rfl rfl ?_
  refine V_y (Y_assign rfl) rfl rfl rfl ?_
  refine V_to (fun _ _ => rfl) ?_
  obtain rfl := hm
  refine C_ret fun a ha => ?_
  try simp only [↓inBlock_ret, ↓then_ret]
  exact ret1 ha Try.results72 rfl ⟨rfl, rfl⟩

set_option maxRecDepth 4000 in
theorem cmp_Compare_int_c (w : World)  (x : Int) (y : Int) : Ret Try.prog 49 #[.int .i64 x, .int .i64 y] w fun v w' => v = .int .i64 (cmp_Compare_int x y) ∧ w = w' := by
  generalize hm : cmp_Compare_int x y = r
  unfold cmp_Compare_int at hm
  refine enter Try.func49 rfl Try.ntmps49 rfl ?_
  refine C_seq ?_
  refine C_region ?_
  refine V_y (Y_assign rfl) rfl rfl rfl ?_
  refine V_to (fun _ _ => rfl) ?_
  refine C_seq ?_
  refine C_region ?_
  refine V_y (Y_move rfl) rfl rfl rfl ?_
  refine V_call Try.call72 rfl rfl rfl rfl (cmp_isNaN_int_c w x) ?_
  rintro _ _ ⟨rfl, rfl⟩
  refine V_y (Y_assign rfl) rfl rfl rfl ?_
  refine V_to (fun _ _ => rfl) ?_
  refine C_seq ?_
  refine C_region ?_
  refine V_y (Y_move rfl) rfl rfl rfl ?_
  refine V_call Try.call72 rfl rfl rfl rfl (cmp_isNaN_int_c w y) ?_
  rintro _ _ ⟨rfl, rfl⟩
  refine V_y (Y_assign rfl) rfl rfl rfl ?_
  refine V_to (fun _ _ => rfl) ?_
  refine C_seq ?_
  refine C_seq ?_
  refine C_region ?_
  refine V_y (Y_move rfl) rfl rfl rfl ?_
  refine V_to (fun _ _ => rfl) ?_
  refine C_cond rfl (fun hc1 => ?_) (fun hc1 => ?_)
  · rw [if_pos hc1] at hm
    refine C_seq ?_
    refine C_seq ?_
    refine C_region ?_
    refine V_y (Y_move rfl) rfl rfl rfl ?_
    refine V_to (fun _ _ => rfl) ?_
    refine C_cond rfl (fun hc2 => ?_) (fun hc2 => ?_)
    · rw [if_pos hc2] at hm
      refine C_seq ?_
      refine C_region ?_
      refine V_y (Y_assign rfl) rfl rfl rfl ?_
      refine V_to (fun _ _ => rfl) ?_
      obtain rfl := hm
      refine C_ret fun a ha => ?_
      try simp only [↓inBlock_ret, ↓then_ret]
      exact ret1 ha Try.results49 rfl ⟨rfl, rfl⟩
    · rw [if_neg (nt hc2)] at hm
      refine C_skip_to (fun _ _ => rfl) ?_
      refine C_seq ?_
      refine C_region ?_
      refine V_y (Y_assign rfl) rfl rfl rfl ?_
      refine V_to (fun _ _ => rfl) ?_
      obtain rfl := hm
      refine C_ret fun a ha => ?_
      try simp only [↓inBlock_ret, ↓then_ret]
      exact ret1 ha Try.results49 rfl ⟨rfl, rfl⟩
  · rw [if_neg (nt hc1)] at hm
    refine C_skip_to (fun _ _ => rfl) ?_
    refine C_seq ?_
    refine C_seq ?_
    refine C_region ?_
    refine V_y (Y_move rfl) rfl rfl rfl ?_
    refine V_to (fun _ _ => rfl) ?_
    refine C_cond rfl (fun hc3 => ?_) (fun hc3 => ?_)
    · rw [if_pos hc3] at hm
      refine C_seq ?_
      refine C_region ?_
      refine V_y (Y_assign rfl) rfl rfl rfl ?_
      refine V_to (fun _ _ => rfl) ?_
      obtain rfl := hm
      refine C_ret fun a ha => ?_
      try simp only [↓inBlock_ret, ↓then_ret]
      exact ret1 ha Try.results49 rfl ⟨rfl, rfl⟩
    · rw [if_neg (nt hc3)] at hm
      refine C_skip_to (fun _ _ => rfl) ?_
      refine C_seq ?_
      refine C_seq ?_
      refine C_region ?_
      refine V_y (Y_move rfl) rfl rfl rfl ?_
      refine V_y (Y_move rfl) rfl rfl rfl ?_
      refine V_y (Y_lss rfl rfl) rfl rfl rfl ?_
      refine V_to (fun _ _ => rfl) ?_
      refine C_cond rfl (fun hc4 => ?_) (fun hc4 => ?_)
      · rw [if_pos hc4] at hm
        refine C_seq ?_
        refine C_region ?_
        refine V_y (Y_assign rfl) rfl rfl rfl ?_
        refine V_to (fun _ _ => rfl) ?_
        obtain rfl := hm
        refine C_ret fun a ha => ?_
        try simp only [↓inBlock_ret, ↓then_ret]
        exact ret1 ha Try.results49 rfl ⟨rfl, rfl⟩
      · rw [if_neg (nt hc4)] at hm
        refine C_skip_to (fun _ _ => rfl) ?_
        refine C_seq ?_
        refine C_seq ?_
        refine C_region ?_
        refine V_y (Y_move rfl) rfl rfl rfl ?_
        refine V_y (Y_move rfl) rfl rfl rfl ?_
        refine V_y (Y_gtr rfl rfl) rfl rfl rfl ?_
        refine V_to (fun _ _ => rfl) ?_
        refine C_cond rfl (fun hc5 => ?_) (fun hc5 => ?_)
        · rw [if_pos hc5] at hm
          refine C_seq ?_
          refine C_region ?_
          refine V_y (Y_assign rfl) rfl rfl rfl ?_
          refine V_to (fun _ _ => rfl) ?_
          obtain rfl := hm
          refine C_ret fun a ha => ?_
          try simp only [↓inBlock_ret, ↓then_ret]
          exact ret1 ha Try.results49 rfl ⟨rfl, rfl⟩
        · rw [if_neg (nt hc5)] at hm
          refine C_skip_to (fun _ _ => rfl) ?_
          refine C_seq ?_
          refine C_region ?_
          refine V_y (Y_assign rfl) rfl rfl rfl ?_
          refine V_to (fun _ _ => rfl) ?_
          obtain rfl := hm
          refine C_ret fun a ha => ?_
          try simp only [↓inBlock_ret, ↓then_ret]
          exact ret1 ha Try.results49 rfl ⟨rfl, rfl⟩

set_option maxRecDepth 4000 in
theorem cmp_Or_int_c (w : World) {A : Nat → Prop}  (vals : (List Int)) (v_vals : Value) (h_vals : Sl A w v_vals vals) {r : Int} (hm : cmp_Or_int vals = some r) : Ret Try.prog 48 #[v_vals] w fun v w' => v = .int .i64 r ∧ w = w' := by
  unfold cmp_Or_int at hm
  refine enter Try.func48 rfl Try.ntmps48 rfl ?_
  refine C_seq ?_
  refine C_region ?_
  refine V_y (Y_assign rfl) rfl rfl rfl ?_
  refine V_to (fun _ _ => rfl) ?_
  refine C_seq ?_
  refine C_region ?_
  refine V_y (Y_assign rfl) rfl rfl rfl ?_
  refine V_to (fun _ _ => rfl) ?_
  refine C_seq ?_
  refine C_seq ?_
  refine C_region ?_
  refine V_y (Y_move rfl) rfl rfl rfl ?_
  refine V_y (Y_lenSl h_vals rfl Try.underlying22 rfl) rfl rfl rfl ?_
  refine V_y (Y_move rfl) rfl rfl rfl ?_
  refine V_to (fun _ _ => rfl) ?_
  obtain ⟨o7, ho7, hm⟩ := Option.bind_eq_some_iff.1 hm
  refine C_cutG (ι := Unit) (fun (s8 : Unit) => [(3, .int .i64 0)]) (fun (s8 : Unit) => fun w' => o7 = .fin s8 ∧ w = w') ?_ ?_
  · refine C_block ?_
    refine C_range ho7 (fun k11 _ a w' => ∃ i : Unit, Has 18 a ([(3, .int .i64 0), (6, v_vals), (7, .int .i64 (vals.length : Int)), (8, .int .i64 (k11 : Int))]) ∧ w = w') (fun a ha => ⟨(), ha.sub ⟨rfl, rfl, rfl, rfl, trivial⟩, rfl⟩) ?_
    rintro K k11 _ a _ ⟨_, ha31, rfl⟩ hle21 K24 h23
    refine C_of ?_ ha31
    refine C_seq (C_region (V_y (Y_lss rfl rfl) rfl rfl rfl (V_to (fun _ _ => rfl) ?_)))
    refine C_seq ?_
    refine C_cond rfl (fun hc25 => ?_) (fun hc25 => ?_)
    · have hlt22 := lt_of_dec hc25
      obtain ⟨x18, h19, h20⟩ := K24 hlt22
      refine C_skip_to (fun _ _ => rfl) ?_
      refine C_seq ?_
      refine C_block ?_
      refine C_seq ?_
      refine C_region ?_
      obtain ⟨x26, hx26, h19⟩ := Option.bind_eq_some_iff.1 h19
      refine V_indexAddr h_vals hx26 Try.underlying22 Try.sizeOf3 rfl rfl rfl ?_
      intro b27 o28 h29
      refine V_y (Y_load (El.int h29) Try.isAgg3 rfl) rfl rfl rfl ?_
      refine V_y (Y_assign rfl) rfl rfl rfl ?_
      refine V_to (fun _ _ => rfl) ?_
      refine C_seq ?_
      refine C_region ?_
      refine V_y (Y_move rfl) rfl rfl rfl ?_
      refine V_y (Y_move rfl) rfl rfl rfl ?_
      refine V_y (Y_neq rfl rfl) rfl rfl rfl ?_
      refine V_to (fun _ _ => rfl) ?_
      refine C_cond rfl (fun hc30 => ?_) (fun hc30 => ?_)
      · rw [if_pos hc30] at h19
        refine C_seq ?_
        refine C_region ?_
        refine V_y (Y_move rfl) rfl rfl rfl ?_
        refine V_y (Y_assign rfl) rfl rfl rfl ?_
        refine V_to (fun _ _ => rfl) ?_
        obtain rfl := Option.some.inj h19
        obtain rfl := (h20 : Lp.rt _ = _)
        rw [Lp.andThen_rt] at hm
        obtain rfl := Option.some.inj hm
        refine C_ret fun a ha => ?_
        try simp only [↓inBlock_ret, ↓then_ret]
        exact ret1 ha Try.results48 rfl ⟨rfl, rfl⟩
      · rw [if_neg (nt hc30)] at h19
        refine C_skip_to (fun _ _ => rfl) ?_
        refine C_region ?_
        refine V_y (Y_addI rfl rfl) rfl rfl rfl ?_
        refine V_y (Y_move rfl) rfl rfl rfl ?_
        obtain rfl := Option.some.inj h19
        exact V_end fun a ha => ⟨(), hlt22, h20, ⟨(), ha.sub ⟨rfl, rfl, rfl, (congrArg (fun z => some (Value.int .i64 z)) (w64_succ hlt22 (Sl.le h_vals))), trivial⟩, rfl⟩⟩
    · exact C_exit fun a ha => ⟨(), ha.sub ⟨rfl, trivial⟩, ⟨(h23 (eq_of_dec hle21 hc25)).symm, rfl⟩⟩
  rintro s8 _ ⟨rfl, rfl⟩ a ha14
  rw [Lp.andThen_fin] at hm
  refine C_at (fun _ _ => rfl) ?_ ha14
  refine C_seq ?_
  refine C_region ?_
  refine V_y (Y_move rfl) rfl rfl rfl ?_
  refine V_y (Y_assign rfl) rfl rfl rfl ?_
  refine V_to (fun _ _ => rfl) ?_
  obtain rfl := Option.some.inj hm
  refine C_ret fun a ha => ?_
  try simp only [↓inBlock_ret, ↓then_ret]
  exact ret1 ha Try.results48 rfl ⟨rfl, rfl⟩

set_option maxRecDepth 4000 in
theorem staff_CheckForms_c (w : World) {A : Nat → Prop} (hA : ∀ b, w.heap.size ≤ b → A b) (l : (List staff_Form)) (v_l : Value) (h_l : Sl A w v_l l) {r : Int} (hm : staff_CheckForms l = some r) : Ret Try.prog 19 #[v_l] w fun v w' => v = .int .i64 r ∧ Kp w w' := by
  unfold staff_CheckForms at hm
  refine enter Try.func19 rfl Try.ntmps19 rfl ?_
  have hK := Kp.refl w
  refine C_seq ?_
  refine C_region ?_
  refine V_y (Y_assign rfl) rfl rfl rfl ?_
  refine V_to (fun _ _ => rfl) ?_
  refine C_seq ?_
  refine C_seq ?_
  refine C_region ?_
  refine V_y (Y_move rfl) rfl rfl rfl ?_
  refine V_y (Y_lenSl h_l rfl Try.underlying27 rfl) rfl rfl rfl ?_
  refine V_y (Y_gtr rfl rfl) rfl rfl rfl ?_
  refine V_to (fun _ _ => rfl) ?_
  refine C_cond rfl (fun hc7 => ?_) (fun hc7 => ?_)
  · rw [if_pos hc7] at hm
    refine C_seq ?_
    refine C_region ?_
    refine V_y (Y_assign rfl) rfl rfl rfl ?_
    refine V_to (fun _ _ => rfl) ?_
    obtain rfl := Option.some.inj hm
    refine C_ret fun a ha => ?_
    try simp only [↓inBlock_ret, ↓then_ret]
    exact ret1 ha Try.results19 rfl ⟨rfl, hK⟩
  · rw [if_neg (nt hc7)] at hm
    refine C_skip_to (fun _ _ => rfl) ?_
    refine C_seq ?_
    refine C_seq ?_
    refine C_region ?_
    refine V_y (Y_move rfl) rfl rfl rfl ?_
    refine V_y (Y_lenSl h_l rfl Try.underlying27 rfl) rfl rfl rfl ?_
    refine V_y (Y_move rfl) rfl rfl rfl ?_
    refine V_to (fun _ _ => rfl) ?_
    obtain ⟨o12, ho12, hm⟩ := Option.bind_eq_some_iff.1 hm
    refine C_cutG (ι := Unit) (fun (s13 : Unit) => []) (fun (s13 : Unit) => fun w' => o12 = .fin s13 ∧ Kp w w') ?_ ?_
    · refine C_block ?_
      refine C_range ho12 (fun k16 _ a w' => ∃ i : Unit, Has 54 a ([(0, v_l), (8, v_l), (9, .int .i64 (l.length : Int)), (10, .int .i64 (k16 : Int))]) ∧ Kp w w') (fun a ha => ⟨(), ha.sub ⟨rfl, rfl, rfl, rfl, trivial⟩, Kp.refl _⟩) ?_
      rintro K k16 _ a w21 ⟨_, ha77, hr15⟩ hle25 K28 h27
      refine C_of ?_ ha77
      replace h_l := h_l.kp hr15
      replace hK := Kp.trans hK hr15
      replace hA : ∀ b, w21.heap.size ≤ b → A b := fun b hb => hA b (Nat.le_trans hr15.size hb)
      refine C_seq (C_region (V_y (Y_lss rfl rfl) rfl rfl rfl (V_to (fun _ _ => rfl) ?_)))
      refine C_seq ?_
      refine C_cond rfl (fun hc29 => ?_) (fun hc29 => ?_)
      · have hlt26 := lt_of_dec hc29
        obtain ⟨x22, h23, h24⟩ := K28 hlt26
        refine C_skip_to (fun _ _ => rfl) ?_
        refine C_seq ?_
        refine C_block ?_
        refine C_seq ?_
        refine C_region ?_
        refine V_y (Y_move rfl) rfl rfl rfl ?_
        obtain ⟨x30, hx30, h23⟩ := Option.bind_eq_some_iff.1 h23
        refine V_indexAddr h_l hx30 Try.underlying27 Try.sizeOf65 rfl rfl rfl ?_
        intro b31 o32 h33
        obtain ⟨h34, _⟩ := El_staff_Form h33
        refine V_y (Y_loadA h34 Try.isAgg65 Try.sizeOf65 rfl) rfl rfl rfl ?_
        refine V_alloc Try.zeroValue65 rfl ?_
        intro b35 w36 h37
        refine V_y (Y_assign rfl) rfl rfl rfl ?_
        refine V_storeNew h37 Try.sizeOf65 rfl rfl rfl rfl (by simp [Value.cells, Value.oneCell']) ?_
        intro w38 h39
        have hk40 := h39.kp
        have h41 : El (α := staff_Form) A w38 b35 0 x30 := h39.el hA ⟨[.int .i64 x30.from_], _, rfl, rfl, rfl⟩
        replace h_l := h_l.kp hk40
        replace h33 := h33.kp hk40
        replace hK := Kp.trans hK hk40
        replace hr15 := Kp.trans hr15 hk40
        replace hA : ∀ b, w38.heap.size ≤ b → A b := fun b hb => hA b (Nat.le_trans hk40.size hb)
        refine V_to (fun _ _ => rfl) ?_
        refine C_seq ?_
        refine C_seq ?_
        refine C_region ?_
        have h42 := El_staff_Form_0 h41
        refine V_y (Y_fieldAddr Try.underlying65 rfl Try.sizeOf3 (by decide) rfl) rfl rfl rfl ?_
        refine V_y (Y_load (El.int h42) Try.isAgg3 rfl) rfl rfl rfl ?_
        refine V_call Try.call33 rfl rfl rfl rfl (staff_within_c w38 x30.from_ 0 399) ?_
        rintro _ _ ⟨rfl, rfl⟩
        refine V_y (Y_not rfl) rfl rfl rfl ?_
        refine V_y (Y_move rfl) rfl rfl rfl ?_
        refine V_cut 8 (fun _ : Unit => [(0, v_l), (3, .int .i64 (k16 : Int)), (4, .pointer (some ⟨b35, 0, none⟩)), (8, v_l), (9, .int .i64 (l.length : Int)), (10, .int .i64 (k16 : Int)), (27, .bool ((!(staff_within x30.from_ 0 399)) || (!(staff_within x30.slots 1 (w64 (400 - x30.from_))))))]) (fun _ w' => w38 = w') ?_ ?_
        · simp only [List.take, List.drop]
          rcases Bool.eq_false_or_eq_true (!(staff_within x30.from_ 0 399)) with hc43 | hc43
          · refine V_gn rfl rfl rfl hc43 rfl rfl rfl ?_
            refine V_gn rfl rfl rfl hc43 rfl rfl rfl ?_
            refine V_gn rfl rfl rfl hc43 rfl rfl rfl ?_
            refine V_gn rfl rfl rfl hc43 rfl rfl rfl ?_
            refine V_gn rfl rfl rfl hc43 rfl rfl rfl ?_
            refine V_gn rfl rfl rfl hc43 rfl rfl rfl ?_
            refine V_gn rfl rfl rfl hc43 rfl rfl rfl ?_
            refine V_y (Y_pick_te rfl hc43 rfl) rfl rfl rfl ?_
            exact V_end fun a ha => ⟨(), ha.sub ⟨rfl, rfl, rfl, rfl, rfl, rfl, (by rw [hc43]; rfl), trivial⟩, rfl⟩
          · refine V_ge rfl rfl rfl hc43 ?_
            have h46 := El_staff_Form_1 h41
            refine V_y (Y_fieldAddr Try.underlying65 rfl Try.sizeOf3 (by decide) rfl) rfl rfl rfl ?_
            refine V_ge rfl rfl rfl hc43 ?_
            refine V_y (Y_load (El.int h46) Try.isAgg3 rfl) rfl rfl rfl ?_
            refine V_ge rfl rfl rfl hc43 ?_
            have h47 := El_staff_Form_0 h41
            refine V_y (Y_fieldAddr Try.underlying65 rfl Try.sizeOf3 (by decide) rfl) rfl rfl rfl ?_
            refine V_ge rfl rfl rfl hc43 ?_
            refine V_y (Y_load (El.int h47) Try.isAgg3 rfl) rfl rfl rfl ?_
            refine V_ge rfl rfl rfl hc43 ?_
            refine V_y (Y_subI rfl rfl) rfl rfl rfl ?_
            refine V_ge rfl rfl rfl hc43 ?_
            refine V_call Try.call33 rfl rfl rfl rfl (staff_within_c w38 x30.slots 1 (w64 (400 - x30.from_))) ?_
            rintro _ _ ⟨rfl, rfl⟩
            refine V_ge rfl rfl rfl hc43 ?_
            refine V_y (Y_not rfl) rfl rfl rfl ?_
            refine V_y (Y_pick_fe rfl hc43 rfl) rfl rfl rfl ?_
            exact V_end fun a ha => ⟨(), ha.sub ⟨rfl, rfl, rfl, rfl, rfl, rfl, (by rw [hc43]; rfl), trivial⟩, rfl⟩
        simp only [List.take, List.drop]
        rintro _ _ rfl
        refine V_to (fun _ _ => rfl) ?_
        refine C_cond rfl (fun hc48 => ?_) (fun hc48 => ?_)
        · rw [if_pos hc48] at h23
          refine C_seq ?_
          refine C_region ?_
          refine V_y (Y_assign rfl) rfl rfl rfl ?_
          refine V_to (fun _ _ => rfl) ?_
          obtain rfl := Option.some.inj h23
          obtain rfl := (h24 : Lp.rt _ = _)
          rw [Lp.andThen_rt] at hm
          obtain rfl := Option.some.inj hm
          refine C_ret fun a ha => ?_
          try simp only [↓inBlock_ret, ↓then_ret]
          exact ret1 ha Try.results19 rfl ⟨rfl, hK⟩
        · rw [if_neg (nt hc48)] at h23
          refine C_skip_to (fun _ _ => rfl) ?_
          refine C_seq ?_
          obtain ⟨s50, ho49, h23⟩ := Option.bind_eq_some_iff.1 h23
          refine C_cutG (ι := Unit) (fun (_ : Unit) => [(0, v_l), (8, v_l), (9, .int .i64 (l.length : Int)), (10, .int .i64 (k16 : Int)), (52, .bool s50)]) (fun (_ : Unit) => fun w' => Kp w38 w') ?_ ?_
          · have hr51 := Kp.refl w38
            refine C_region_qt 21 Try_mixed (by kernel_rfl) ?_
            simp only [List.take, List.drop]
            refine VQ_y (fun w' hw' => Y_move rfl) rfl rfl rfl ?_
            refine VQ_y (fun w' hw' => Y_gtr rfl rfl) rfl rfl rfl ?_
            refine VQ_y (fun w' hw' => Y_move rfl) rfl rfl rfl ?_
            rcases Bool.eq_false_or_eq_true (decide ((0 : Int) < (k16 : Int))) with hc55 | hc55
            · rw [if_pos hc55] at ho49
              refine VQ_ge rfl rfl rfl hc55 ?_
              have h56 := El_staff_Form_0 h41
              refine VQ_y (fun w' hw' => Y_fieldAddr Try.underlying65 rfl Try.sizeOf3 (by decide) rfl) rfl rfl rfl ?_
              refine VQ_ge rfl rfl rfl hc55 ?_
              refine VQ_y (fun w' hw' => Y_load (El.int (El.kp h56 hw')) Try.isAgg3 rfl) rfl rfl rfl ?_
              refine VQ_ge rfl rfl rfl hc55 ?_
              refine VQ_y (fun w' hw' => Y_move rfl) rfl rfl rfl ?_
              refine VQ_ge rfl rfl rfl hc55 ?_
              refine VQ_y (fun w' hw' => Y_move rfl) rfl rfl rfl ?_
              refine VQ_ge rfl rfl rfl hc55 ?_
              refine VQ_y (fun w' hw' => Y_subI rfl rfl) rfl rfl rfl ?_
              refine VQ_ge rfl rfl rfl hc55 ?_
              obtain ⟨x57, hx57, ho49⟩ := Option.bind_eq_some_iff.1 ho49
              refine VQ_indexAddr h_l hx57 Try.underlying27 Try.sizeOf65 rfl rfl rfl ?_
              intro b58 o59 h60
              refine VQ_ge rfl rfl rfl hc55 ?_
              have h61 := El_staff_Form_0 h60
              refine VQ_y (fun w' hw' => Y_fieldAddr Try.underlying65 rfl Try.sizeOf3 (by decide) rfl) rfl rfl rfl ?_
              refine VQ_ge rfl rfl rfl hc55 ?_
              refine VQ_y (fun w' hw' => Y_load (El.int (El.kp h61 hw')) Try.isAgg3 rfl) rfl rfl rfl ?_
              refine VQ_ge rfl rfl rfl hc55 ?_
              refine VQ_call (.int .i64 (cmp_Compare_int x30.from_ x57.from_)) Try.call49 rfl rfl rfl rfl (fun w' hw' => (cmp_Compare_int_c w' x30.from_ x57.from_).mono (fun _ _ h => ⟨h.1, h.2 ▸ hw'⟩)) ?_
              refine VQ_ge rfl rfl rfl hc55 ?_
              have h62 := El_staff_Form_1 h41
              refine VQ_y (fun w' hw' => Y_fieldAddr Try.underlying65 rfl Try.sizeOf3 (by decide) rfl) rfl rfl rfl ?_
              refine VQ_ge rfl rfl rfl hc55 ?_
              refine VQ_y (fun w' hw' => Y_load (El.int (El.kp h62 hw')) Try.isAgg3 rfl) rfl rfl rfl ?_
              refine VQ_ge rfl rfl rfl hc55 ?_
              refine VQ_y (fun w' hw' => Y_move rfl) rfl rfl rfl ?_
              refine VQ_ge rfl rfl rfl hc55 ?_
              refine VQ_y (fun w' hw' => Y_move rfl) rfl rfl rfl ?_
              refine VQ_ge rfl rfl rfl hc55 ?_
              refine VQ_y (fun w' hw' => Y_subI rfl rfl) rfl rfl rfl ?_
              refine VQ_ge rfl rfl rfl hc55 ?_
              refine VQ_indexAddr h_l hx57 Try.underlying27 Try.sizeOf65 rfl rfl rfl ?_
              intro b63 o64 h65
              refine VQ_ge rfl rfl rfl hc55 ?_
              have h66 := El_staff_Form_1 h65
              refine VQ_y (fun w' hw' => Y_fieldAddr Try.underlying65 rfl Try.sizeOf3 (by decide) rfl) rfl rfl rfl ?_
              refine VQ_ge rfl rfl rfl hc55 ?_
              refine VQ_y (fun w' hw' => Y_load (El.int (El.kp h66 hw')) Try.isAgg3 rfl) rfl rfl rfl ?_
              refine VQ_ge rfl rfl rfl hc55 ?_
              refine VQ_call (.int .i64 (cmp_Compare_int x30.slots x57.slots)) Try.call49 rfl rfl rfl rfl (fun w' hw' => (cmp_Compare_int_c w' x30.slots x57.slots).mono (fun _ _ h => ⟨h.1, h.2 ▸ hw'⟩)) ?_
              refine VQ_tail (fun w67 hk68 => ?_)
              try simp only [List.take, List.drop]
              replace h_l := h_l.kp hk68
              replace h41 := h41.kp hk68
              replace h56 := h56.kp hk68
              replace h60 := h60.kp hk68
              replace h61 := h61.kp hk68
              replace h62 := h62.kp hk68
              replace h65 := h65.kp hk68
              replace h66 := h66.kp hk68
              replace hK := Kp.trans hK hk68
              replace hr15 := Kp.trans hr15 hk68
              replace hr51 := Kp.trans hr51 hk68
              replace hA : ∀ b, w67.heap.size ≤ b → A b := fun b hb => hA b (Nat.le_trans hk68.size hb)
              refine V_ge rfl rfl rfl hc55 ?_
              refine V_buildSlice (l := ([(cmp_Compare_int x30.from_ x57.from_), (cmp_Compare_int x30.slots x57.slots)] : List Int)) (len := 2) Try.underlying22 Try.sizeOf3 Try.zeroValue3 rfl (by with_unfolding_all rfl) (by decide) (by decide) hA ⟨[.int .i64 (cmp_Compare_int x30.from_ x57.from_)], _, rfl, rfl, ⟨[.int .i64 (cmp_Compare_int x30.slots x57.slots)], _, rfl, rfl, rfl⟩⟩ rfl rfl ?_
              intro v69 w70 hk72 h71
              replace h_l := h_l.kp hk72
              replace h41 := h41.kp hk72
              replace h56 := h56.kp hk72
              replace h60 := h60.kp hk72
              replace h61 := h61.kp hk72
              replace h62 := h62.kp hk72
              replace h65 := h65.kp hk72
              replace h66 := h66.kp hk72
              replace hK := Kp.trans hK hk72
              replace hr15 := Kp.trans hr15 hk72
              replace hr51 := Kp.trans hr51 hk72
              replace hA : ∀ b, w70.heap.size ≤ b → A b := fun b hb => hA b (Nat.le_trans hk72.size hb)
              refine V_ge rfl rfl rfl hc55 ?_
              obtain ⟨x73, hx73, ho49⟩ := Option.bind_eq_some_iff.1 ho49
              refine V_call Try.call48 rfl rfl rfl rfl (cmp_Or_int_c w70 ([(cmp_Compare_int x30.from_ x57.from_), (cmp_Compare_int x30.slots x57.slots)] : List Int) v69 h71 hx73) ?_
              rintro _ _ ⟨rfl, rfl⟩
              refine V_ge rfl rfl rfl hc55 ?_
              refine V_y (Y_leq rfl rfl) rfl rfl rfl ?_
              refine V_y (Y_pick_te rfl hc55 rfl) rfl rfl rfl ?_
              obtain rfl := Option.some.inj ho49
              exact V_end fun a ha => ⟨(), ha.sub ⟨rfl, rfl, rfl, rfl, rfl, trivial⟩, hr51⟩
            · rw [if_neg (nt hc55)] at ho49
              refine VQ_gn rfl rfl rfl hc55 rfl rfl rfl ?_
              refine VQ_gn rfl rfl rfl hc55 rfl rfl rfl ?_
              refine VQ_gn rfl rfl rfl hc55 rfl rfl rfl ?_
              refine VQ_gn rfl rfl rfl hc55 rfl rfl rfl ?_
              refine VQ_gn rfl rfl rfl hc55 rfl rfl rfl ?_
              refine VQ_gn rfl rfl rfl hc55 rfl rfl rfl ?_
              refine VQ_gn rfl rfl rfl hc55 rfl rfl rfl ?_
              refine VQ_gn rfl rfl rfl hc55 rfl rfl rfl ?_
              refine VQ_gn rfl rfl rfl hc55 rfl rfl rfl ?_
              refine VQ_gn rfl rfl rfl hc55 rfl rfl rfl ?_
              refine VQ_gn rfl rfl rfl hc55 rfl rfl rfl ?_
              refine VQ_gn rfl rfl rfl hc55 rfl rfl rfl ?_
              refine VQ_gn rfl rfl rfl hc55 rfl rfl rfl ?_
              refine VQ_gn rfl rfl rfl hc55 rfl rfl rfl ?_
              refine VQ_gn rfl rfl rfl hc55 rfl rfl rfl ?_
              refine VQ_gn rfl rfl rfl hc55 rfl rfl rfl ?_
              refine VQ_gn rfl rfl rfl hc55 rfl rfl rfl ?_
              refine VQ_gn rfl rfl rfl hc55 rfl rfl rfl ?_
              refine VQ_tail (fun w74 hk75 => ?_)
              try simp only [List.take, List.drop]
              replace h_l := h_l.kp hk75
              replace h41 := h41.kp hk75
              replace hK := Kp.trans hK hk75
              replace hr15 := Kp.trans hr15 hk75
              replace hr51 := Kp.trans hr51 hk75
              replace hA : ∀ b, w74.heap.size ≤ b → A b := fun b hb => hA b (Nat.le_trans hk75.size hb)
              refine V_gn rfl rfl rfl hc55 rfl rfl rfl ?_
              refine V_gn rfl rfl rfl hc55 rfl rfl rfl ?_
              refine V_gn rfl rfl rfl hc55 rfl rfl rfl ?_
              refine V_y (Y_pick_fe rfl hc55 rfl) rfl rfl rfl ?_
              obtain rfl := Option.some.inj ho49
              exact V_end fun a ha => ⟨(), ha.sub ⟨rfl, rfl, rfl, rfl, rfl, trivial⟩, hr51⟩
          rintro _ w52 hk53 a ha54
          replace h_l := h_l.kp hk53
          replace hK := Kp.trans hK hk53
          replace hr15 := Kp.trans hr15 hk53
          replace hA : ∀ b, w52.heap.size ≤ b → A b := fun b hb => hA b (Nat.le_trans hk53.size hb)
          refine C_at (fun _ _ => rfl) ?_ ha54
          refine C_cond rfl (fun hc76 => ?_) (fun hc76 => ?_)
          · rw [if_pos hc76] at h23
            refine C_seq ?_
            refine C_region ?_
            refine V_y (Y_assign rfl) rfl rfl rfl ?_
            refine V_to (fun _ _ => rfl) ?_
            obtain rfl := Option.some.inj h23
            obtain rfl := (h24 : Lp.rt _ = _)
            rw [Lp.andThen_rt] at hm
            obtain rfl := Option.some.inj hm
            refine C_ret fun a ha => ?_
            try simp only [↓inBlock_ret, ↓then_ret]
            exact ret1 ha Try.results19 rfl ⟨rfl, hK⟩
          · rw [if_neg (nt hc76)] at h23
            refine C_skip_to (fun _ _ => rfl) ?_
            refine C_region ?_
            refine V_y (Y_addI rfl rfl) rfl rfl rfl ?_
            refine V_y (Y_move rfl) rfl rfl rfl ?_
            obtain rfl := Option.some.inj h23
            exact V_end fun a ha => ⟨(), hlt26, h24, ⟨(), ha.sub ⟨rfl, rfl, rfl, (congrArg (fun z => some (Value.int .i64 z)) (w64_succ hlt26 (Sl.le h_l))), trivial⟩, hr15⟩⟩
      · exact C_exit fun a ha => ⟨(), ha.sub trivial, ⟨(h27 (eq_of_dec hle25 hc29)).symm, hr15⟩⟩
    rintro s13 w17 ⟨rfl, hk18⟩ a ha19
    rw [Lp.andThen_fin] at hm
    replace hK := Kp.trans hK hk18
    replace hA : ∀ b, w17.heap.size ≤ b → A b := fun b hb => hA b (Nat.le_trans hk18.size hb)
    refine C_at (fun _ _ => rfl) ?_ ha19
    refine C_seq ?_
    refine C_region ?_
    refine V_y (Y_assign rfl) rfl rfl rfl ?_
    refine V_to (fun _ _ => rfl) ?_
    obtain rfl := Option.some.inj hm
    refine C_ret fun a ha => ?_
    try simp only [↓inBlock_ret, ↓then_ret]
    exact ret1 ha Try.results19 rfl ⟨rfl, hK⟩

set_option maxRecDepth 4000 in
theorem staff_checkNumbers_c (w : World) {A : Nat → Prop}  (l : (List Int)) (v_l : Value) (h_l : Sl A w v_l l) (most : Int) {r : Int} (hm : staff_checkNumbers l most = some r) : Ret Try.prog 69 #[v_l, .int .i64 most] w fun v w' => v = .int .i64 r ∧ w = w' := by
  unfold staff_checkNumbers at hm
  refine enter Try.func69 rfl Try.ntmps69 rfl ?_
  refine C_seq ?_
  refine C_region ?_
  refine V_y (Y_assign rfl) rfl rfl rfl ?_
  refine V_to (fun _ _ => rfl) ?_
  refine C_seq ?_
  refine C_seq ?_
  refine C_region ?_
  refine V_y (Y_move rfl) rfl rfl rfl ?_
  refine V_y (Y_lenSl h_l rfl Try.underlying22 rfl) rfl rfl rfl ?_
  refine V_y (Y_move rfl) rfl rfl rfl ?_
  refine V_to (fun _ _ => rfl) ?_
  obtain ⟨o7, ho7, hm⟩ := Option.bind_eq_some_iff.1 hm
  refine C_cutG (ι := Unit) (fun (s8 : Unit) => []) (fun (s8 : Unit) => fun w' => o7 = .fin s8 ∧ w = w') ?_ ?_
  · refine C_block ?_
    refine C_range ho7 (fun k11 _ a w' => ∃ i : Unit, Has 18 a ([(1, .int .i64 most), (7, v_l), (8, .int .i64 (l.length : Int)), (9, .int .i64 (k11 : Int))]) ∧ w = w') (fun a ha => ⟨(), ha.sub ⟨rfl, rfl, rfl, rfl, trivial⟩, rfl⟩) ?_
    rintro K k11 _ a _ ⟨_, ha31, rfl⟩ hle21 K24 h23
    refine C_of ?_ ha31
    refine C_seq (C_region (V_y (Y_lss rfl rfl) rfl rfl rfl (V_to (fun _ _ => rfl) ?_)))
    refine C_seq ?_
    refine C_cond rfl (fun hc25 => ?_) (fun hc25 => ?_)
    · have hlt22 := lt_of_dec hc25
      obtain ⟨x18, h19, h20⟩ := K24 hlt22
      refine C_skip_to (fun _ _ => rfl) ?_
      refine C_seq ?_
      refine C_block ?_
      refine C_seq ?_
      refine C_region ?_
      obtain ⟨x26, hx26, h19⟩ := Option.bind_eq_some_iff.1 h19
      refine V_indexAddr h_l hx26 Try.underlying22 Try.sizeOf3 rfl rfl rfl ?_
      intro b27 o28 h29
      refine V_y (Y_load (El.int h29) Try.isAgg3 rfl) rfl rfl rfl ?_
      refine V_y (Y_assign rfl) rfl rfl rfl ?_
      refine V_to (fun _ _ => rfl) ?_
      refine C_seq ?_
      refine C_region ?_
      refine V_y (Y_move rfl) rfl rfl rfl ?_
      refine V_y (Y_move rfl) rfl rfl rfl ?_
      refine V_call Try.call33 rfl rfl rfl rfl (staff_within_c w x26 0 most) ?_
      rintro _ _ ⟨rfl, rfl⟩
      refine V_y (Y_not rfl) rfl rfl rfl ?_
      refine V_to (fun _ _ => rfl) ?_
      refine C_cond rfl (fun hc30 => ?_) (fun hc30 => ?_)
      · rw [if_pos hc30] at h19
        refine C_seq ?_
        refine C_region ?_
        refine V_y (Y_assign rfl) rfl rfl rfl ?_
        refine V_to (fun _ _ => rfl) ?_
        obtain rfl := Option.some.inj h19
        obtain rfl := (h20 : Lp.rt _ = _)
        rw [Lp.andThen_rt] at hm
        obtain rfl := Option.some.inj hm
        refine C_ret fun a ha => ?_
        try simp only [↓inBlock_ret, ↓then_ret]
        exact ret1 ha Try.results69 rfl ⟨rfl, rfl⟩
      · rw [if_neg (nt hc30)] at h19
        refine C_skip_to (fun _ _ => rfl) ?_
        refine C_region ?_
        refine V_y (Y_addI rfl rfl) rfl rfl rfl ?_
        refine V_y (Y_move rfl) rfl rfl rfl ?_
        obtain rfl := Option.some.inj h19
        exact V_end fun a ha => ⟨(), hlt22, h20, ⟨(), ha.sub ⟨rfl, rfl, rfl, (congrArg (fun z => some (Value.int .i64 z)) (w64_succ hlt22 (Sl.le h_l))), trivial⟩, rfl⟩⟩
    · exact C_exit fun a ha => ⟨(), ha.sub trivial, ⟨(h23 (eq_of_dec hle21 hc25)).symm, rfl⟩⟩
  rintro s8 _ ⟨rfl, rfl⟩ a ha14
  rw [Lp.andThen_fin] at hm
  refine C_at (fun _ _ => rfl) ?_ ha14
  refine C_seq ?_
  refine C_region ?_
  refine V_y (Y_assign rfl) rfl rfl rfl ?_
  refine V_to (fun _ _ => rfl) ?_
  obtain rfl := Option.some.inj hm
  refine C_ret fun a ha => ?_
  try simp only [↓inBlock_ret, ↓then_ret]
  exact ret1 ha Try.results69 rfl ⟨rfl, rfl⟩

set_option maxRecDepth 4000 in
theorem staff_checkPlan_c (w : World) {A : Nat → Prop}  (forms : (List staff_Form)) (v_forms : Value) (h_forms : Sl A w v_forms forms) (plan : (List Int)) (v_plan : Value) (h_plan : Sl A w v_plan plan) {r : Int} (hm : staff_checkPlan forms plan = some r) : Ret Try.prog 45 #[v_forms, v_plan] w fun v w' => v = .int .i64 r ∧ w = w' := by
  unfold staff_checkPlan at hm
  refine enter Try.func45 rfl Try.ntmps45 rfl ?_
  refine C_seq ?_
  refine C_region ?_
  refine V_y (Y_assign rfl) rfl rfl rfl ?_
  refine V_to (fun _ _ => rfl) ?_
  refine C_seq ?_
  refine C_seq ?_
  refine C_region ?_
  refine V_y (Y_move rfl) rfl rfl rfl ?_
  refine V_y (Y_lenSl h_plan rfl Try.underlying22 rfl) rfl rfl rfl ?_
  refine V_y (Y_move rfl) rfl rfl rfl ?_
  refine V_y (Y_lenSl h_forms rfl Try.underlying27 rfl) rfl rfl rfl ?_
  refine V_y (Y_neq rfl rfl) rfl rfl rfl ?_
  refine V_to (fun _ _ => rfl) ?_
  refine C_cond rfl (fun hc13 => ?_) (fun hc13 => ?_)
  · rw [if_pos hc13] at hm
    refine C_seq ?_
    refine C_region ?_
    refine V_y (Y_assign rfl) rfl rfl rfl ?_
    refine V_to (fun _ _ => rfl) ?_
    obtain rfl := Option.some.inj hm
    refine C_ret fun a ha => ?_
    try simp only [↓inBlock_ret, ↓then_ret]
    exact ret1 ha Try.results45 rfl ⟨rfl, rfl⟩
  · rw [if_neg (nt hc13)] at hm
    refine C_skip_to (fun _ _ => rfl) ?_
    refine C_seq ?_
    refine C_region ?_
    refine V_y (Y_move rfl) rfl rfl rfl ?_
    obtain ⟨x14, hx14, hm⟩ := Option.bind_eq_some_iff.1 hm
    refine V_call Try.call69 rfl rfl rfl rfl (staff_checkNumbers_c w plan v_plan h_plan 60 hx14) ?_
    rintro _ _ ⟨rfl, rfl⟩
    refine V_y (Y_assign rfl) rfl rfl rfl ?_
    refine V_to (fun _ _ => rfl) ?_
    obtain rfl := Option.some.inj hm
    refine C_ret fun a ha => ?_
    try simp only [↓inBlock_ret, ↓then_ret]
    exact ret1 ha Try.results45 rfl ⟨rfl, rfl⟩

set_option maxRecDepth 4000 in
theorem staff_checkDemand_c (w : World) {A : Nat → Prop}  (l : (List Int)) (v_l : Value) (h_l : Sl A w v_l l) (most : Int) {r : Int} (hm : staff_checkDemand l most = some r) : Ret Try.prog 37 #[v_l, .int .i64 most] w fun v w' => v = .int .i64 r ∧ w = w' := by
  unfold staff_checkDemand at hm
  refine enter Try.func37 rfl Try.ntmps37 rfl ?_
  refine C_seq ?_
  refine C_region ?_
  refine V_y (Y_assign rfl) rfl rfl rfl ?_
  refine V_to (fun _ _ => rfl) ?_
  refine C_seq ?_
  refine C_seq ?_
  refine C_region ?_
  refine V_y (Y_move rfl) rfl rfl rfl ?_
  refine V_y (Y_lenSl h_l rfl Try.underlying22 rfl) rfl rfl rfl ?_
  refine V_y (Y_gtr rfl rfl) rfl rfl rfl ?_
  refine V_to (fun _ _ => rfl) ?_
  refine C_cond rfl (fun hc7 => ?_) (fun hc7 => ?_)
  · rw [if_pos hc7] at hm
    refine C_seq ?_
    refine C_region ?_
    refine V_y (Y_assign rfl) rfl rfl rfl ?_
    refine V_to (fun _ _ => rfl) ?_
    obtain rfl := Option.some.inj hm
    refine C_ret fun a ha => ?_
    try simp only [↓inBlock_ret, ↓then_ret]
    exact ret1 ha Try.results37 rfl ⟨rfl, rfl⟩
  · rw [if_neg (nt hc7)] at hm
    refine C_skip_to (fun _ _ => rfl) ?_
    refine C_seq ?_
    refine C_region ?_
    refine V_y (Y_move rfl) rfl rfl rfl ?_
    refine V_y (Y_move rfl) rfl rfl rfl ?_
    obtain ⟨x8, hx8, hm⟩ := Option.bind_eq_some_iff.1 hm
    refine V_call Try.call69 rfl rfl rfl rfl (staff_checkNumbers_c w l v_l h_l most hx8) ?_
    rintro _ _ ⟨rfl, rfl⟩
    refine V_y (Y_assign rfl) rfl rfl rfl ?_
    refine V_to (fun _ _ => rfl) ?_
    obtain rfl := Option.some.inj hm
    refine C_ret fun a ha => ?_
    try simp only [↓inBlock_ret, ↓then_ret]
    exact ret1 ha Try.results37 rfl ⟨rfl, rfl⟩

set_option maxRecDepth 4000 in
theorem cmp_Or_api_Errno_c (w : World) {A : Nat → Prop}  (vals : (List Int)) (v_vals : Value) (h_vals : Sl A w v_vals vals) {r : Int} (hm : cmp_Or_api_Errno vals = some r) : Ret Try.prog 36 #[v_vals] w fun v w' => v = .int .i64 r ∧ w = w' := by
  unfold cmp_Or_api_Errno at hm
  refine enter Try.func36 rfl Try.ntmps36 rfl ?_
  refine C_seq ?_
  refine C_region ?_
  refine V_y (Y_assign rfl) rfl rfl rfl ?_
  refine V_to (fun _ _ => rfl) ?_
  refine C_seq ?_
  refine C_region ?_
  refine V_y (Y_assign rfl) rfl rfl rfl ?_
  refine V_to (fun _ _ => rfl) ?_
  refine C_seq ?_
  refine C_seq ?_
  refine C_region ?_
  refine V_y (Y_move rfl) rfl rfl rfl ?_
  refine V_y (Y_lenSl h_vals rfl Try.underlying91 rfl) rfl rfl rfl ?_
  refine V_y (Y_move rfl) rfl rfl rfl ?_
  refine V_to (fun _ _ => rfl) ?_
  obtain ⟨o7, ho7, hm⟩ := Option.bind_eq_some_iff.1 hm
  refine C_cutG (ι := Unit) (fun (s8 : Unit) => [(3, .int .i64 0)]) (fun (s8 : Unit) => fun w' => o7 = .fin s8 ∧ w = w') ?_ ?_
  · refine C_block ?_
    refine C_range ho7 (fun k11 _ a w' => ∃ i : Unit, Has 18 a ([(3, .int .i64 0), (6, v_vals), (7, .int .i64 (vals.length : Int)), (8, .int .i64 (k11 : Int))]) ∧ w = w') (fun a ha => ⟨(), ha.sub ⟨rfl, rfl, rfl, rfl, trivial⟩, rfl⟩) ?_
    rintro K k11 _ a _ ⟨_, ha31, rfl⟩ hle21 K24 h23
    refine C_of ?_ ha31
    refine C_seq (C_region (V_y (Y_lss rfl rfl) rfl rfl rfl (V_to (fun _ _ => rfl) ?_)))
    refine C_seq ?_
    refine C_cond rfl (fun hc25 => ?_) (fun hc25 => ?_)
    · have hlt22 := lt_of_dec hc25
      obtain ⟨x18, h19, h20⟩ := K24 hlt22
      refine C_skip_to (fun _ _ => rfl) ?_
      refine C_seq ?_
      refine C_block ?_
      refine C_seq ?_
      refine C_region ?_
      obtain ⟨x26, hx26, h19⟩ := Option.bind_eq_some_iff.1 h19
      refine V_indexAddr h_vals hx26 Try.underlying91 Try.sizeOf23 rfl rfl rfl ?_
      intro b27 o28 h29
      refine V_y (Y_load (El.int h29) Try.isAgg23 rfl) rfl rfl rfl ?_
      refine V_y (Y_assign rfl) rfl rfl rfl ?_
      refine V_to (fun _ _ => rfl) ?_
      refine C_seq ?_
      refine C_region ?_
      refine V_y (Y_move rfl) rfl rfl rfl ?_
      refine V_y (Y_move rfl) rfl rfl rfl ?_
      refine V_y (Y_neq rfl rfl) rfl rfl rfl ?_
      refine V_to (fun _ _ => rfl) ?_
      refine C_cond rfl (fun hc30 => ?_) (fun hc30 => ?_)
      · rw [if_pos hc30] at h19
        refine C_seq ?_
        refine C_region ?_
        refine V_y (Y_move rfl) rfl rfl rfl ?_
        refine V_y (Y_assign rfl) rfl rfl rfl ?_
        refine V_to (fun _ _ => rfl) ?_
        obtain rfl := Option.some.inj h19
        obtain rfl := (h20 : Lp.rt _ = _)
        rw [Lp.andThen_rt] at hm
        obtain rfl := Option.some.inj hm
        refine C_ret fun a ha => ?_
        try simp only [↓inBlock_ret, ↓then_ret]
        exact ret1 ha Try.results36 rfl ⟨rfl, rfl⟩
      · rw [if_neg (nt hc30)] at h19
        refine C_skip_to (fun _ _ => rfl) ?_
        refine C_region ?_
        refine V_y (Y_addI rfl rfl) rfl rfl rfl ?_
        refine V_y (Y_move rfl) rfl rfl rfl ?_
        obtain rfl := Option.some.inj h19
        exact V_end fun a ha => ⟨(), hlt22, h20, ⟨(), ha.sub ⟨rfl, rfl, rfl, (congrArg (fun z => some (Value.int .i64 z)) (w64_succ hlt22 (Sl.le h_vals))), trivial⟩, rfl⟩⟩
    · exact C_exit fun a ha => ⟨(), ha.sub ⟨rfl, trivial⟩, ⟨(h23 (eq_of_dec hle21 hc25)).symm, rfl⟩⟩
  rintro s8 _ ⟨rfl, rfl⟩ a ha14
  rw [Lp.andThen_fin] at hm
  refine C_at (fun _ _ => rfl) ?_ ha14
  refine C_seq ?_
  refine C_region ?_
  refine V_y (Y_move rfl) rfl rfl rfl ?_
  refine V_y (Y_assign rfl) rfl rfl rfl ?_
  refine V_to (fun _ _ => rfl) ?_
  obtain rfl := Option.some.inj hm
  refine C_ret fun a ha => ?_
  try simp only [↓inBlock_ret, ↓then_ret]
  exact ret1 ha Try.results36 rfl ⟨rfl, rfl⟩

set_option maxRecDepth 4000 in
theorem staff_cover_c (w : World) {A : Nat → Prop} (hA : ∀ b, w.heap.size ≤ b → A b) (forms : (List staff_Form)) (v_forms : Value) (h_forms : Sl A w v_forms forms) (slots : Int) (plan : (List Int)) (v_plan : Value) (h_plan : Sl A w v_plan plan) {r : (List Int)} (hm : staff_cover forms slots plan = some r) : Ret Try.prog 46 #[v_forms, .int .i64 slots, v_plan] w fun v w' => ∃ s0, ∃ A1 : Nat → Prop, v = s0 ∧ Ow 3 w.heap.size A1 w' s0 r ∧ Tr w.heap.size A w A1 w' := by
  unfold staff_cover at hm
  refine enter Try.func46 rfl Try.ntmps46 rfl ?_
  have hA0 := hA
  have hB := Nat.le_refl w.heap.size
  have hK : Tr w.heap.size A w A w := Tr.refl hA
  refine C_seq ?_
  refine C_region ?_
  refine V_y (Y_assign rfl) rfl rfl rfl ?_
  refine V_to (fun _ _ => rfl) ?_
  refine C_seq ?_
  refine C_region ?_
  refine V_y (Y_move rfl) rfl rfl rfl ?_
  obtain ⟨x5, hx5, hm⟩ := Option.bind_eq_some_iff.1 hm
  refine V_make (e := 3) (B := w.heap.size) (A := A) (i := Try.t3) hx5 (fun _ _ => rfl) Try.underlying22 Try_info3 rfl rfl rfl (by decide) (by decide) hB hA rfl rfl rfl ?_
  intro v6 w7 A8 h9 mv10 hp11
  replace h_forms := Sl.mv h_forms mv10
  replace h_plan := Sl.mv h_plan mv10
  replace hK := Tr.step hK mv10 hB
  replace hB := Nat.le_trans hB mv10.size
  replace hA := mv10.new
  refine V_y (Y_assign rfl) rfl rfl rfl ?_
  refine V_to (fun _ _ => rfl) ?_
  refine C_seq ?_
  refine C_seq ?_
  refine C_region ?_
  refine V_y (Y_move rfl) rfl rfl rfl ?_
  refine V_y (Y_lenSl h_forms rfl Try.underlying27 rfl) rfl rfl rfl ?_
  refine V_y (Y_move rfl) rfl rfl rfl ?_
  refine V_to (fun _ _ => rfl) ?_
  obtain ⟨o16, ho16, hm⟩ := Option.bind_eq_some_iff.1 hm
  refine C_cutG (ι := ((List Int) × Value × (Nat → Prop))) (fun ⟨s17, v24, A26⟩ => [(7, v24)]) (fun ⟨s17, v24, A26⟩ => fun w' => o16 = .fin s17 ∧ Ow 3 w.heap.size A26 w' v24 s17 ∧ Tr w.heap.size A8 w7 A26 w') ?_ ?_
  · refine C_block ?_
    refine C_range ho16 (fun k20 s27 a w' => ∃ i : (Value × (Nat → Prop)), Has 45 a ([(1, .int .i64 slots), (2, v_plan), (7, i.1), (13, v_forms), (14, .int .i64 (forms.length : Int)), (15, .int .i64 (k20 : Int))]) ∧ Ow 3 w.heap.size i.2 w' i.1 s27 ∧ Tr w.heap.size A8 w7 i.2 w') (fun a ha => ⟨(v6, A8), ha.sub ⟨rfl, rfl, rfl, rfl, rfl, rfl, trivial⟩, ⟨h9, Tr.refl hA⟩⟩) ?_
    rintro K k20 s27 a w28 ⟨⟨v29, A31⟩, ha110, h30, hr19⟩ hle35 K38 h37
    refine C_of ?_ ha110
    replace h_plan := Sl.tr h_plan hr19
    replace h_forms := Sl.tr h_forms hr19
    replace hK := Tr.trans hK hr19
    replace hB := Nat.le_trans hB hr19.ex.size
    replace hA := hr19.new
    refine C_seq (C_region (V_y (Y_lss rfl rfl) rfl rfl rfl (V_to (fun _ _ => rfl) ?_)))
    refine C_seq ?_
    refine C_cond rfl (fun hc39 => ?_) (fun hc39 => ?_)
    · have hlt36 := lt_of_dec hc39
      obtain ⟨x32, h33, h34⟩ := K38 hlt36
      refine C_skip_to (fun _ _ => rfl) ?_
      refine C_seq ?_
      obtain ⟨s41, ho40, h33⟩ := Option.bind_eq_some_iff.1 h33
      refine C_cutG (ι := (Value × (Nat → Prop))) (fun ⟨v43, A48⟩ => [(1, .int .i64 slots), (2, v_plan), (7, v43), (13, v_forms), (14, .int .i64 (forms.length : Int)), (15, .int .i64 (k20 : Int))]) (fun ⟨v43, A48⟩ => fun w' => Ow 3 w.heap.size A48 w' v43 s41 ∧ Tr w.heap.size A31 w28 A48 w') ?_ ?_
      · have hr42 : Tr w.heap.size A31 w28 A31 w28 := Tr.refl hA
        refine C_block ?_
        refine C_seq ?_
        refine C_region ?_
        refine V_y (Y_move rfl) rfl rfl rfl ?_
        obtain ⟨x49, hx49, ho40⟩ := Option.bind_eq_some_iff.1 ho40
        refine V_indexAddr h_forms hx49 Try.underlying27 Try.sizeOf65 rfl rfl rfl ?_
        intro b50 o51 h52
        obtain ⟨h53, _⟩ := El_staff_Form h52
        refine V_y (Y_loadA h53 Try.isAgg65 Try.sizeOf65 rfl) rfl rfl rfl ?_
        refine V_alloc Try.zeroValue65 rfl ?_
        intro b54 w55 h56
        refine V_y (Y_assign rfl) rfl rfl rfl ?_
        refine V_storeNew h56 Try.sizeOf65 rfl rfl rfl rfl (by simp [Value.cells, Value.oneCell']) ?_
        intro w57 h58
        have hk59 := h58.kp
        have h60 : El (α := staff_Form) A31 w57 b54 0 x49 := h58.el hA ⟨[.int .i64 x49.from_], _, rfl, rfl, rfl⟩
        have mv61 := Mv.kp (B := w.heap.size) hk59 hA
        replace h_plan := Sl.mv h_plan mv61
        replace h_forms := Sl.mv h_forms mv61
        replace h30 := Ow.mv h30 mv61 Dj.no
        replace h52 := El.mv h52 mv61
        replace hK := Tr.step hK mv61 hB
        replace hr19 := Tr.step hr19 mv61 hB
        replace hr42 := Tr.step hr42 mv61 hB
        replace hB := Nat.le_trans hB mv61.size
        replace hA := mv61.new
        refine V_to (fun _ _ => rfl) ?_
        refine C_seq ?_
        refine C_region ?_
        have h62 := El_staff_Form_0 h60
        refine V_y (Y_fieldAddr Try.underlying65 rfl Try.sizeOf3 (by decide) rfl) rfl rfl rfl ?_
        refine V_y (Y_load (El.int h62) Try.isAgg3 rfl) rfl rfl rfl ?_
        refine V_y (Y_assign rfl) rfl rfl rfl ?_
        refine V_to (fun _ _ => rfl) ?_
        obtain ⟨o63, ho63, ho40⟩ := Option.bind_eq_some_iff.1 ho40
        refine C_cutG (ι := (((List Int) × Int) × Value × (Nat → Prop))) (fun ⟨s64, v71, A73⟩ => [(1, .int .i64 slots), (2, v_plan), (7, v71), (13, v_forms), (14, .int .i64 (forms.length : Int)), (15, .int .i64 (k20 : Int))]) (fun ⟨s64, v71, A73⟩ => fun w' => o63 = .fin s64 ∧ Ow 3 w.heap.size A73 w' v71 s64.1 ∧ Tr w.heap.size A31 w57 A73 w') ?_ ?_
        · refine C_block ?_
          refine C_while ho63 (fun s74 a w' => ∃ i : (Value × (Nat → Prop)), Has 45 a ([(1, .int .i64 slots), (2, v_plan), (7, i.1), (8, .int .i64 (k20 : Int)), (9, .pointer (some ⟨b54, 0, none⟩)), (10, .int .i64 s74.2), (13, v_forms), (14, .int .i64 (forms.length : Int)), (15, .int .i64 (k20 : Int))]) ∧ Ow 3 w.heap.size i.2 w' i.1 s74.1 ∧ Tr w.heap.size A31 w57 i.2 w') (fun a ha => ⟨(v29, A31), ha.sub ⟨rfl, rfl, rfl, rfl, rfl, rfl, rfl, rfl, rfl, trivial⟩, ⟨h30, Tr.refl hA⟩⟩) ?_
          rintro K s74 a w75 ⟨⟨v76, A78⟩, ha109, h77, hr66⟩ K85
          refine C_of ?_ ha109
          replace h_plan := Sl.tr h_plan hr66
          replace h_forms := Sl.tr h_forms hr66
          replace h60 := El.tr h60 hr66
          replace hK := Tr.trans hK hr66
          replace hr19 := Tr.trans hr19 hr66
          replace hr42 := Tr.trans hr42 hr66
          replace hB := Nat.le_trans hB hr66.ex.size
          replace hA := hr66.new
          obtain ⟨x79, h80, h81⟩ := K85
          refine C_seq ?_
          refine C_seq ?_
          refine C_region ?_
          refine V_y (Y_move rfl) rfl rfl rfl ?_
          refine V_y (Y_move rfl) rfl rfl rfl ?_
          have h86 := El_staff_Form_0 h60
          refine V_y (Y_fieldAddr Try.underlying65 rfl Try.sizeOf3 (by decide) rfl) rfl rfl rfl ?_
          refine V_y (Y_load (El.int h86) Try.isAgg3 rfl) rfl rfl rfl ?_
          have h87 := El_staff_Form_1 h60
          refine V_y (Y_fieldAddr Try.underlying65 rfl Try.sizeOf3 (by decide) rfl) rfl rfl rfl ?_
          refine V_y (Y_load (El.int h87) Try.isAgg3 rfl) rfl rfl rfl ?_
          refine V_y (Y_addI rfl rfl) rfl rfl rfl ?_
          refine V_y (Y_min2 rfl rfl) rfl rfl rfl ?_
          refine V_y (Y_lss rfl rfl) rfl rfl rfl ?_
          refine V_to (fun _ _ => rfl) ?_
          refine C_cond rfl (fun hc88 => ?_) (fun hc88 => ?_)
          · rw [if_pos hc88] at h80
            refine C_skip_to (fun _ _ => rfl) ?_
            refine C_seq ?_
            refine C_block ?_
            refine C_region_qt 10 Try_mixed (by kernel_rfl) ?_
            simp only [List.take, List.drop]
            refine VQ_y (fun w' hw' => Y_move rfl) rfl rfl rfl ?_
            refine VQ_y (fun w' hw' => Y_move rfl) rfl rfl rfl ?_
            obtain ⟨x89, hx89, h80⟩ := Option.bind_eq_some_iff.1 h80
            refine VQ_indexAddrO h77 hx89 Try.underlying22 Try.sizeOf3 rfl rfl rfl ?_
            intro b90 o91 h92 hl93
            refine VQ_y (fun w' hw' => Y_load (El.int (El.kp h92 hw')) Try.isAgg3 rfl) rfl rfl rfl ?_
            refine VQ_y (fun w' hw' => Y_move rfl) rfl rfl rfl ?_
            refine VQ_y (fun w' hw' => Y_move rfl) rfl rfl rfl ?_
            obtain ⟨x94, hx94, h80⟩ := Option.bind_eq_some_iff.1 h80
            refine VQ_indexAddr h_plan hx94 Try.underlying22 Try.sizeOf3 rfl rfl rfl ?_
            intro b95 o96 h97
            refine VQ_y (fun w' hw' => Y_load (El.int (El.kp h97 hw')) Try.isAgg3 rfl) rfl rfl rfl ?_
            refine VQ_y (fun w' hw' => Y_addI rfl rfl) rfl rfl rfl ?_
            refine VQ_indexAddrO h77 hx89 Try.underlying22 Try.sizeOf3 rfl rfl rfl ?_
            intro b98 o99 h100 hl101
            refine VQ_tail (fun w102 hk103 => ?_)
            try simp only [List.take, List.drop]
            have mv104 := Mv.kp (B := w.heap.size) hk103 hA
            replace h_plan := Sl.mv h_plan mv104
            replace h_forms := Sl.mv h_forms mv104
            replace h60 := El.mv h60 mv104
            replace h77 := Ow.mv h77 mv104 Dj.no
            replace h92 := El.kp h92 hk103
            replace h97 := El.mv h97 mv104
            replace h100 := El.kp h100 hk103
            replace hK := Tr.step hK mv104 hB
            replace hr19 := Tr.step hr19 mv104 hB
            replace hr42 := Tr.step hr42 mv104 hB
            replace hr66 := Tr.step hr66 mv104 hB
            replace hB := Nat.le_trans hB mv104.size
            replace hA := mv104.new
            obtain ⟨x105, hx105, h80⟩ := Option.bind_eq_some_iff.1 h80
            refine V_storeO h77 hl101 hx105 rfl Try.sizeOf3 rfl hA rfl rfl ?_
            intro w106 h107 mv108
            replace h_plan := Sl.mv h_plan mv108
            replace h_forms := Sl.mv h_forms mv108
            replace h60 := El.mv h60 mv108
            replace h97 := El.mv h97 mv108
            replace hK := Tr.step hK mv108 hB
            replace hr19 := Tr.step hr19 mv108 hB
            replace hr42 := Tr.step hr42 mv108 hB
            replace hr66 := Tr.step hr66 mv108 hB
            replace hB := Nat.le_trans hB mv108.size
            replace hA := mv108.new
            refine V_to (fun _ _ => rfl) ?_
            refine C_region ?_
            refine V_y (Y_move rfl) rfl rfl rfl ?_
            refine V_y (Y_addI rfl rfl) rfl rfl rfl ?_
            refine V_y (Y_assign rfl) rfl rfl rfl ?_
            obtain rfl := Option.some.inj h80
            exact V_end fun a ha => ⟨(x105, w64 (s74.2 + 1)), h81, ⟨(v76, A78), ha.sub ⟨rfl, rfl, rfl, rfl, rfl, rfl, rfl, rfl, rfl, trivial⟩, ⟨h107, hr66⟩⟩⟩
          · rw [if_neg (nt hc88)] at h80
            obtain rfl := Option.some.inj h80
            exact C_exit fun a ha => ⟨((s74.1, s74.2), v76, A78), ha.sub ⟨rfl, rfl, rfl, rfl, rfl, rfl, trivial⟩, ⟨h81.symm, h77, hr66⟩⟩
        rintro ⟨s64, v71, A73⟩ w68 ⟨rfl, h72, hk69⟩ a ha70
        rw [Lp.andThen_fin] at ho40
        replace h_plan := Sl.tr h_plan hk69
        replace h_forms := Sl.tr h_forms hk69
        replace hK := Tr.trans hK hk69
        replace hr19 := Tr.trans hr19 hk69
        replace hr42 := Tr.trans hr42 hk69
        replace hB := Nat.le_trans hB hk69.ex.size
        replace hA := hk69.new
        obtain rfl := Option.some.inj ho40
        exact ⟨(v71, A73), ha70.sub ⟨rfl, rfl, rfl, rfl, rfl, rfl, trivial⟩, ⟨h72, hr42⟩⟩
      rintro ⟨v43, A48⟩ w45 ⟨h44, hk46⟩ a ha47
      replace h_plan := Sl.tr h_plan hk46
      replace h_forms := Sl.tr h_forms hk46
      replace hK := Tr.trans hK hk46
      replace hr19 := Tr.trans hr19 hk46
      replace hB := Nat.le_trans hB hk46.ex.size
      replace hA := hk46.new
      refine C_at (fun _ _ => rfl) ?_ ha47
      refine C_region ?_
      refine V_y (Y_addI rfl rfl) rfl rfl rfl ?_
      refine V_y (Y_move rfl) rfl rfl rfl ?_
      obtain rfl := Option.some.inj h33
      exact V_end fun a ha => ⟨s41, hlt36, h34, ⟨(v43, A48), ha.sub ⟨rfl, rfl, rfl, rfl, rfl, (congrArg (fun z => some (Value.int .i64 z)) (w64_succ hlt36 (Sl.le h_forms))), trivial⟩, ⟨h44, hr19⟩⟩⟩
    · exact C_exit fun a ha => ⟨(s27, v29, A31), ha.sub ⟨rfl, trivial⟩, ⟨(h37 (eq_of_dec hle35 hc39)).symm, h30, hr19⟩⟩
  rintro ⟨s17, v24, A26⟩ w21 ⟨rfl, h25, hk22⟩ a ha23
  rw [Lp.andThen_fin] at hm
  replace hK := Tr.trans hK hk22
  replace hB := Nat.le_trans hB hk22.ex.size
  replace hA := hk22.new
  refine C_at (fun _ _ => rfl) ?_ ha23
  refine C_seq ?_
  refine C_region ?_
  refine V_y (Y_move rfl) rfl rfl rfl ?_
  refine V_y (Y_assign rfl) rfl rfl rfl ?_
  refine V_to (fun _ _ => rfl) ?_
  obtain rfl := Option.some.inj hm
  refine C_ret fun a ha => ?_
  try simp only [↓inBlock_ret, ↓then_ret]
  exact ret1 ha Try.results46 rfl ⟨v24, A26, rfl, h25, hK⟩

set_option maxRecDepth 4000 in
theorem staff_Spare_c (w : World) {A : Nat → Prop} (hA : ∀ b, w.heap.size ≤ b → A b) (forms : (List staff_Form)) (v_forms : Value) (h_forms : Sl A w v_forms forms) (demand : (List Int)) (v_demand : Value) (h_demand : Sl A w v_demand demand) (plan : (List Int)) (v_plan : Value) (h_plan : Sl A w v_plan plan) {r : ((List Int) × Int)} (hm : staff_Spare forms demand plan = some r) : Ret Try.prog 21 #[v_forms, v_demand, v_plan] w fun v w' => ∃ s0, ∃ A1 : Nat → Prop, v = .tuple #[s0, .int .i64 r.2] ∧ Ow 3 w.heap.size A1 w' s0 r.1 ∧ Tr w.heap.size A w A1 w' := by
  unfold staff_Spare at hm
  refine enter Try.func21 rfl Try.ntmps21 rfl ?_
  have hA0 := hA
  have hB := Nat.le_refl w.heap.size
  have hK : Tr w.heap.size A w A w := Tr.refl hA
  refine C_seq ?_
  refine C_region ?_
  refine V_y (Y_assign rfl) rfl rfl rfl ?_
  refine V_y (Y_assign rfl) rfl rfl rfl ?_
  refine V_to (fun _ _ => rfl) ?_
  refine C_seq ?_
  refine C_seq ?_
  refine C_region ?_
  refine V_y (Y_move rfl) rfl rfl rfl ?_
  obtain ⟨x7, hx7, hm⟩ := Option.bind_eq_some_iff.1 hm
  refine V_call Try.call19 rfl rfl rfl rfl (staff_CheckForms_c w hA forms v_forms h_forms hx7) ?_
  rintro _ w9 ⟨rfl, hk10⟩
  have mv11 := Mv.kp (B := w.heap.size) hk10 hA
  replace h_forms := Sl.mv h_forms mv11
  replace h_demand := Sl.mv h_demand mv11
  replace h_plan := Sl.mv h_plan mv11
  replace hK := Tr.step hK mv11 hB
  replace hB := Nat.le_trans hB mv11.size
  replace hA := mv11.new
  refine V_y (Y_move rfl) rfl rfl rfl ?_
  refine V_y (Y_move rfl) rfl rfl rfl ?_
  obtain ⟨x12, hx12, hm⟩ := Option.bind_eq_some_iff.1 hm
  refine V_call Try.call45 rfl rfl rfl rfl (staff_checkPlan_c w9 forms v_forms h_forms plan v_plan h_plan hx12) ?_
  rintro _ _ ⟨rfl, rfl⟩
  refine V_y (Y_move rfl) rfl rfl rfl ?_
  obtain ⟨x13, hx13, hm⟩ := Option.bind_eq_some_iff.1 hm
  refine V_call Try.call37 rfl rfl rfl rfl (staff_checkDemand_c w9 demand v_demand h_demand 60 hx13) ?_
  rintro _ _ ⟨rfl, rfl⟩
  refine V_buildSlice (l := ([x7, x12, x13] : List Int)) (len := 3) Try.underlying91 Try.sizeOf23 Try.zeroValue23 rfl (by with_unfolding_all rfl) (by decide) (by decide) hA ⟨[.int .i64 x7], _, rfl, rfl, ⟨[.int .i64 x12], _, rfl, rfl, ⟨[.int .i64 x13], _, rfl, rfl, rfl⟩⟩⟩ rfl rfl ?_
  intro v14 w15 hk17 h16
  have mv18 := Mv.kp (B := w.heap.size) hk17 hA
  replace h_forms := Sl.mv h_forms mv18
  replace h_demand := Sl.mv h_demand mv18
  replace h_plan := Sl.mv h_plan mv18
  replace hK := Tr.step hK mv18 hB
  replace hB := Nat.le_trans hB mv18.size
  replace hA := mv18.new
  obtain ⟨x19, hx19, hm⟩ := Option.bind_eq_some_iff.1 hm
  refine V_call Try.call36 rfl rfl rfl rfl (cmp_Or_api_Errno_c w15 ([x7, x12, x13] : List Int) v14 h16 hx19) ?_
  rintro _ _ ⟨rfl, rfl⟩
  refine V_y (Y_assign rfl) rfl rfl rfl ?_
  refine V_to (fun _ _ => rfl) ?_
  refine C_seq ?_
  refine C_region ?_
  refine V_y (Y_move rfl) rfl rfl rfl ?_
  refine V_y (Y_neq rfl rfl) rfl rfl rfl ?_
  refine V_to (fun _ _ => rfl) ?_
  refine C_cond rfl (fun hc20 => ?_) (fun hc20 => ?_)
  · rw [if_pos hc20] at hm
    refine C_seq ?_
    refine C_region ?_
    refine V_y (Y_move rfl) rfl rfl rfl ?_
    refine V_y (Y_assign rfl) rfl rfl rfl ?_
    refine V_y (Y_assign rfl) rfl rfl rfl ?_
    refine V_to (fun _ _ => rfl) ?_
    obtain rfl := Option.some.inj hm
    refine C_ret fun a ha => ?_
    try simp only [↓inBlock_ret, ↓then_ret]
    exact ret2 ha Try.results21 rfl rfl ⟨.slice none 0 0, A, rfl, Ow.nil, hK⟩
  · rw [if_neg (nt hc20)] at hm
    refine C_skip_to (fun _ _ => rfl) ?_
    refine C_seq ?_
    refine C_region ?_
    refine V_y (Y_move rfl) rfl rfl rfl ?_
    refine V_y (Y_move rfl) rfl rfl rfl ?_
    refine V_y (Y_lenSl h_demand rfl Try.underlying22 rfl) rfl rfl rfl ?_
    refine V_y (Y_move rfl) rfl rfl rfl ?_
    obtain ⟨x25, hx25, hm⟩ := Option.bind_eq_some_iff.1 hm
    refine V_call Try.call46 rfl rfl rfl rfl (staff_cover_c w15 hA forms v_forms h_forms (demand.length : Int) plan v_plan h_plan hx25) ?_
    rintro v26 w28 ⟨_, A30, rfl, h27, hk29⟩
    replace h27 := Ow.lower h27 hB
    replace hk29 := Tr.lower hk29 hB
    replace h_forms := Sl.tr h_forms hk29
    replace h_demand := Sl.tr h_demand hk29
    replace h_plan := Sl.tr h_plan hk29
    replace hK := Tr.trans hK hk29
    replace hB := Nat.le_trans hB hk29.ex.size
    replace hA := hk29.new
    refine V_y (Y_assign rfl) rfl rfl rfl ?_
    refine V_to (fun _ _ => rfl) ?_
    refine C_seq ?_
    refine C_region ?_
    refine V_y (Y_move rfl) rfl rfl rfl ?_
    refine V_y (Y_lenSl h_forms rfl Try.underlying27 rfl) rfl rfl rfl ?_
    obtain ⟨x35, hx35, hm⟩ := Option.bind_eq_some_iff.1 hm
    refine V_make (e := 3) (B := w.heap.size) (A := A30) (i := Try.t3) hx35 (fun _ _ => rfl) Try.underlying22 Try_info3 rfl rfl rfl (by decide) (by decide) hB hA rfl rfl rfl ?_
    intro v36 w37 A38 h39 mv40 hp41
    have dj42 := dj_new h27 hp41
    replace h_forms := Sl.mv h_forms mv40
    replace h_demand := Sl.mv h_demand mv40
    replace h_plan := Sl.mv h_plan mv40
    replace h27 := Ow.mv h27 mv40 Dj.no
    replace hK := Tr.step hK mv40 hB
    replace hB := Nat.le_trans hB mv40.size
    replace hA := mv40.new
    refine V_y (Y_assign rfl) rfl rfl rfl ?_
    refine V_to (fun _ _ => rfl) ?_
    refine C_seq ?_
    refine C_seq ?_
    refine C_region ?_
    refine V_y (Y_move rfl) rfl rfl rfl ?_
    refine V_y (Y_lenSl h_demand rfl Try.underlying22 rfl) rfl rfl rfl ?_
    refine V_y (Y_move rfl) rfl rfl rfl ?_
    refine V_to (fun _ _ => rfl) ?_
    obtain ⟨o47, ho47, hm⟩ := Option.bind_eq_some_iff.1 hm
    refine C_cutG (ι := Unit) (fun (s48 : Unit) => [(0, v_forms), (1, v_demand), (2, v_plan), (9, v26), (10, v36)]) (fun (s48 : Unit) => fun w' => o47 = .fin s48 ∧ w37 = w') ?_ ?_
    · refine C_block ?_
      refine C_range ho47 (fun k51 _ a w' => ∃ i : Unit, Has 98 a ([(0, v_forms), (1, v_demand), (2, v_plan), (9, v26), (10, v36), (36, v_demand), (37, .int .i64 (demand.length : Int)), (38, .int .i64 (k51 : Int))]) ∧ w37 = w') (fun a ha => ⟨(), ha.sub ⟨rfl, rfl, rfl, rfl, rfl, rfl, rfl, rfl, trivial⟩, rfl⟩) ?_
      rintro K k51 _ a _ ⟨_, ha75, rfl⟩ hle60 K63 h62
      refine C_of ?_ ha75
      refine C_seq (C_region (V_y (Y_lss rfl rfl) rfl rfl rfl (V_to (fun _ _ => rfl) ?_)))
      refine C_seq ?_
      refine C_cond rfl (fun hc64 => ?_) (fun hc64 => ?_)
      · have hlt61 := lt_of_dec hc64
        obtain ⟨x57, h58, h59⟩ := K63 hlt61
        refine C_skip_to (fun _ _ => rfl) ?_
        refine C_seq ?_
        refine C_block ?_
        refine C_seq ?_
        refine C_region ?_
        refine V_y (Y_move rfl) rfl rfl rfl ?_
        obtain ⟨x65, hx65, h58⟩ := Option.bind_eq_some_iff.1 h58
        refine V_indexAddr h_demand hx65 Try.underlying22 Try.sizeOf3 rfl rfl rfl ?_
        intro b66 o67 h68
        refine V_y (Y_load (El.int h68) Try.isAgg3 rfl) rfl rfl rfl ?_
        refine V_y (Y_assign rfl) rfl rfl rfl ?_
        refine V_y (Y_assign rfl) rfl rfl rfl ?_
        refine V_to (fun _ _ => rfl) ?_
        refine C_seq ?_
        refine C_region ?_
        refine V_y (Y_move rfl) rfl rfl rfl ?_
        refine V_y (Y_move rfl) rfl rfl rfl ?_
        obtain ⟨x69, hx69, h58⟩ := Option.bind_eq_some_iff.1 h58
        refine V_indexAddrO h27 hx69 Try.underlying22 Try.sizeOf3 rfl rfl rfl ?_
        intro b70 o71 h72 hl73
        refine V_y (Y_load (El.int h72) Try.isAgg3 rfl) rfl rfl rfl ?_
        refine V_y (Y_move rfl) rfl rfl rfl ?_
        refine V_y (Y_lss rfl rfl) rfl rfl rfl ?_
        refine V_to (fun _ _ => rfl) ?_
        refine C_cond rfl (fun hc74 => ?_) (fun hc74 => ?_)
        · rw [if_pos hc74] at h58
          refine C_seq ?_
          refine C_region ?_
          refine V_y (Y_move rfl) rfl rfl rfl ?_
          refine V_y (Y_assign rfl) rfl rfl rfl ?_
          refine V_y (Y_assign rfl) rfl rfl rfl ?_
          refine V_to (fun _ _ => rfl) ?_
          obtain rfl := Option.some.inj h58
          obtain rfl := (h59 : Lp.rt _ = _)
          rw [Lp.andThen_rt] at hm
          obtain rfl := Option.some.inj hm
          refine C_ret fun a ha => ?_
          try simp only [↓inBlock_ret, ↓then_ret]
          exact ret2 ha Try.results21 rfl rfl ⟨v36, A38, rfl, h39, hK⟩
        · rw [if_neg (nt hc74)] at h58
          refine C_skip_to (fun _ _ => rfl) ?_
          refine C_region ?_
          refine V_y (Y_addI rfl rfl) rfl rfl rfl ?_
          refine V_y (Y_move rfl) rfl rfl rfl ?_
          obtain rfl := Option.some.inj h58
          exact V_end fun a ha => ⟨(), hlt61, h59, ⟨(), ha.sub ⟨rfl, rfl, rfl, rfl, rfl, rfl, rfl, (congrArg (fun z => some (Value.int .i64 z)) (w64_succ hlt61 (Sl.le h_demand))), trivial⟩, rfl⟩⟩
      · exact C_exit fun a ha => ⟨(), ha.sub ⟨rfl, rfl, rfl, rfl, rfl, trivial⟩, ⟨(h62 (eq_of_dec hle60 hc64)).symm, rfl⟩⟩
    rintro s48 _ ⟨rfl, rfl⟩ a ha54
    rw [Lp.andThen_fin] at hm
    refine C_at (fun _ _ => rfl) ?_ ha54
    refine C_seq ?_
    refine C_seq ?_
    refine C_region ?_
    refine V_y (Y_move rfl) rfl rfl rfl ?_
    refine V_y (Y_lenSl h_forms rfl Try.underlying27 rfl) rfl rfl rfl ?_
    refine V_y (Y_move rfl) rfl rfl rfl ?_
    refine V_to (fun _ _ => rfl) ?_
    obtain ⟨o80, ho80, hm⟩ := Option.bind_eq_some_iff.1 hm
    refine C_cutG (ι := ((List Int) × Value × (Nat → Prop))) (fun ⟨s81, v88, A90⟩ => [(10, v88)]) (fun ⟨s81, v88, A90⟩ => fun w' => o80 = .fin s81 ∧ Ow 3 w.heap.size A90 w' v88 s81 ∧ Tr w.heap.size A38 w37 A90 w') ?_ ?_
    · refine C_block ?_
      refine C_range ho80 (fun k84 s91 a w' => ∃ i : (Value × (Nat → Prop)), Has 98 a ([(1, v_demand), (2, v_plan), (9, v26), (10, i.1), (51, v_forms), (52, .int .i64 (forms.length : Int)), (53, .int .i64 (k84 : Int))]) ∧ Ow 3 w.heap.size i.2 w' i.1 s91 ∧ Ow 3 w.heap.size i.2 w' v26 x25 ∧ Dj i.1 v26.ownBlock ∧ Tr w.heap.size A38 w37 i.2 w') (fun a ha => ⟨(v36, A38), ha.sub ⟨rfl, rfl, rfl, rfl, rfl, rfl, rfl, trivial⟩, ⟨h39, h27, (Dj.symm dj42), Tr.refl hA⟩⟩) ?_
      rintro K k84 s91 a w92 ⟨⟨v93, A95⟩, ha200, h94, h27, dj96, hr83⟩ hle100 K103 h102
      refine C_of ?_ ha200
      replace h_demand := Sl.tr h_demand hr83
      replace h_plan := Sl.tr h_plan hr83
      replace h_forms := Sl.tr h_forms hr83
      replace hK := Tr.trans hK hr83
      replace hB := Nat.le_trans hB hr83.ex.size
      replace hA := hr83.new
      refine C_seq (C_region (V_y (Y_lss rfl rfl) rfl rfl rfl (V_to (fun _ _ => rfl) ?_)))
      refine C_seq ?_
      refine C_cond rfl (fun hc104 => ?_) (fun hc104 => ?_)
      · have hlt101 := lt_of_dec hc104
        obtain ⟨x97, h98, h99⟩ := K103 hlt101
        refine C_skip_to (fun _ _ => rfl) ?_
        refine C_seq ?_
        obtain ⟨s106, ho105, h98⟩ := Option.bind_eq_some_iff.1 h98
        refine C_cutG (ι := (Value × (Nat → Prop))) (fun ⟨v108, A113⟩ => [(1, v_demand), (2, v_plan), (9, v26), (10, v108), (51, v_forms), (52, .int .i64 (forms.length : Int)), (53, .int .i64 (k84 : Int))]) (fun ⟨v108, A113⟩ => fun w' => Ow 3 w.heap.size A113 w' v108 s106 ∧ Ow 3 w.heap.size A113 w' v26 x25 ∧ Dj v108 v26.ownBlock ∧ Tr w.heap.size A95 w92 A113 w') ?_ ?_
        · have hr107 : Tr w.heap.size A95 w92 A95 w92 := Tr.refl hA
          refine C_block ?_
          refine C_seq ?_
          refine C_region ?_
          refine V_y (Y_move rfl) rfl rfl rfl ?_
          obtain ⟨x115, hx115, ho105⟩ := Option.bind_eq_some_iff.1 ho105
          refine V_indexAddr h_forms hx115 Try.underlying27 Try.sizeOf65 rfl rfl rfl ?_
          intro b116 o117 h118
          obtain ⟨h119, _⟩ := El_staff_Form h118
          refine V_y (Y_loadA h119 Try.isAgg65 Try.sizeOf65 rfl) rfl rfl rfl ?_
          refine V_alloc Try.zeroValue65 rfl ?_
          intro b120 w121 h122
          refine V_y (Y_assign rfl) rfl rfl rfl ?_
          refine V_storeNew h122 Try.sizeOf65 rfl rfl rfl rfl (by simp [Value.cells, Value.oneCell']) ?_
          intro w123 h124
          have hk125 := h124.kp
          have h126 : El (α := staff_Form) A95 w123 b120 0 x115 := h124.el hA ⟨[.int .i64 x115.from_], _, rfl, rfl, rfl⟩
          have mv127 := Mv.kp (B := w.heap.size) hk125 hA
          replace h_demand := Sl.mv h_demand mv127
          replace h_plan := Sl.mv h_plan mv127
          replace h27 := Ow.mv h27 mv127 Dj.no
          replace h_forms := Sl.mv h_forms mv127
          replace h94 := Ow.mv h94 mv127 Dj.no
          replace h118 := El.mv h118 mv127
          replace hK := Tr.step hK mv127 hB
          replace hr83 := Tr.step hr83 mv127 hB
          replace hr107 := Tr.step hr107 mv127 hB
          replace hB := Nat.le_trans hB mv127.size
          replace hA := mv127.new
          refine V_to (fun _ _ => rfl) ?_
          refine C_seq ?_
          refine C_region ?_
          refine V_y (Y_move rfl) rfl rfl rfl ?_
          refine V_y (Y_move rfl) rfl rfl rfl ?_
          refine V_y (Y_move rfl) rfl rfl rfl ?_
          refine V_y (Y_move rfl) rfl rfl rfl ?_
          obtain ⟨x128, hx128, ho105⟩ := Option.bind_eq_some_iff.1 ho105
          refine V_indexAddr h_plan hx128 Try.underlying22 Try.sizeOf3 rfl rfl rfl ?_
          intro b129 o130 h131
          refine V_y (Y_load (El.int h131) Try.isAgg3 rfl) rfl rfl rfl ?_
          obtain ⟨x132, hx132, ho105⟩ := Option.bind_eq_some_iff.1 ho105
          refine V_indexAddrO h94 hx132 Try.underlying22 Try.sizeOf3 rfl rfl rfl ?_
          intro b133 o134 h135 hl136
          obtain ⟨x137, hx137, ho105⟩ := Option.bind_eq_some_iff.1 ho105
          refine V_storeO h94 hl136 hx137 rfl Try.sizeOf3 rfl hA rfl rfl ?_
          intro w138 h139 mv140
          replace h_demand := Sl.mv h_demand mv140
          replace h_plan := Sl.mv h_plan mv140
          replace h27 := Ow.mv h27 mv140 (Dj.symm dj96)
          replace h_forms := Sl.mv h_forms mv140
          replace h126 := El.mv h126 mv140
          replace h131 := El.mv h131 mv140
          replace hK := Tr.step hK mv140 hB
          replace hr83 := Tr.step hr83 mv140 hB
          replace hr107 := Tr.step hr107 mv140 hB
          replace hB := Nat.le_trans hB mv140.size
          replace hA := mv140.new
          refine V_to (fun _ _ => rfl) ?_
          refine C_seq ?_
          refine C_region ?_
          have h141 := El_staff_Form_0 h126
          refine V_y (Y_fieldAddr Try.underlying65 rfl Try.sizeOf3 (by decide) rfl) rfl rfl rfl ?_
          refine V_y (Y_load (El.int h141) Try.isAgg3 rfl) rfl rfl rfl ?_
          refine V_y (Y_assign rfl) rfl rfl rfl ?_
          refine V_to (fun _ _ => rfl) ?_
          obtain ⟨o142, ho142, ho105⟩ := Option.bind_eq_some_iff.1 ho105
          refine C_cutG (ι := (((List Int) × Int) × Value × (Nat → Prop))) (fun ⟨s143, v150, A152⟩ => [(1, v_demand), (2, v_plan), (9, v26), (10, v150), (51, v_forms), (52, .int .i64 (forms.length : Int)), (53, .int .i64 (k84 : Int))]) (fun ⟨s143, v150, A152⟩ => fun w' => o142 = .fin s143 ∧ Ow 3 w.heap.size A152 w' v150 s143.1 ∧ Ow 3 w.heap.size A152 w' v26 x25 ∧ Dj v150 v26.ownBlock ∧ Tr w.heap.size A95 w138 A152 w') ?_ ?_
          · refine C_block ?_
            refine C_while ho142 (fun s154 a w' => ∃ i : (Value × (Nat → Prop)), Has 98 a ([(1, v_demand), (2, v_plan), (9, v26), (10, i.1), (13, .int .i64 (k84 : Int)), (14, .pointer (some ⟨b120, 0, none⟩)), (15, .int .i64 s154.2), (51, v_forms), (52, .int .i64 (forms.length : Int)), (53, .int .i64 (k84 : Int))]) ∧ Ow 3 w.heap.size i.2 w' i.1 s154.1 ∧ Ow 3 w.heap.size i.2 w' v26 x25 ∧ Dj i.1 v26.ownBlock ∧ Tr w.heap.size A95 w138 i.2 w') (fun a ha => ⟨(v93, A95), ha.sub ⟨rfl, rfl, rfl, rfl, rfl, rfl, rfl, rfl, rfl, rfl, trivial⟩, ⟨h139, h27, dj96, Tr.refl hA⟩⟩) ?_
            rintro K s154 a w155 ⟨⟨v156, A158⟩, ha199, h157, h27, dj159, hr145⟩ K166
            refine C_of ?_ ha199
            replace h_demand := Sl.tr h_demand hr145
            replace h_plan := Sl.tr h_plan hr145
            replace h_forms := Sl.tr h_forms hr145
            replace h126 := El.tr h126 hr145
            replace hK := Tr.trans hK hr145
            replace hr83 := Tr.trans hr83 hr145
            replace hr107 := Tr.trans hr107 hr145
            replace hB := Nat.le_trans hB hr145.ex.size
            replace hA := hr145.new
            obtain ⟨x160, h161, h162⟩ := K166
            refine C_seq ?_
            refine C_seq ?_
            refine C_region ?_
            refine V_y (Y_move rfl) rfl rfl rfl ?_
            refine V_y (Y_move rfl) rfl rfl rfl ?_
            refine V_y (Y_lenSl h_demand rfl Try.underlying22 rfl) rfl rfl rfl ?_
            have h171 := El_staff_Form_0 h126
            refine V_y (Y_fieldAddr Try.underlying65 rfl Try.sizeOf3 (by decide) rfl) rfl rfl rfl ?_
            refine V_y (Y_load (El.int h171) Try.isAgg3 rfl) rfl rfl rfl ?_
            have h172 := El_staff_Form_1 h126
            refine V_y (Y_fieldAddr Try.underlying65 rfl Try.sizeOf3 (by decide) rfl) rfl rfl rfl ?_
            refine V_y (Y_load (El.int h172) Try.isAgg3 rfl) rfl rfl rfl ?_
            refine V_y (Y_addI rfl rfl) rfl rfl rfl ?_
            refine V_y (Y_min2 rfl rfl) rfl rfl rfl ?_
            refine V_y (Y_lss rfl rfl) rfl rfl rfl ?_
            refine V_to (fun _ _ => rfl) ?_
            refine C_cond rfl (fun hc173 => ?_) (fun hc173 => ?_)
            · rw [if_pos hc173] at h161
              refine C_skip_to (fun _ _ => rfl) ?_
              refine C_seq ?_
              refine C_block ?_
              refine C_region_qt 17 Try_mixed (by kernel_rfl) ?_
              simp only [List.take, List.drop]
              refine VQ_y (fun w' hw' => Y_move rfl) rfl rfl rfl ?_
              refine VQ_y (fun w' hw' => Y_move rfl) rfl rfl rfl ?_
              refine VQ_y (fun w' hw' => Y_move rfl) rfl rfl rfl ?_
              refine VQ_y (fun w' hw' => Y_move rfl) rfl rfl rfl ?_
              obtain ⟨x174, hx174, h161⟩ := Option.bind_eq_some_iff.1 h161
              refine VQ_indexAddrO h157 hx174 Try.underlying22 Try.sizeOf3 rfl rfl rfl ?_
              intro b175 o176 h177 hl178
              refine VQ_y (fun w' hw' => Y_load (El.int (El.kp h177 hw')) Try.isAgg3 rfl) rfl rfl rfl ?_
              refine VQ_y (fun w' hw' => Y_move rfl) rfl rfl rfl ?_
              refine VQ_y (fun w' hw' => Y_move rfl) rfl rfl rfl ?_
              obtain ⟨x179, hx179, h161⟩ := Option.bind_eq_some_iff.1 h161
              refine VQ_indexAddrO h27 hx179 Try.underlying22 Try.sizeOf3 rfl rfl rfl ?_
              intro b180 o181 h182 hl183
              refine VQ_y (fun w' hw' => Y_load (El.int (El.kp h182 hw')) Try.isAgg3 rfl) rfl rfl rfl ?_
              refine VQ_y (fun w' hw' => Y_move rfl) rfl rfl rfl ?_
              refine VQ_y (fun w' hw' => Y_move rfl) rfl rfl rfl ?_
              obtain ⟨x184, hx184, h161⟩ := Option.bind_eq_some_iff.1 h161
              refine VQ_indexAddr h_demand hx184 Try.underlying22 Try.sizeOf3 rfl rfl rfl ?_
              intro b185 o186 h187
              refine VQ_y (fun w' hw' => Y_load (El.int (El.kp h187 hw')) Try.isAgg3 rfl) rfl rfl rfl ?_
              refine VQ_y (fun w' hw' => Y_subI rfl rfl) rfl rfl rfl ?_
              refine VQ_y (fun w' hw' => Y_min2 rfl rfl) rfl rfl rfl ?_
              refine VQ_indexAddrO h157 hx174 Try.underlying22 Try.sizeOf3 rfl rfl rfl ?_
              intro b188 o189 h190 hl191
              refine VQ_tail (fun w192 hk193 => ?_)
              try simp only [List.take, List.drop]
              have mv194 := Mv.kp (B := w.heap.size) hk193 hA
              replace h_demand := Sl.mv h_demand mv194
              replace h_plan := Sl.mv h_plan mv194
              replace h27 := Ow.mv h27 mv194 Dj.no
              replace h_forms := Sl.mv h_forms mv194
              replace h126 := El.mv h126 mv194
              replace h157 := Ow.mv h157 mv194 Dj.no
              replace h177 := El.kp h177 hk193
              replace h182 := El.kp h182 hk193
              replace h187 := El.mv h187 mv194
              replace h190 := El.kp h190 hk193
              replace hK := Tr.step hK mv194 hB
              replace hr83 := Tr.step hr83 mv194 hB
              replace hr107 := Tr.step hr107 mv194 hB
              replace hr145 := Tr.step hr145 mv194 hB
              replace hB := Nat.le_trans hB mv194.size
              replace hA := mv194.new
              obtain ⟨x195, hx195, h161⟩ := Option.bind_eq_some_iff.1 h161
              refine V_storeO h157 hl191 hx195 rfl Try.sizeOf3 rfl hA rfl rfl ?_
              intro w196 h197 mv198
              replace h_demand := Sl.mv h_demand mv198
              replace h_plan := Sl.mv h_plan mv198
              replace h27 := Ow.mv h27 mv198 (Dj.symm dj159)
              replace h_forms := Sl.mv h_forms mv198
              replace h126 := El.mv h126 mv198
              replace h187 := El.mv h187 mv198
              replace hK := Tr.step hK mv198 hB
              replace hr83 := Tr.step hr83 mv198 hB
              replace hr107 := Tr.step hr107 mv198 hB
              replace hr145 := Tr.step hr145 mv198 hB
              replace hB := Nat.le_trans hB mv198.size
              replace hA := mv198.new
              refine V_to (fun _ _ => rfl) ?_
              refine C_region ?_
              refine V_y (Y_move rfl) rfl rfl rfl ?_
              refine V_y (Y_addI rfl rfl) rfl rfl rfl ?_
              refine V_y (Y_assign rfl) rfl rfl rfl ?_
              obtain rfl := Option.some.inj h161
              exact V_end fun a ha => ⟨(x195, w64 (s154.2 + 1)), h162, ⟨(v156, A158), ha.sub ⟨rfl, rfl, rfl, rfl, rfl, rfl, rfl, rfl, rfl, rfl, trivial⟩, ⟨h197, h27, dj159, hr145⟩⟩⟩
            · rw [if_neg (nt hc173)] at h161
              obtain rfl := Option.some.inj h161
              exact C_exit fun a ha => ⟨((s154.1, s154.2), v156, A158), ha.sub ⟨rfl, rfl, rfl, rfl, rfl, rfl, rfl, trivial⟩, ⟨h162.symm, h157, h27, dj159, hr145⟩⟩
          rintro ⟨s143, v150, A152⟩ w147 ⟨rfl, h151, h27, dj153, hk148⟩ a ha149
          rw [Lp.andThen_fin] at ho105
          replace h_demand := Sl.tr h_demand hk148
          replace h_plan := Sl.tr h_plan hk148
          replace h_forms := Sl.tr h_forms hk148
          replace hK := Tr.trans hK hk148
          replace hr83 := Tr.trans hr83 hk148
          replace hr107 := Tr.trans hr107 hk148
          replace hB := Nat.le_trans hB hk148.ex.size
          replace hA := hk148.new
          obtain rfl := Option.some.inj ho105
          exact ⟨(v150, A152), ha149.sub ⟨rfl, rfl, rfl, rfl, rfl, rfl, rfl, trivial⟩, ⟨h151, h27, dj153, hr107⟩⟩
        rintro ⟨v108, A113⟩ w110 ⟨h109, h27, dj114, hk111⟩ a ha112
        replace h_demand := Sl.tr h_demand hk111
        replace h_plan := Sl.tr h_plan hk111
        replace h_forms := Sl.tr h_forms hk111
        replace hK := Tr.trans hK hk111
        replace hr83 := Tr.trans hr83 hk111
        replace hB := Nat.le_trans hB hk111.ex.size
        replace hA := hk111.new
        refine C_at (fun _ _ => rfl) ?_ ha112
        refine C_region ?_
        refine V_y (Y_addI rfl rfl) rfl rfl rfl ?_
        refine V_y (Y_move rfl) rfl rfl rfl ?_
        obtain rfl := Option.some.inj h98
        exact V_end fun a ha => ⟨s106, hlt101, h99, ⟨(v108, A113), ha.sub ⟨rfl, rfl, rfl, rfl, rfl, rfl, (congrArg (fun z => some (Value.int .i64 z)) (w64_succ hlt101 (Sl.le h_forms))), trivial⟩, ⟨h109, h27, dj114, hr83⟩⟩⟩
      · exact C_exit fun a ha => ⟨(s91, v93, A95), ha.sub ⟨rfl, trivial⟩, ⟨(h102 (eq_of_dec hle100 hc104)).symm, h94, hr83⟩⟩
    rintro ⟨s81, v88, A90⟩ w85 ⟨rfl, h89, hk86⟩ a ha87
    rw [Lp.andThen_fin] at hm
    replace hK := Tr.trans hK hk86
    replace hB := Nat.le_trans hB hk86.ex.size
    replace hA := hk86.new
    refine C_at (fun _ _ => rfl) ?_ ha87
    refine C_seq ?_
    refine C_region ?_
    refine V_y (Y_move rfl) rfl rfl rfl ?_
    refine V_y (Y_assign rfl) rfl rfl rfl ?_
    refine V_y (Y_assign rfl) rfl rfl rfl ?_
    refine V_to (fun _ _ => rfl) ?_
    obtain rfl := Option.some.inj hm
    refine C_ret fun a ha => ?_
    try simp only [↓inBlock_ret, ↓then_ret]
    exact ret2 ha Try.results21 rfl rfl ⟨v88, A90, rfl, h89, hK⟩

set_option maxRecDepth 4000 in
theorem portref2_FormsFault_c (w : World) {A : Nat → Prop} (hA : ∀ b, w.heap.size ≤ b → A b) (l : (List staff_Form)) (v_l : Value) (h_l : Sl A w v_l l) {r : Int} (hm : portref2_FormsFault l = some r) : Ret Try.prog 20 #[v_l] w fun v w' => v = .int .i64 r ∧ Kp w w' := by
  unfold portref2_FormsFault at hm
  refine enter Try.func20 rfl Try.ntmps20 rfl ?_
  have hK := Kp.refl w
  refine C_seq ?_
  refine C_region ?_
  refine V_y (Y_assign rfl) rfl rfl rfl ?_
  refine V_to (fun _ _ => rfl) ?_
  refine C_seq ?_
  refine C_seq ?_
  refine C_region ?_
  refine V_y (Y_move rfl) rfl rfl rfl ?_
  refine V_y (Y_lenSl h_l rfl Try.underlying27 rfl) rfl rfl rfl ?_
  refine V_y (Y_gtr rfl rfl) rfl rfl rfl ?_
  refine V_to (fun _ _ => rfl) ?_
  refine C_cond rfl (fun hc7 => ?_) (fun hc7 => ?_)
  · rw [if_pos hc7] at hm
    refine C_seq ?_
    refine C_region ?_
    refine V_y (Y_assign rfl) rfl rfl rfl ?_
    refine V_to (fun _ _ => rfl) ?_
    obtain rfl := Option.some.inj hm
    refine C_ret fun a ha => ?_
    try simp only [↓inBlock_ret, ↓then_ret]
    exact ret1 ha Try.results20 rfl ⟨rfl, hK⟩
  · rw [if_neg (nt hc7)] at hm
    refine C_skip_to (fun _ _ => rfl) ?_
    refine C_seq ?_
    refine C_seq ?_
    refine C_region ?_
    refine V_y (Y_move rfl) rfl rfl rfl ?_
    refine V_y (Y_lenSl h_l rfl Try.underlying27 rfl) rfl rfl rfl ?_
    refine V_y (Y_move rfl) rfl rfl rfl ?_
    refine V_to (fun _ _ => rfl) ?_
    obtain ⟨o12, ho12, hm⟩ := Option.bind_eq_some_iff.1 hm
    refine C_cutG (ι := Unit) (fun (s13 : Unit) => []) (fun (s13 : Unit) => fun w' => o12 = .fin s13 ∧ Kp w w') ?_ ?_
    · refine C_block ?_
      refine C_range ho12 (fun k16 _ a w' => ∃ i : Unit, Has 62 a ([(0, v_l), (8, v_l), (9, .int .i64 (l.length : Int)), (10, .int .i64 (k16 : Int))]) ∧ Kp w w') (fun a ha => ⟨(), ha.sub ⟨rfl, rfl, rfl, rfl, trivial⟩, Kp.refl _⟩) ?_
      rintro K k16 _ a w21 ⟨_, ha85, hr15⟩ hle25 K28 h27
      refine C_of ?_ ha85
      replace h_l := h_l.kp hr15
      replace hK := Kp.trans hK hr15
      replace hA : ∀ b, w21.heap.size ≤ b → A b := fun b hb => hA b (Nat.le_trans hr15.size hb)
      refine C_seq (C_region (V_y (Y_lss rfl rfl) rfl rfl rfl (V_to (fun _ _ => rfl) ?_)))
      refine C_seq ?_
      refine C_cond rfl (fun hc29 => ?_) (fun hc29 => ?_)
      · have hlt26 := lt_of_dec hc29
        obtain ⟨x22, h23, h24⟩ := K28 hlt26
        refine C_skip_to (fun _ _ => rfl) ?_
        refine C_seq ?_
        refine C_block ?_
        refine C_seq ?_
        refine C_region ?_
        refine V_y (Y_move rfl) rfl rfl rfl ?_
        obtain ⟨x30, hx30, h23⟩ := Option.bind_eq_some_iff.1 h23
        refine V_indexAddr h_l hx30 Try.underlying27 Try.sizeOf65 rfl rfl rfl ?_
        intro b31 o32 h33
        obtain ⟨h34, _⟩ := El_staff_Form h33
        refine V_y (Y_loadA h34 Try.isAgg65 Try.sizeOf65 rfl) rfl rfl rfl ?_
        refine V_alloc Try.zeroValue65 rfl ?_
        intro b35 w36 h37
        refine V_y (Y_assign rfl) rfl rfl rfl ?_
        refine V_storeNew h37 Try.sizeOf65 rfl rfl rfl rfl (by simp [Value.cells, Value.oneCell']) ?_
        intro w38 h39
        have hk40 := h39.kp
        have h41 : El (α := staff_Form) A w38 b35 0 x30 := h39.el hA ⟨[.int .i64 x30.from_], _, rfl, rfl, rfl⟩
        replace h_l := h_l.kp hk40
        replace h33 := h33.kp hk40
        replace hK := Kp.trans hK hk40
        replace hr15 := Kp.trans hr15 hk40
        replace hA : ∀ b, w38.heap.size ≤ b → A b := fun b hb => hA b (Nat.le_trans hk40.size hb)
        refine V_to (fun _ _ => rfl) ?_
        refine C_seq ?_
        refine C_seq ?_
        refine C_region ?_
        have h42 := El_staff_Form_0 h41
        refine V_y (Y_fieldAddr Try.underlying65 rfl Try.sizeOf3 (by decide) rfl) rfl rfl rfl ?_
        refine V_y (Y_load (El.int h42) Try.isAgg3 rfl) rfl rfl rfl ?_
        refine V_y (Y_lss rfl rfl) rfl rfl rfl ?_
        refine V_y (Y_move rfl) rfl rfl rfl ?_
        refine V_cut 4 (fun _ : Unit => [(0, v_l), (3, .int .i64 (k16 : Int)), (4, .pointer (some ⟨b35, 0, none⟩)), (8, v_l), (9, .int .i64 (l.length : Int)), (10, .int .i64 (k16 : Int)), (22, .bool ((decide (x30.from_ < 0)) || (decide ((400 : Int) ≤ x30.from_))))]) (fun _ w' => w38 = w') ?_ ?_
        · simp only [List.take, List.drop]
          rcases Bool.eq_false_or_eq_true (decide (x30.from_ < 0)) with hc43 | hc43
          · refine V_gn rfl rfl rfl hc43 rfl rfl rfl ?_
            refine V_gn rfl rfl rfl hc43 rfl rfl rfl ?_
            refine V_gn rfl rfl rfl hc43 rfl rfl rfl ?_
            refine V_y (Y_pick_te rfl hc43 rfl) rfl rfl rfl ?_
            exact V_end fun a ha => ⟨(), ha.sub ⟨rfl, rfl, rfl, rfl, rfl, rfl, (by rw [hc43]; rfl), trivial⟩, rfl⟩
          · refine V_ge rfl rfl rfl hc43 ?_
            have h46 := El_staff_Form_0 h41
            refine V_y (Y_fieldAddr Try.underlying65 rfl Try.sizeOf3 (by decide) rfl) rfl rfl rfl ?_
            refine V_ge rfl rfl rfl hc43 ?_
            refine V_y (Y_load (El.int h46) Try.isAgg3 rfl) rfl rfl rfl ?_
            refine V_ge rfl rfl rfl hc43 ?_
            refine V_y (Y_geq rfl rfl) rfl rfl rfl ?_
            refine V_y (Y_pick_fe rfl hc43 rfl) rfl rfl rfl ?_
            exact V_end fun a ha => ⟨(), ha.sub ⟨rfl, rfl, rfl, rfl, rfl, rfl, (by rw [hc43]; rfl), trivial⟩, rfl⟩
        simp only [List.take, List.drop]
        rintro _ _ rfl
        refine V_y (Y_move rfl) rfl rfl rfl ?_
        refine V_cut 4 (fun _ : Unit => [(0, v_l), (3, .int .i64 (k16 : Int)), (4, .pointer (some ⟨b35, 0, none⟩)), (8, v_l), (9, .int .i64 (l.length : Int)), (10, .int .i64 (k16 : Int)), (27, .bool (((decide (x30.from_ < 0)) || (decide ((400 : Int) ≤ x30.from_))) || (decide (x30.slots < 1))))]) (fun _ w' => w38 = w') ?_ ?_
        · simp only [List.take, List.drop]
          rcases Bool.eq_false_or_eq_true (((decide (x30.from_ < 0)) || (decide ((400 : Int) ≤ x30.from_)))) with hc47 | hc47
          · refine V_gn rfl rfl rfl hc47 rfl rfl rfl ?_
            refine V_gn rfl rfl rfl hc47 rfl rfl rfl ?_
            refine V_gn rfl rfl rfl hc47 rfl rfl rfl ?_
            refine V_y (Y_pick_te rfl hc47 rfl) rfl rfl rfl ?_
            exact V_end fun a ha => ⟨(), ha.sub ⟨rfl, rfl, rfl, rfl, rfl, rfl, (by rw [hc47]; rfl), trivial⟩, rfl⟩
          · refine V_ge rfl rfl rfl hc47 ?_
            have h50 := El_staff_Form_1 h41
            refine V_y (Y_fieldAddr Try.underlying65 rfl Try.sizeOf3 (by decide) rfl) rfl rfl rfl ?_
            refine V_ge rfl rfl rfl hc47 ?_
            refine V_y (Y_load (El.int h50) Try.isAgg3 rfl) rfl rfl rfl ?_
            refine V_ge rfl rfl rfl hc47 ?_
            refine V_y (Y_lss rfl rfl) rfl rfl rfl ?_
            refine V_y (Y_pick_fe rfl hc47 rfl) rfl rfl rfl ?_
            exact V_end fun a ha => ⟨(), ha.sub ⟨rfl, rfl, rfl, rfl, rfl, rfl, (by rw [hc47]; rfl), trivial⟩, rfl⟩
        simp only [List.take, List.drop]
        rintro _ _ rfl
        refine V_y (Y_move rfl) rfl rfl rfl ?_
        refine V_cut 7 (fun _ : Unit => [(0, v_l), (3, .int .i64 (k16 : Int)), (4, .pointer (some ⟨b35, 0, none⟩)), (8, v_l), (9, .int .i64 (l.length : Int)), (10, .int .i64 (k16 : Int)), (35, .bool ((((decide (x30.from_ < 0)) || (decide ((400 : Int) ≤ x30.from_))) || (decide (x30.slots < 1))) || (decide ((w64 (400 - x30.from_)) < x30.slots))))]) (fun _ w' => w38 = w') ?_ ?_
        · simp only [List.take, List.drop]
          rcases Bool.eq_false_or_eq_true ((((decide (x30.from_ < 0)) || (decide ((400 : Int) ≤ x30.from_))) || (decide (x30.slots < 1)))) with hc51 | hc51
          · refine V_gn rfl rfl rfl hc51 rfl rfl rfl ?_
            refine V_gn rfl rfl rfl hc51 rfl rfl rfl ?_
            refine V_gn rfl rfl rfl hc51 rfl rfl rfl ?_
            refine V_gn rfl rfl rfl hc51 rfl rfl rfl ?_
            refine V_gn rfl rfl rfl hc51 rfl rfl rfl ?_
            refine V_gn rfl rfl rfl hc51 rfl rfl rfl ?_
            refine V_y (Y_pick_te rfl hc51 rfl) rfl rfl rfl ?_
            exact V_end fun a ha => ⟨(), ha.sub ⟨rfl, rfl, rfl, rfl, rfl, rfl, (by rw [hc51]; rfl), trivial⟩, rfl⟩
          · refine V_ge rfl rfl rfl hc51 ?_
            have h54 := El_staff_Form_1 h41
            refine V_y (Y_fieldAddr Try.underlying65 rfl Try.sizeOf3 (by decide) rfl) rfl rfl rfl ?_
            refine V_ge rfl rfl rfl hc51 ?_
            refine V_y (Y_load (El.int h54) Try.isAgg3 rfl) rfl rfl rfl ?_
            refine V_ge rfl rfl rfl hc51 ?_
            have h55 := El_staff_Form_0 h41
            refine V_y (Y_fieldAddr Try.underlying65 rfl Try.sizeOf3 (by decide) rfl) rfl rfl rfl ?_
            refine V_ge rfl rfl rfl hc51 ?_
            refine V_y (Y_load (El.int h55) Try.isAgg3 rfl) rfl rfl rfl ?_
            refine V_ge rfl rfl rfl hc51 ?_
            refine V_y (Y_subI rfl rfl) rfl rfl rfl ?_
            refine V_ge rfl rfl rfl hc51 ?_
            refine V_y (Y_gtr rfl rfl) rfl rfl rfl ?_
            refine V_y (Y_pick_fe rfl hc51 rfl) rfl rfl rfl ?_
            exact V_end fun a ha => ⟨(), ha.sub ⟨rfl, rfl, rfl, rfl, rfl, rfl, (by rw [hc51]; rfl), trivial⟩, rfl⟩
        simp only [List.take, List.drop]
        rintro _ _ rfl
        refine V_to (fun _ _ => rfl) ?_
        refine C_cond rfl (fun hc56 => ?_) (fun hc56 => ?_)
        · rw [if_pos hc56] at h23
          refine C_seq ?_
          refine C_region ?_
          refine V_y (Y_assign rfl) rfl rfl rfl ?_
          refine V_to (fun _ _ => rfl) ?_
          obtain rfl := Option.some.inj h23
          obtain rfl := (h24 : Lp.rt _ = _)
          rw [Lp.andThen_rt] at hm
          obtain rfl := Option.some.inj hm
          refine C_ret fun a ha => ?_
          try simp only [↓inBlock_ret, ↓then_ret]
          exact ret1 ha Try.results20 rfl ⟨rfl, hK⟩
        · rw [if_neg (nt hc56)] at h23
          refine C_skip_to (fun _ _ => rfl) ?_
          refine C_seq ?_
          obtain ⟨s58, ho57, h23⟩ := Option.bind_eq_some_iff.1 h23
          refine C_cutG (ι := Unit) (fun (_ : Unit) => [(0, v_l), (8, v_l), (9, .int .i64 (l.length : Int)), (10, .int .i64 (k16 : Int)), (60, .bool s58)]) (fun (_ : Unit) => fun w' => Kp w38 w') ?_ ?_
          · have hr59 := Kp.refl w38
            refine C_region_qt 21 Try_mixed (by kernel_rfl) ?_
            simp only [List.take, List.drop]
            refine VQ_y (fun w' hw' => Y_move rfl) rfl rfl rfl ?_
            refine VQ_y (fun w' hw' => Y_gtr rfl rfl) rfl rfl rfl ?_
            refine VQ_y (fun w' hw' => Y_move rfl) rfl rfl rfl ?_
            rcases Bool.eq_false_or_eq_true (decide ((0 : Int) < (k16 : Int))) with hc63 | hc63
            · rw [if_pos hc63] at ho57
              refine VQ_ge rfl rfl rfl hc63 ?_
              refine VQ_y (fun w' hw' => Y_move rfl) rfl rfl rfl ?_
              refine VQ_ge rfl rfl rfl hc63 ?_
              refine VQ_y (fun w' hw' => Y_move rfl) rfl rfl rfl ?_
              refine VQ_ge rfl rfl rfl hc63 ?_
              refine VQ_y (fun w' hw' => Y_subI rfl rfl) rfl rfl rfl ?_
              refine VQ_ge rfl rfl rfl hc63 ?_
              obtain ⟨x64, hx64, ho57⟩ := Option.bind_eq_some_iff.1 ho57
              refine VQ_indexAddr h_l hx64 Try.underlying27 Try.sizeOf65 rfl rfl rfl ?_
              intro b65 o66 h67
              refine VQ_ge rfl rfl rfl hc63 ?_
              have h68 := El_staff_Form_0 h67
              refine VQ_y (fun w' hw' => Y_fieldAddr Try.underlying65 rfl Try.sizeOf3 (by decide) rfl) rfl rfl rfl ?_
              refine VQ_ge rfl rfl rfl hc63 ?_
              refine VQ_y (fun w' hw' => Y_load (El.int (El.kp h68 hw')) Try.isAgg3 rfl) rfl rfl rfl ?_
              refine VQ_ge rfl rfl rfl hc63 ?_
              have h69 := El_staff_Form_0 h41
              refine VQ_y (fun w' hw' => Y_fieldAddr Try.underlying65 rfl Try.sizeOf3 (by decide) rfl) rfl rfl rfl ?_
              refine VQ_ge rfl rfl rfl hc63 ?_
              refine VQ_y (fun w' hw' => Y_load (El.int (El.kp h69 hw')) Try.isAgg3 rfl) rfl rfl rfl ?_
              refine VQ_ge rfl rfl rfl hc63 ?_
              refine VQ_call (.int .i64 (cmp_Compare_int x64.from_ x30.from_)) Try.call49 rfl rfl rfl rfl (fun w' hw' => (cmp_Compare_int_c w' x64.from_ x30.from_).mono (fun _ _ h => ⟨h.1, h.2 ▸ hw'⟩)) ?_
              refine VQ_ge rfl rfl rfl hc63 ?_
              refine VQ_y (fun w' hw' => Y_move rfl) rfl rfl rfl ?_
              refine VQ_ge rfl rfl rfl hc63 ?_
              refine VQ_y (fun w' hw' => Y_move rfl) rfl rfl rfl ?_
              refine VQ_ge rfl rfl rfl hc63 ?_
              refine VQ_y (fun w' hw' => Y_subI rfl rfl) rfl rfl rfl ?_
              refine VQ_ge rfl rfl rfl hc63 ?_
              refine VQ_indexAddr h_l hx64 Try.underlying27 Try.sizeOf65 rfl rfl rfl ?_
              intro b70 o71 h72
              refine VQ_ge rfl rfl rfl hc63 ?_
              have h73 := El_staff_Form_1 h72
              refine VQ_y (fun w' hw' => Y_fieldAddr Try.underlying65 rfl Try.sizeOf3 (by decide) rfl) rfl rfl rfl ?_
              refine VQ_ge rfl rfl rfl hc63 ?_
              refine VQ_y (fun w' hw' => Y_load (El.int (El.kp h73 hw')) Try.isAgg3 rfl) rfl rfl rfl ?_
              refine VQ_ge rfl rfl rfl hc63 ?_
              have h74 := El_staff_Form_1 h41
              refine VQ_y (fun w' hw' => Y_fieldAddr Try.underlying65 rfl Try.sizeOf3 (by decide) rfl) rfl rfl rfl ?_
              refine VQ_ge rfl rfl rfl hc63 ?_
              refine VQ_y (fun w' hw' => Y_load (El.int (El.kp h74 hw')) Try.isAgg3 rfl) rfl rfl rfl ?_
              refine VQ_ge rfl rfl rfl hc63 ?_
              refine VQ_call (.int .i64 (cmp_Compare_int x64.slots x30.slots)) Try.call49 rfl rfl rfl rfl (fun w' hw' => (cmp_Compare_int_c w' x64.slots x30.slots).mono (fun _ _ h => ⟨h.1, h.2 ▸ hw'⟩)) ?_
              refine VQ_tail (fun w75 hk76 => ?_)
              try simp only [List.take, List.drop]
              replace h_l := h_l.kp hk76
              replace h41 := h41.kp hk76
              replace h67 := h67.kp hk76
              replace h68 := h68.kp hk76
              replace h69 := h69.kp hk76
              replace h72 := h72.kp hk76
              replace h73 := h73.kp hk76
              replace h74 := h74.kp hk76
              replace hK := Kp.trans hK hk76
              replace hr15 := Kp.trans hr15 hk76
              replace hr59 := Kp.trans hr59 hk76
              replace hA : ∀ b, w75.heap.size ≤ b → A b := fun b hb => hA b (Nat.le_trans hk76.size hb)
              refine V_ge rfl rfl rfl hc63 ?_
              refine V_buildSlice (l := ([(cmp_Compare_int x64.from_ x30.from_), (cmp_Compare_int x64.slots x30.slots)] : List Int)) (len := 2) Try.underlying22 Try.sizeOf3 Try.zeroValue3 rfl (by with_unfolding_all rfl) (by decide) (by decide) hA ⟨[.int .i64 (cmp_Compare_int x64.from_ x30.from_)], _, rfl, rfl, ⟨[.int .i64 (cmp_Compare_int x64.slots x30.slots)], _, rfl, rfl, rfl⟩⟩ rfl rfl ?_
              intro v77 w78 hk80 h79
              replace h_l := h_l.kp hk80
              replace h41 := h41.kp hk80
              replace h67 := h67.kp hk80
              replace h68 := h68.kp hk80
              replace h69 := h69.kp hk80
              replace h72 := h72.kp hk80
              replace h73 := h73.kp hk80
              replace h74 := h74.kp hk80
              replace hK := Kp.trans hK hk80
              replace hr15 := Kp.trans hr15 hk80
              replace hr59 := Kp.trans hr59 hk80
              replace hA : ∀ b, w78.heap.size ≤ b → A b := fun b hb => hA b (Nat.le_trans hk80.size hb)
              refine V_ge rfl rfl rfl hc63 ?_
              obtain ⟨x81, hx81, ho57⟩ := Option.bind_eq_some_iff.1 ho57
              refine V_call Try.call48 rfl rfl rfl rfl (cmp_Or_int_c w78 ([(cmp_Compare_int x64.from_ x30.from_), (cmp_Compare_int x64.slots x30.slots)] : List Int) v77 h79 hx81) ?_
              rintro _ _ ⟨rfl, rfl⟩
              refine V_ge rfl rfl rfl hc63 ?_
              refine V_y (Y_geq rfl rfl) rfl rfl rfl ?_
              refine V_y (Y_pick_te rfl hc63 rfl) rfl rfl rfl ?_
              obtain rfl := Option.some.inj ho57
              exact V_end fun a ha => ⟨(), ha.sub ⟨rfl, rfl, rfl, rfl, rfl, trivial⟩, hr59⟩
            · rw [if_neg (nt hc63)] at ho57
              refine VQ_gn rfl rfl rfl hc63 rfl rfl rfl ?_
              refine VQ_gn rfl rfl rfl hc63 rfl rfl rfl ?_
              refine VQ_gn rfl rfl rfl hc63 rfl rfl rfl ?_
              refine VQ_gn rfl rfl rfl hc63 rfl rfl rfl ?_
              refine VQ_gn rfl rfl rfl hc63 rfl rfl rfl ?_
              refine VQ_gn rfl rfl rfl hc63 rfl rfl rfl ?_
              refine VQ_gn rfl rfl rfl hc63 rfl rfl rfl ?_
              refine VQ_gn rfl rfl rfl hc63 rfl rfl rfl ?_
              refine VQ_gn rfl rfl rfl hc63 rfl rfl rfl ?_
              refine VQ_gn rfl rfl rfl hc63 rfl rfl rfl ?_
              refine VQ_gn rfl rfl rfl hc63 rfl rfl rfl ?_
              refine VQ_gn rfl rfl rfl hc63 rfl rfl rfl ?_
              refine VQ_gn rfl rfl rfl hc63 rfl rfl rfl ?_
              refine VQ_gn rfl rfl rfl hc63 rfl rfl rfl ?_
              refine VQ_gn rfl rfl rfl hc63 rfl rfl rfl ?_
              refine VQ_gn rfl rfl rfl hc63 rfl rfl rfl ?_
              refine VQ_gn rfl rfl rfl hc63 rfl rfl rfl ?_
              refine VQ_gn rfl rfl rfl hc63 rfl rfl rfl ?_
              refine VQ_tail (fun w82 hk83 => ?_)
              try simp only [List.take, List.drop]
              replace h_l := h_l.kp hk83
              replace h41 := h41.kp hk83
              replace hK := Kp.trans hK hk83
              replace hr15 := Kp.trans hr15 hk83
              replace hr59 := Kp.trans hr59 hk83
              replace hA : ∀ b, w82.heap.size ≤ b → A b := fun b hb => hA b (Nat.le_trans hk83.size hb)
              refine V_gn rfl rfl rfl hc63 rfl rfl rfl ?_
              refine V_gn rfl rfl rfl hc63 rfl rfl rfl ?_
              refine V_gn rfl rfl rfl hc63 rfl rfl rfl ?_
              refine V_y (Y_pick_fe rfl hc63 rfl) rfl rfl rfl ?_
              obtain rfl := Option.some.inj ho57
              exact V_end fun a ha => ⟨(), ha.sub ⟨rfl, rfl, rfl, rfl, rfl, trivial⟩, hr59⟩
          rintro _ w60 hk61 a ha62
          replace h_l := h_l.kp hk61
          replace hK := Kp.trans hK hk61
          replace hr15 := Kp.trans hr15 hk61
          replace hA : ∀ b, w60.heap.size ≤ b → A b := fun b hb => hA b (Nat.le_trans hk61.size hb)
          refine C_at (fun _ _ => rfl) ?_ ha62
          refine C_cond rfl (fun hc84 => ?_) (fun hc84 => ?_)
          · rw [if_pos hc84] at h23
            refine C_seq ?_
            refine C_region ?_
            refine V_y (Y_assign rfl) rfl rfl rfl ?_
            refine V_to (fun _ _ => rfl) ?_
            obtain rfl := Option.some.inj h23
            obtain rfl := (h24 : Lp.rt _ = _)
            rw [Lp.andThen_rt] at hm
            obtain rfl := Option.some.inj hm
            refine C_ret fun a ha => ?_
            try simp only [↓inBlock_ret, ↓then_ret]
            exact ret1 ha Try.results20 rfl ⟨rfl, hK⟩
          · rw [if_neg (nt hc84)] at h23
            refine C_skip_to (fun _ _ => rfl) ?_
            refine C_region ?_
            refine V_y (Y_addI rfl rfl) rfl rfl rfl ?_
            refine V_y (Y_move rfl) rfl rfl rfl ?_
            obtain rfl := Option.some.inj h23
            exact V_end fun a ha => ⟨(), hlt26, h24, ⟨(), ha.sub ⟨rfl, rfl, rfl, (congrArg (fun z => some (Value.int .i64 z)) (w64_succ hlt26 (Sl.le h_l))), trivial⟩, hr15⟩⟩
      · exact C_exit fun a ha => ⟨(), ha.sub trivial, ⟨(h27 (eq_of_dec hle25 hc29)).symm, hr15⟩⟩
    rintro s13 w17 ⟨rfl, hk18⟩ a ha19
    rw [Lp.andThen_fin] at hm
    replace hK := Kp.trans hK hk18
    replace hA : ∀ b, w17.heap.size ≤ b → A b := fun b hb => hA b (Nat.le_trans hk18.size hb)
    refine C_at (fun _ _ => rfl) ?_ ha19
    refine C_seq ?_
    refine C_region ?_
    refine V_y (Y_assign rfl) rfl rfl rfl ?_
    refine V_to (fun _ _ => rfl) ?_
    obtain rfl := Option.some.inj hm
    refine C_ret fun a ha => ?_
    try simp only [↓inBlock_ret, ↓then_ret]
    exact ret1 ha Try.results20 rfl ⟨rfl, hK⟩

set_option maxRecDepth 4000 in
theorem slices_IndexFunc_Lint_int_c (w : World) {A : Nat → Prop} (hA : ∀ b, w.heap.size ≤ b → A b) (s : (List Int)) (v_s : Value) (h_s : Sl A w v_s s) (f : Int → Option Bool) (f_f : FuncId) (f_a f_c : Array Value) (f_call : ∀ (args : Array Value) (w : World), (callFunc f_f args).run Try.prog w = .ok (.enter f_f args) w) (f_spec : ∀ w1, Kp w w1 → ∀ (y0 : Int) (r : Bool), f y0 = some r → Ret Try.prog f_f (f_a ++ #[.int .i64 y0] ++ f_c) w1 fun v w' => v = .bool r ∧ Kp w1 w') {r : Int} (hm : slices_IndexFunc_Lint_int s f = some r) : Ret Try.prog 68 #[v_s, .func (.func f_f) f_a f_c] w fun v w' => v = .int .i64 r ∧ Kp w w' := by
  unfold slices_IndexFunc_Lint_int at hm
  refine enter Try.func68 rfl Try.ntmps68 rfl ?_
  have hK := Kp.refl w
  refine C_seq ?_
  refine C_region ?_
  refine V_y (Y_assign rfl) rfl rfl rfl ?_
  refine V_to (fun _ _ => rfl) ?_
  refine C_seq ?_
  refine C_seq ?_
  refine C_region ?_
  refine V_y (Y_move rfl) rfl rfl rfl ?_
  refine V_y (Y_lenSl h_s rfl Try.underlying22 rfl) rfl rfl rfl ?_
  refine V_y (Y_move rfl) rfl rfl rfl ?_
  refine V_to (fun _ _ => rfl) ?_
  obtain ⟨o7, ho7, hm⟩ := Option.bind_eq_some_iff.1 hm
  refine C_cutG (ι := Unit) (fun (s8 : Unit) => []) (fun (s8 : Unit) => fun w' => o7 = .fin s8 ∧ Kp w w') ?_ ?_
  · refine C_block ?_
    refine C_range ho7 (fun k11 _ a w' => ∃ i : Unit, Has 19 a ([(0, v_s), (1, .func (.func f_f) f_a f_c), (7, .int .i64 (s.length : Int)), (8, .int .i64 (k11 : Int))]) ∧ Kp w w') (fun a ha => ⟨(), ha.sub ⟨rfl, rfl, rfl, rfl, trivial⟩, Kp.refl _⟩) ?_
    rintro K k11 _ a w17 ⟨_, ha34, hr10⟩ hle21 K24 h23
    refine C_of ?_ ha34
    replace h_s := h_s.kp hr10
    replace hK := Kp.trans hK hr10
    replace hA : ∀ b, w17.heap.size ≤ b → A b := fun b hb => hA b (Nat.le_trans hr10.size hb)
    refine C_seq (C_region (V_y (Y_lss rfl rfl) rfl rfl rfl (V_to (fun _ _ => rfl) ?_)))
    refine C_seq ?_
    refine C_cond rfl (fun hc25 => ?_) (fun hc25 => ?_)
    · have hlt22 := lt_of_dec hc25
      obtain ⟨x18, h19, h20⟩ := K24 hlt22
      refine C_skip_to (fun _ _ => rfl) ?_
      refine C_seq ?_
      refine C_block ?_
      refine C_seq ?_
      refine C_region ?_
      refine V_y (Y_move rfl) rfl rfl rfl ?_
      refine V_y (Y_assign rfl) rfl rfl rfl ?_
      refine V_to (fun _ _ => rfl) ?_
      refine C_seq ?_
      refine C_region ?_
      refine V_y (Y_move rfl) rfl rfl rfl ?_
      refine V_y (Y_move rfl) rfl rfl rfl ?_
      refine V_y (Y_move rfl) rfl rfl rfl ?_
      obtain ⟨x26, hx26, h19⟩ := Option.bind_eq_some_iff.1 h19
      refine V_indexAddr h_s hx26 Try.underlying22 Try.sizeOf3 rfl rfl rfl ?_
      intro b27 o28 h29
      refine V_y (Y_load (El.int h29) Try.isAgg3 rfl) rfl rfl rfl ?_
      obtain ⟨x30, hx30, h19⟩ := Option.bind_eq_some_iff.1 h19
      refine V_call f_call rfl rfl rfl rfl (f_spec w17 hK x26 _ hx30) ?_
      rintro _ w31 ⟨rfl, hk32⟩
      replace h_s := h_s.kp hk32
      replace h29 := h29.kp hk32
      replace hK := Kp.trans hK hk32
      replace hr10 := Kp.trans hr10 hk32
      replace hA : ∀ b, w31.heap.size ≤ b → A b := fun b hb => hA b (Nat.le_trans hk32.size hb)
      refine V_to (fun _ _ => rfl) ?_
      refine C_cond rfl (fun hc33 => ?_) (fun hc33 => ?_)
      · rw [if_pos hc33] at h19
        refine C_seq ?_
        refine C_region ?_
        refine V_y (Y_move rfl) rfl rfl rfl ?_
        refine V_y (Y_assign rfl) rfl rfl rfl ?_
        refine V_to (fun _ _ => rfl) ?_
        obtain rfl := Option.some.inj h19
        obtain rfl := (h20 : Lp.rt _ = _)
        rw [Lp.andThen_rt] at hm
        obtain rfl := Option.some.inj hm
        refine C_ret fun a ha => ?_
        try simp only [↓inBlock_ret, ↓then_ret]
        exact ret1 ha Try.results68 rfl ⟨rfl, hK⟩
      · rw [if_neg (nt hc33)] at h19
        refine C_skip_to (fun _ _ => rfl) ?_
        refine C_region ?_
        refine V_y (Y_addI rfl rfl) rfl rfl rfl ?_
        refine V_y (Y_move rfl) rfl rfl rfl ?_
        obtain rfl := Option.some.inj h19
        exact V_end fun a ha => ⟨(), hlt22, h20, ⟨(), ha.sub ⟨rfl, rfl, rfl, (congrArg (fun z => some (Value.int .i64 z)) (w64_succ hlt22 (Sl.le h_s))), trivial⟩, hr10⟩⟩
    · exact C_exit fun a ha => ⟨(), ha.sub trivial, ⟨(h23 (eq_of_dec hle21 hc25)).symm, hr10⟩⟩
  rintro s8 w12 ⟨rfl, hk13⟩ a ha14
  rw [Lp.andThen_fin] at hm
  replace hK := Kp.trans hK hk13
  replace hA : ∀ b, w12.heap.size ≤ b → A b := fun b hb => hA b (Nat.le_trans hk13.size hb)
  refine C_at (fun _ _ => rfl) ?_ ha14
  refine C_seq ?_
  refine C_region ?_
  refine V_y (Y_assign rfl) rfl rfl rfl ?_
  refine V_to (fun _ _ => rfl) ?_
  obtain rfl := Option.some.inj hm
  refine C_ret fun a ha => ?_
  try simp only [↓inBlock_ret, ↓then_ret]
  exact ret1 ha Try.results68 rfl ⟨rfl, hK⟩

set_option maxRecDepth 4000 in
theorem slices_ContainsFunc_Lint_int_c (w : World) {A : Nat → Prop} (hA : ∀ b, w.heap.size ≤ b → A b) (s : (List Int)) (v_s : Value) (h_s : Sl A w v_s s) (f : Int → Option Bool) (f_f : FuncId) (f_a f_c : Array Value) (f_call : ∀ (args : Array Value) (w : World), (callFunc f_f args).run Try.prog w = .ok (.enter f_f args) w) (f_spec : ∀ w1, Kp w w1 → ∀ (y0 : Int) (r : Bool), f y0 = some r → Ret Try.prog f_f (f_a ++ #[.int .i64 y0] ++ f_c) w1 fun v w' => v = .bool r ∧ Kp w1 w') {r : Bool} (hm : slices_ContainsFunc_Lint_int s f = some r) : Ret Try.prog 34 #[v_s, .func (.func f_f) f_a f_c] w fun v w' => v = .bool r ∧ Kp w w' := by
  unfold slices_ContainsFunc_Lint_int at hm
  refine enter Try.func34 rfl Try.ntmps34 rfl ?_
  have hK := Kp.refl w
  refine C_seq ?_
  refine C_region ?_
  refine V_y (Y_assign rfl) rfl rfl rfl ?_
  refine V_to (fun _ _ => rfl) ?_
  refine C_seq ?_
  refine C_region ?_
  refine V_y (Y_move rfl) rfl rfl rfl ?_
  refine V_y (Y_move rfl) rfl rfl rfl ?_
  obtain ⟨x3, hx3, hm⟩ := Option.bind_eq_some_iff.1 hm
  refine V_call Try.call68 rfl rfl rfl rfl (slices_IndexFunc_Lint_int_c w hA s v_s h_s f f_f f_a f_c f_call (fun w1 hk => f_spec w1 (Kp.trans hK hk)) hx3) ?_
  rintro _ w4 ⟨rfl, hk5⟩
  replace h_s := h_s.kp hk5
  replace hK := Kp.trans hK hk5
  replace hA : ∀ b, w4.heap.size ≤ b → A b := fun b hb => hA b (Nat.le_trans hk5.size hb)
  refine V_y (Y_geq rfl rfl) rfl rfl rfl ?_
  refine V_y (Y_assign rfl) rfl rfl rfl ?_
  refine V_to (fun _ _ => rfl) ?_
  obtain rfl := Option.some.inj hm
  refine C_ret fun a ha => ?_
  try simp only [↓inBlock_ret, ↓then_ret]
  exact ret1 ha Try.results34 rfl ⟨rfl, hK⟩

set_option maxRecDepth 4000 in
theorem portref2_outside_1_c (w : World) {A : Nat → Prop}  (n : Int) (p1 : Int) (b_p1 : Nat) (h_p1 : El A w b_p1 0 p1) {r : Bool} (hm : portref2_outside_1 n p1 = some r) : Ret Try.prog 71 #[.int .i64 n, .pointer (some ⟨b_p1, 0, none⟩)] w fun v w' => v = .bool r ∧ w = w' := by
  unfold portref2_outside_1 at hm
  refine enter Try.func71 rfl Try.ntmps71 rfl ?_
  refine C_seq ?_
  refine C_region ?_
  refine V_y (Y_assign rfl) rfl rfl rfl ?_
  refine V_to (fun _ _ => rfl) ?_
  refine C_seq ?_
  refine C_region ?_
  refine V_y (Y_move rfl) rfl rfl rfl ?_
  refine V_y (Y_lss rfl rfl) rfl rfl rfl ?_
  refine V_y (Y_move rfl) rfl rfl rfl ?_
  refine V_cut 4 (fun _ : Unit => [(10, .bool ((decide (n < 0)) || (decide (p1 < n))))]) (fun _ w' => w = w') ?_ ?_
  · simp only [List.take, List.drop]
    rcases Bool.eq_false_or_eq_true (decide (n < 0)) with hc1 | hc1
    · refine V_gn rfl rfl rfl hc1 rfl rfl rfl ?_
      refine V_gn rfl rfl rfl hc1 rfl rfl rfl ?_
      refine V_gn rfl rfl rfl hc1 rfl rfl rfl ?_
      refine V_y (Y_pick_te rfl hc1 rfl) rfl rfl rfl ?_
      exact V_end fun a ha => ⟨(), ha.sub ⟨(by rw [hc1]; rfl), trivial⟩, rfl⟩
    · refine V_ge rfl rfl rfl hc1 ?_
      refine V_y (Y_move rfl) rfl rfl rfl ?_
      refine V_ge rfl rfl rfl hc1 ?_
      refine V_y (Y_load (El.int h_p1) Try.isAgg3 rfl) rfl rfl rfl ?_
      refine V_ge rfl rfl rfl hc1 ?_
      refine V_y (Y_gtr rfl rfl) rfl rfl rfl ?_
      refine V_y (Y_pick_fe rfl hc1 rfl) rfl rfl rfl ?_
      exact V_end fun a ha => ⟨(), ha.sub ⟨(by rw [hc1]; rfl), trivial⟩, rfl⟩
  simp only [List.take, List.drop]
  rintro _ _ rfl
  refine V_y (Y_assign rfl) rfl rfl rfl ?_
  refine V_to (fun _ _ => rfl) ?_
  obtain rfl := Option.some.inj hm
  refine C_ret fun a ha => ?_
  try simp only [↓inBlock_ret, ↓then_ret]
  exact ret1 ha Try.results71 rfl ⟨rfl, rfl⟩

set_option maxRecDepth 4000 in
theorem portref2_outside_c (w : World) {A : Nat → Prop} (hA : ∀ b, w.heap.size ≤ b → A b) (l : (List Int)) (v_l : Value) (h_l : Sl A w v_l l) (most : Int) {r : Bool} (hm : portref2_outside l most = some r) : Ret Try.prog 44 #[v_l, .int .i64 most] w fun v w' => v = .bool r ∧ Kp w w' := by
  unfold portref2_outside at hm
  refine enter Try.func44 rfl Try.ntmps44 rfl ?_
  have hK := Kp.refl w
  refine C_seq ?_
  refine C_region ?_
  refine V_box rfl rfl ?_
  intro b3 w4 h5
  have hk6 := h5.kp
  have h7 : El (α := Int) A w4 b3 0 most := h5.el hA rfl
  replace h_l := h_l.kp hk6
  replace hK := Kp.trans hK hk6
  replace hA : ∀ b, w4.heap.size ≤ b → A b := fun b hb => hA b (Nat.le_trans hk6.size hb)
  refine V_y (Y_assign rfl) rfl rfl rfl ?_
  refine V_to (fun _ _ => rfl) ?_
  refine C_seq ?_
  refine C_region ?_
  refine V_y (Y_move rfl) rfl rfl rfl ?_
  refine V_y (Y_makeFunc rfl rfl) rfl rfl rfl ?_
  obtain ⟨x9, hx9, hm⟩ := Option.bind_eq_some_iff.1 hm
  refine V_call Try.call34 rfl rfl rfl rfl (slices_ContainsFunc_Lint_int_c w4 hA l v_l h_l (fun y15 => portref2_outside_1 y15 most) 71 #[] #[.pointer (some ⟨b3, 0, none⟩)] Try.call71 (fun w13 hk14 y10 r11 h12 => (portref2_outside_1_c w13  y10 most b3 (El.kp h7 hk14) h12).mono (fun _ _ h => ⟨h.1, h.2 ▸ Kp.refl _⟩)) hx9) ?_
  rintro _ w17 ⟨rfl, hk18⟩
  replace h_l := h_l.kp hk18
  replace h7 := h7.kp hk18
  replace hK := Kp.trans hK hk18
  replace hA : ∀ b, w17.heap.size ≤ b → A b := fun b hb => hA b (Nat.le_trans hk18.size hb)
  refine V_y (Y_assign rfl) rfl rfl rfl ?_
  refine V_to (fun _ _ => rfl) ?_
  obtain rfl := Option.some.inj hm
  refine C_ret fun a ha => ?_
  try simp only [↓inBlock_ret, ↓then_ret]
  exact ret1 ha Try.results44 rfl ⟨rfl, hK⟩

set_option maxRecDepth 4000 in
theorem portref2_planAlone_c (w : World) {A : Nat → Prop} (hA : ∀ b, w.heap.size ≤ b → A b) (forms : (List staff_Form)) (v_forms : Value) (h_forms : Sl A w v_forms forms) (plan : (List Int)) (v_plan : Value) (h_plan : Sl A w v_plan plan) {r : Int} (hm : portref2_planAlone forms plan = some r) : Ret Try.prog 50 #[v_forms, v_plan] w fun v w' => v = .int .i64 r ∧ Kp w w' := by
  unfold portref2_planAlone at hm
  refine enter Try.func50 rfl Try.ntmps50 rfl ?_
  have hK := Kp.refl w
  refine C_seq ?_
  refine C_region ?_
  refine V_y (Y_assign rfl) rfl rfl rfl ?_
  refine V_to (fun _ _ => rfl) ?_
  refine C_seq ?_
  refine C_block ?_
  refine C_seq ?_
  refine C_region ?_
  refine V_y (Y_move rfl) rfl rfl rfl ?_
  refine V_y (Y_lenSl h_plan rfl Try.underlying22 rfl) rfl rfl rfl ?_
  refine V_y (Y_move rfl) rfl rfl rfl ?_
  refine V_y (Y_lenSl h_forms rfl Try.underlying27 rfl) rfl rfl rfl ?_
  refine V_y (Y_neq rfl rfl) rfl rfl rfl ?_
  refine V_y (Y_assign rfl) rfl rfl rfl ?_
  refine V_to (fun _ _ => rfl) ?_
  refine C_cond rfl (fun hc13 => ?_) (fun hc13 => ?_)
  · rw [if_pos hc13] at hm
    refine C_seq ?_
    refine C_region ?_
    refine V_y (Y_assign rfl) rfl rfl rfl ?_
    refine V_to (fun _ _ => rfl) ?_
    obtain rfl := Option.some.inj hm
    refine C_ret fun a ha => ?_
    try simp only [↓inBlock_ret, ↓then_ret]
    exact ret1 ha Try.results50 rfl ⟨rfl, hK⟩
  · rw [if_neg (nt hc13)] at hm
    refine C_seq ?_
    refine C_region ?_
    refine V_y (Y_move rfl) rfl rfl rfl ?_
    obtain ⟨x14, hx14, hm⟩ := Option.bind_eq_some_iff.1 hm
    refine V_call Try.call44 rfl rfl rfl rfl (portref2_outside_c w hA plan v_plan h_plan 60 hx14) ?_
    rintro _ w15 ⟨rfl, hk16⟩
    replace h_plan := h_plan.kp hk16
    replace hK := Kp.trans hK hk16
    replace hA : ∀ b, w15.heap.size ≤ b → A b := fun b hb => hA b (Nat.le_trans hk16.size hb)
    refine V_y (Y_assign rfl) rfl rfl rfl ?_
    refine V_to (fun _ _ => rfl) ?_
    refine C_cond rfl (fun hc17 => ?_) (fun hc17 => ?_)
    · rw [if_pos hc17] at hm
      refine C_seq ?_
      refine C_region ?_
      refine V_y (Y_assign rfl) rfl rfl rfl ?_
      refine V_to (fun _ _ => rfl) ?_
      obtain rfl := Option.some.inj hm
      refine C_ret fun a ha => ?_
      try simp only [↓inBlock_ret, ↓then_ret]
      exact ret1 ha Try.results50 rfl ⟨rfl, hK⟩
    · rw [if_neg (nt hc17)] at hm
      refine C_skip_to (fun _ _ => rfl) ?_
      refine C_seq ?_
      refine C_region ?_
      refine V_y (Y_assign rfl) rfl rfl rfl ?_
      refine V_to (fun _ _ => rfl) ?_
      obtain rfl := Option.some.inj hm
      refine C_ret fun a ha => ?_
      try simp only [↓inBlock_ret, ↓then_ret]
      exact ret1 ha Try.results50 rfl ⟨rfl, hK⟩

set_option maxRecDepth 4000 in
theorem portref2_demandFault_c (w : World) {A : Nat → Prop} (hA : ∀ b, w.heap.size ≤ b → A b) (l : (List Int)) (v_l : Value) (h_l : Sl A w v_l l) (most : Int) {r : Int} (hm : portref2_demandFault l most = some r) : Ret Try.prog 39 #[v_l, .int .i64 most] w fun v w' => v = .int .i64 r ∧ Kp w w' := by
  unfold portref2_demandFault at hm
  refine enter Try.func39 rfl Try.ntmps39 rfl ?_
  have hK := Kp.refl w
  refine C_seq ?_
  refine C_region ?_
  refine V_y (Y_assign rfl) rfl rfl rfl ?_
  refine V_to (fun _ _ => rfl) ?_
  refine C_seq ?_
  refine C_block ?_
  refine C_seq ?_
  refine C_region ?_
  refine V_y (Y_move rfl) rfl rfl rfl ?_
  refine V_y (Y_lenSl h_l rfl Try.underlying22 rfl) rfl rfl rfl ?_
  refine V_y (Y_gtr rfl rfl) rfl rfl rfl ?_
  refine V_y (Y_assign rfl) rfl rfl rfl ?_
  refine V_to (fun _ _ => rfl) ?_
  refine C_cond rfl (fun hc7 => ?_) (fun hc7 => ?_)
  · rw [if_pos hc7] at hm
    refine C_seq ?_
    refine C_region ?_
    refine V_y (Y_assign rfl) rfl rfl rfl ?_
    refine V_to (fun _ _ => rfl) ?_
    obtain rfl := Option.some.inj hm
    refine C_ret fun a ha => ?_
    try simp only [↓inBlock_ret, ↓then_ret]
    exact ret1 ha Try.results39 rfl ⟨rfl, hK⟩
  · rw [if_neg (nt hc7)] at hm
    refine C_seq ?_
    refine C_region ?_
    refine V_y (Y_move rfl) rfl rfl rfl ?_
    refine V_y (Y_move rfl) rfl rfl rfl ?_
    obtain ⟨x8, hx8, hm⟩ := Option.bind_eq_some_iff.1 hm
    refine V_call Try.call44 rfl rfl rfl rfl (portref2_outside_c w hA l v_l h_l most hx8) ?_
    rintro _ w9 ⟨rfl, hk10⟩
    replace h_l := h_l.kp hk10
    replace hK := Kp.trans hK hk10
    replace hA : ∀ b, w9.heap.size ≤ b → A b := fun b hb => hA b (Nat.le_trans hk10.size hb)
    refine V_y (Y_assign rfl) rfl rfl rfl ?_
    refine V_to (fun _ _ => rfl) ?_
    refine C_cond rfl (fun hc11 => ?_) (fun hc11 => ?_)
    · rw [if_pos hc11] at hm
      refine C_seq ?_
      refine C_region ?_
      refine V_y (Y_assign rfl) rfl rfl rfl ?_
      refine V_to (fun _ _ => rfl) ?_
      obtain rfl := Option.some.inj hm
      refine C_ret fun a ha => ?_
      try simp only [↓inBlock_ret, ↓then_ret]
      exact ret1 ha Try.results39 rfl ⟨rfl, hK⟩
    · rw [if_neg (nt hc11)] at hm
      refine C_skip_to (fun _ _ => rfl) ?_
      refine C_seq ?_
      refine C_region ?_
      refine V_y (Y_assign rfl) rfl rfl rfl ?_
      refine V_to (fun _ _ => rfl) ?_
      obtain rfl := Option.some.inj hm
      refine C_ret fun a ha => ?_
      try simp only [↓inBlock_ret, ↓then_ret]
      exact ret1 ha Try.results39 rfl ⟨rfl, hK⟩

set_option maxRecDepth 4000 in
theorem slices_Clone_Lint_int_c (w : World) {A : Nat → Prop} (hA : ∀ b, w.heap.size ≤ b → A b) (s : (List Int)) (v_s : Value) (h_s : Sl A w v_s s) {r : (List Int)} (hm : slices_Clone_Lint_int s = some r) : Ret Try.prog 51 #[v_s] w fun v w' => ∃ s0, ∃ A1 : Nat → Prop, v = s0 ∧ Ow 3 w.heap.size A1 w' s0 r ∧ Tr w.heap.size A w A1 w' := by
  unfold slices_Clone_Lint_int at hm
  refine enter Try.func51 rfl Try.ntmps51 rfl ?_
  have hA0 := hA
  have hB := Nat.le_refl w.heap.size
  have hK : Tr w.heap.size A w A w := Tr.refl hA
  rcases Sl.split h_s with ⟨rfl, rfl⟩ | ⟨a0, n0, c0, rfl⟩
  · replace hm : some ([] : (List Int)) = some r := by simpa [appendL] using hm
    refine C_seq ?_
    refine C_region ?_
    refine V_y (Y_assign rfl) rfl rfl rfl ?_
    refine V_to (fun _ _ => rfl) ?_
    refine C_seq ?_
    refine C_seq ?_
    refine C_region ?_
    refine V_y (Y_move rfl) rfl rfl rfl ?_
    refine V_y (Y_eqlNilT rfl rfl Try.underlying22) rfl rfl rfl ?_
    refine V_to (fun _ _ => rfl) ?_
    refine C_cond rfl (fun hc => ?_) (fun hc => ?_)
    · refine C_seq ?_
      refine C_region ?_
      refine V_y (Y_assign rfl) rfl rfl rfl ?_
      refine V_to (fun _ _ => rfl) ?_
      obtain rfl := Option.some.inj hm
      refine C_ret fun a ha => ?_
      try simp only [↓inBlock_ret, ↓then_ret]
      exact ret1 ha Try.results51 rfl ⟨.slice none 0 0, A, rfl, Ow.nil, hK⟩
    · exact absurd hc (by decide)
  · refine C_seq ?_
    refine C_region ?_
    refine V_y (Y_assign rfl) rfl rfl rfl ?_
    refine V_to (fun _ _ => rfl) ?_
    refine C_seq ?_
    refine C_seq ?_
    refine C_region ?_
    refine V_y (Y_move rfl) rfl rfl rfl ?_
    refine V_y (Y_eqlNilF rfl rfl Try.underlying22) rfl rfl rfl ?_
    refine V_to (fun _ _ => rfl) ?_
    refine C_cond rfl (fun hc => ?_) (fun hc => ?_)
    · exact absurd hc (by decide)
    · refine C_skip_to (fun _ _ => rfl) ?_
      refine C_seq ?_
      refine C_region ?_
      refine V_buildOwn0 (α := Int) (B := w.heap.size) (A := A) Try.underlying22 Try.sizeOf3 hB hA rfl ?_
      intro v3 w4 A5 h6 mv7 hp8
      replace h_s := Sl.mv h_s mv7
      replace hK := Tr.step hK mv7 hB
      replace hB := Nat.le_trans hB mv7.size
      replace hA := mv7.new
      refine V_y (Y_move rfl) rfl rfl rfl ?_
      obtain ⟨x9, hx9, hm⟩ := Option.bind_eq_some_iff.1 hm
      refine V_append (e := 3) (B := w.heap.size) (A := A5) (i := Try.t3) (bytes := 8) (lim := 17592186044416) h6 h_s hx9 Try.underlying22 Try_info3 rfl rfl rfl rfl (by decide) (by decide) (by decide) hB hA rfl rfl rfl ?_
      intro v10 w11 A12 h13 mv14 hp15
      replace h_s := Sl.mv h_s mv14
      replace hK := Tr.step hK mv14 hB
      replace hB := Nat.le_trans hB mv14.size
      replace hA := mv14.new
      refine V_y (Y_assign rfl) rfl rfl rfl ?_
      refine V_to (fun _ _ => rfl) ?_
      obtain rfl := Option.some.inj hm
      refine C_ret fun a ha => ?_
      try simp only [↓inBlock_ret, ↓then_ret]
      exact ret1 ha Try.results51 rfl ⟨v10, A12, rfl, h13, hK⟩

set_option maxRecDepth 4000 in
theorem portref2_cover_c (w : World) {A : Nat → Prop} (hA : ∀ b, w.heap.size ≤ b → A b) (forms : (List staff_Form)) (v_forms : Value) (h_forms : Sl A w v_forms forms) (slots : Int) (plan : (List Int)) (v_plan : Value) (h_plan : Sl A w v_plan plan) {r : (List Int)} (hm : portref2_cover forms slots plan = some r) : Ret Try.prog 43 #[v_forms, .int .i64 slots, v_plan] w fun v w' => ∃ s0, ∃ A1 : Nat → Prop, v = s0 ∧ Ow 3 w.heap.size A1 w' s0 r ∧ Tr w.heap.size A w A1 w' := by
  unfold portref2_cover at hm
  refine enter Try.func43 rfl Try.ntmps43 rfl ?_
  have hA0 := hA
  have hB := Nat.le_refl w.heap.size
  have hK : Tr w.heap.size A w A w := Tr.refl hA
  refine C_seq ?_
  refine C_region ?_
  refine V_y (Y_assign rfl) rfl rfl rfl ?_
  refine V_to (fun _ _ => rfl) ?_
  refine C_seq ?_
  refine C_region ?_
  refine V_y (Y_move rfl) rfl rfl rfl ?_
  obtain ⟨x5, hx5, hm⟩ := Option.bind_eq_some_iff.1 hm
  refine V_make (e := 3) (B := w.heap.size) (A := A) (i := Try.t3) hx5 (fun _ _ => rfl) Try.underlying22 Try_info3 rfl rfl rfl (by decide) (by decide) hB hA rfl rfl rfl ?_
  intro v6 w7 A8 h9 mv10 hp11
  replace h_forms := Sl.mv h_forms mv10
  replace h_plan := Sl.mv h_plan mv10
  replace hK := Tr.step hK mv10 hB
  replace hB := Nat.le_trans hB mv10.size
  replace hA := mv10.new
  refine V_y (Y_assign rfl) rfl rfl rfl ?_
  refine V_to (fun _ _ => rfl) ?_
  refine C_seq ?_
  refine C_seq ?_
  refine C_region ?_
  refine V_y (Y_move rfl) rfl rfl rfl ?_
  refine V_y (Y_lenSl h_forms rfl Try.underlying27 rfl) rfl rfl rfl ?_
  refine V_y (Y_move rfl) rfl rfl rfl ?_
  refine V_to (fun _ _ => rfl) ?_
  obtain ⟨o16, ho16, hm⟩ := Option.bind_eq_some_iff.1 hm
  refine C_cutG (ι := ((List Int) × Value × (Nat → Prop))) (fun ⟨s17, v24, A26⟩ => [(7, v24)]) (fun ⟨s17, v24, A26⟩ => fun w' => o16 = .fin s17 ∧ Ow 3 w.heap.size A26 w' v24 s17 ∧ Tr w.heap.size A8 w7 A26 w') ?_ ?_
  · refine C_block ?_
    refine C_range ho16 (fun k20 s27 a w' => ∃ i : (Value × (Nat → Prop)), Has 50 a ([(1, .int .i64 slots), (2, v_plan), (7, i.1), (13, v_forms), (14, .int .i64 (forms.length : Int)), (15, .int .i64 (k20 : Int))]) ∧ Ow 3 w.heap.size i.2 w' i.1 s27 ∧ Tr w.heap.size A8 w7 i.2 w') (fun a ha => ⟨(v6, A8), ha.sub ⟨rfl, rfl, rfl, rfl, rfl, rfl, trivial⟩, ⟨h9, Tr.refl hA⟩⟩) ?_
    rintro K k20 s27 a w28 ⟨⟨v29, A31⟩, ha132, h30, hr19⟩ hle35 K38 h37
    refine C_of ?_ ha132
    replace h_plan := Sl.tr h_plan hr19
    replace h_forms := Sl.tr h_forms hr19
    replace hK := Tr.trans hK hr19
    replace hB := Nat.le_trans hB hr19.ex.size
    replace hA := hr19.new
    refine C_seq (C_region (V_y (Y_lss rfl rfl) rfl rfl rfl (V_to (fun _ _ => rfl) ?_)))
    refine C_seq ?_
    refine C_cond rfl (fun hc39 => ?_) (fun hc39 => ?_)
    · have hlt36 := lt_of_dec hc39
      obtain ⟨x32, h33, h34⟩ := K38 hlt36
      refine C_skip_to (fun _ _ => rfl) ?_
      refine C_seq ?_
      obtain ⟨s41, ho40, h33⟩ := Option.bind_eq_some_iff.1 h33
      refine C_cutG (ι := (Value × (Nat → Prop))) (fun ⟨v43, A48⟩ => [(1, .int .i64 slots), (2, v_plan), (7, v43), (13, v_forms), (14, .int .i64 (forms.length : Int)), (15, .int .i64 (k20 : Int))]) (fun ⟨v43, A48⟩ => fun w' => Ow 3 w.heap.size A48 w' v43 s41 ∧ Tr w.heap.size A31 w28 A48 w') ?_ ?_
      · have hr42 : Tr w.heap.size A31 w28 A31 w28 := Tr.refl hA
        refine C_block ?_
        refine C_seq ?_
        refine C_region ?_
        refine V_y (Y_move rfl) rfl rfl rfl ?_
        obtain ⟨x49, hx49, ho40⟩ := Option.bind_eq_some_iff.1 ho40
        refine V_indexAddr h_forms hx49 Try.underlying27 Try.sizeOf65 rfl rfl rfl ?_
        intro b50 o51 h52
        obtain ⟨h53, _⟩ := El_staff_Form h52
        refine V_y (Y_loadA h53 Try.isAgg65 Try.sizeOf65 rfl) rfl rfl rfl ?_
        refine V_alloc Try.zeroValue65 rfl ?_
        intro b54 w55 h56
        refine V_y (Y_assign rfl) rfl rfl rfl ?_
        refine V_storeNew h56 Try.sizeOf65 rfl rfl rfl rfl (by simp [Value.cells, Value.oneCell']) ?_
        intro w57 h58
        have hk59 := h58.kp
        have h60 : El (α := staff_Form) A31 w57 b54 0 x49 := h58.el hA ⟨[.int .i64 x49.from_], _, rfl, rfl, rfl⟩
        have mv61 := Mv.kp (B := w.heap.size) hk59 hA
        replace h_plan := Sl.mv h_plan mv61
        replace h_forms := Sl.mv h_forms mv61
        replace h30 := Ow.mv h30 mv61 Dj.no
        replace h52 := El.mv h52 mv61
        replace hK := Tr.step hK mv61 hB
        replace hr19 := Tr.step hr19 mv61 hB
        replace hr42 := Tr.step hr42 mv61 hB
        replace hB := Nat.le_trans hB mv61.size
        replace hA := mv61.new
        refine V_to (fun _ _ => rfl) ?_
        refine C_seq ?_
        refine C_region ?_
        refine V_y (Y_move rfl) rfl rfl rfl ?_
        refine V_y (Y_move rfl) rfl rfl rfl ?_
        refine V_to (fun _ _ => rfl) ?_
        obtain ⟨o62, ho62, ho40⟩ := Option.bind_eq_some_iff.1 ho40
        refine C_cutG (ι := (((List Int) × Int) × Value × (Nat → Prop))) (fun ⟨s63, v70, A72⟩ => [(1, .int .i64 slots), (2, v_plan), (7, v70), (13, v_forms), (14, .int .i64 (forms.length : Int)), (15, .int .i64 (k20 : Int))]) (fun ⟨s63, v70, A72⟩ => fun w' => o62 = .fin s63 ∧ Ow 3 w.heap.size A72 w' v70 s63.1 ∧ Tr w.heap.size A31 w57 A72 w') ?_ ?_
        · refine C_block ?_
          refine C_while ho62 (fun s73 a w' => ∃ i : (Value × (Nat → Prop)), Has 50 a ([(1, .int .i64 slots), (2, v_plan), (7, i.1), (8, .int .i64 (k20 : Int)), (9, .pointer (some ⟨b54, 0, none⟩)), (13, v_forms), (14, .int .i64 (forms.length : Int)), (15, .int .i64 (k20 : Int)), (20, .int .i64 slots), (21, .int .i64 s73.2)]) ∧ Ow 3 w.heap.size i.2 w' i.1 s73.1 ∧ Tr w.heap.size A31 w57 i.2 w') (fun a ha => ⟨(v29, A31), ha.sub ⟨rfl, rfl, rfl, rfl, rfl, rfl, rfl, rfl, rfl, rfl, trivial⟩, ⟨h30, Tr.refl hA⟩⟩) ?_
          rintro K s73 a w74 ⟨⟨v75, A77⟩, ha131, h76, hr65⟩ K84
          refine C_of ?_ ha131
          replace h_plan := Sl.tr h_plan hr65
          replace h_forms := Sl.tr h_forms hr65
          replace h60 := El.tr h60 hr65
          replace hK := Tr.trans hK hr65
          replace hr19 := Tr.trans hr19 hr65
          replace hr42 := Tr.trans hr42 hr65
          replace hB := Nat.le_trans hB hr65.ex.size
          replace hA := hr65.new
          obtain ⟨x78, h79, h80⟩ := K84
          refine C_seq ?_
          refine C_region ?_
          refine V_y (Y_lss rfl rfl) rfl rfl rfl ?_
          refine V_to (fun _ _ => rfl) ?_
          refine C_seq ?_
          refine C_cond rfl (fun hc85 => ?_) (fun hc85 => ?_)
          · rw [if_pos hc85] at h79
            refine C_skip_to (fun _ _ => rfl) ?_
            refine C_seq ?_
            obtain ⟨s87, ho86, h79⟩ := Option.bind_eq_some_iff.1 h79
            refine C_cutG (ι := (Value × (Nat → Prop))) (fun ⟨v89, A94⟩ => [(1, .int .i64 slots), (2, v_plan), (7, v89), (8, .int .i64 (k20 : Int)), (9, .pointer (some ⟨b54, 0, none⟩)), (13, v_forms), (14, .int .i64 (forms.length : Int)), (15, .int .i64 (k20 : Int)), (20, .int .i64 slots), (21, .int .i64 s73.2)]) (fun ⟨v89, A94⟩ => fun w' => Ow 3 w.heap.size A94 w' v89 s87 ∧ Tr w.heap.size A77 w74 A94 w') ?_ ?_
            · have hr88 : Tr w.heap.size A77 w74 A77 w74 := Tr.refl hA
              refine C_block ?_
              refine C_seq ?_
              refine C_region ?_
              refine V_y (Y_move rfl) rfl rfl rfl ?_
              refine V_y (Y_assign rfl) rfl rfl rfl ?_
              refine V_to (fun _ _ => rfl) ?_
              refine C_seq ?_
              refine C_region ?_
              refine V_y (Y_move rfl) rfl rfl rfl ?_
              have h95 := El_staff_Form_0 h60
              refine V_y (Y_fieldAddr Try.underlying65 rfl Try.sizeOf3 (by decide) rfl) rfl rfl rfl ?_
              refine V_y (Y_load (El.int h95) Try.isAgg3 rfl) rfl rfl rfl ?_
              refine V_y (Y_geq rfl rfl) rfl rfl rfl ?_
              refine V_y (Y_move rfl) rfl rfl rfl ?_
              refine V_cut 8 (fun _ : Unit => [(1, .int .i64 slots), (2, v_plan), (7, v75), (8, .int .i64 (k20 : Int)), (9, .pointer (some ⟨b54, 0, none⟩)), (10, .int .i64 s73.2), (13, v_forms), (14, .int .i64 (forms.length : Int)), (15, .int .i64 (k20 : Int)), (20, .int .i64 slots), (21, .int .i64 s73.2), (36, .bool ((decide (x49.from_ ≤ s73.2)) && (decide (s73.2 < (w64 (x49.from_ + x49.slots))))))]) (fun _ w' => w74 = w') ?_ ?_
              · simp only [List.take, List.drop]
                rcases Bool.eq_false_or_eq_true (decide (x49.from_ ≤ s73.2)) with hc96 | hc96
                · refine V_ge rfl rfl rfl hc96 ?_
                  refine V_y (Y_move rfl) rfl rfl rfl ?_
                  refine V_ge rfl rfl rfl hc96 ?_
                  have h99 := El_staff_Form_0 h60
                  refine V_y (Y_fieldAddr Try.underlying65 rfl Try.sizeOf3 (by decide) rfl) rfl rfl rfl ?_
                  refine V_ge rfl rfl rfl hc96 ?_
                  refine V_y (Y_load (El.int h99) Try.isAgg3 rfl) rfl rfl rfl ?_
                  refine V_ge rfl rfl rfl hc96 ?_
                  have h100 := El_staff_Form_1 h60
                  refine V_y (Y_fieldAddr Try.underlying65 rfl Try.sizeOf3 (by decide) rfl) rfl rfl rfl ?_
                  refine V_ge rfl rfl rfl hc96 ?_
                  refine V_y (Y_load (El.int h100) Try.isAgg3 rfl) rfl rfl rfl ?_
                  refine V_ge rfl rfl rfl hc96 ?_
                  refine V_y (Y_addI rfl rfl) rfl rfl rfl ?_
                  refine V_ge rfl rfl rfl hc96 ?_
                  refine V_y (Y_lss rfl rfl) rfl rfl rfl ?_
                  refine V_y (Y_pick_te rfl hc96 rfl) rfl rfl rfl ?_
                  exact V_end fun a ha => ⟨(), ha.sub ⟨rfl, rfl, rfl, rfl, rfl, rfl, rfl, rfl, rfl, rfl, rfl, (by rw [hc96]; rfl), trivial⟩, rfl⟩
                · refine V_gn rfl rfl rfl hc96 rfl rfl rfl ?_
                  refine V_gn rfl rfl rfl hc96 rfl rfl rfl ?_
                  refine V_gn rfl rfl rfl hc96 rfl rfl rfl ?_
                  refine V_gn rfl rfl rfl hc96 rfl rfl rfl ?_
                  refine V_gn rfl rfl rfl hc96 rfl rfl rfl ?_
                  refine V_gn rfl rfl rfl hc96 rfl rfl rfl ?_
                  refine V_gn rfl rfl rfl hc96 rfl rfl rfl ?_
                  refine V_y (Y_pick_fe rfl hc96 rfl) rfl rfl rfl ?_
                  exact V_end fun a ha => ⟨(), ha.sub ⟨rfl, rfl, rfl, rfl, rfl, rfl, rfl, rfl, rfl, rfl, rfl, (by rw [hc96]; rfl), trivial⟩, rfl⟩
              simp only [List.take, List.drop]
              rintro _ _ rfl
              refine V_to (fun _ _ => rfl) ?_
              obtain ⟨s102, ho101, ho86⟩ := Option.bind_eq_some_iff.1 ho86
              refine C_cutG (ι := (Value × (Nat → Prop))) (fun ⟨v104, A109⟩ => [(1, .int .i64 slots), (2, v_plan), (7, v104), (8, .int .i64 (k20 : Int)), (9, .pointer (some ⟨b54, 0, none⟩)), (13, v_forms), (14, .int .i64 (forms.length : Int)), (15, .int .i64 (k20 : Int)), (20, .int .i64 slots), (21, .int .i64 s73.2)]) (fun ⟨v104, A109⟩ => fun w' => Ow 3 w.heap.size A109 w' v104 s102 ∧ Tr w.heap.size A77 w74 A109 w') ?_ ?_
              · have hr103 : Tr w.heap.size A77 w74 A77 w74 := Tr.refl hA
                refine C_cond rfl (fun hc110 => ?_) (fun hc110 => ?_)
                · rw [if_pos hc110] at ho101
                  refine C_region_qt 10 Try_mixed (by kernel_rfl) ?_
                  simp only [List.take, List.drop]
                  refine VQ_y (fun w' hw' => Y_move rfl) rfl rfl rfl ?_
                  refine VQ_y (fun w' hw' => Y_move rfl) rfl rfl rfl ?_
                  obtain ⟨x111, hx111, ho101⟩ := Option.bind_eq_some_iff.1 ho101
                  refine VQ_indexAddrO h76 hx111 Try.underlying22 Try.sizeOf3 rfl rfl rfl ?_
                  intro b112 o113 h114 hl115
                  refine VQ_y (fun w' hw' => Y_load (El.int (El.kp h114 hw')) Try.isAgg3 rfl) rfl rfl rfl ?_
                  refine VQ_y (fun w' hw' => Y_move rfl) rfl rfl rfl ?_
                  refine VQ_y (fun w' hw' => Y_move rfl) rfl rfl rfl ?_
                  obtain ⟨x116, hx116, ho101⟩ := Option.bind_eq_some_iff.1 ho101
                  refine VQ_indexAddr h_plan hx116 Try.underlying22 Try.sizeOf3 rfl rfl rfl ?_
                  intro b117 o118 h119
                  refine VQ_y (fun w' hw' => Y_load (El.int (El.kp h119 hw')) Try.isAgg3 rfl) rfl rfl rfl ?_
                  refine VQ_y (fun w' hw' => Y_addI rfl rfl) rfl rfl rfl ?_
                  refine VQ_indexAddrO h76 hx111 Try.underlying22 Try.sizeOf3 rfl rfl rfl ?_
                  intro b120 o121 h122 hl123
                  refine VQ_tail (fun w124 hk125 => ?_)
                  try simp only [List.take, List.drop]
                  have mv126 := Mv.kp (B := w.heap.size) hk125 hA
                  replace h_plan := Sl.mv h_plan mv126
                  replace h_forms := Sl.mv h_forms mv126
                  replace h60 := El.mv h60 mv126
                  replace h76 := Ow.mv h76 mv126 Dj.no
                  replace h114 := El.kp h114 hk125
                  replace h119 := El.mv h119 mv126
                  replace h122 := El.kp h122 hk125
                  replace hK := Tr.step hK mv126 hB
                  replace hr19 := Tr.step hr19 mv126 hB
                  replace hr42 := Tr.step hr42 mv126 hB
                  replace hr65 := Tr.step hr65 mv126 hB
                  replace hr88 := Tr.step hr88 mv126 hB
                  replace hr103 := Tr.step hr103 mv126 hB
                  replace hB := Nat.le_trans hB mv126.size
                  replace hA := mv126.new
                  obtain ⟨x127, hx127, ho101⟩ := Option.bind_eq_some_iff.1 ho101
                  refine V_storeO h76 hl123 hx127 rfl Try.sizeOf3 rfl hA rfl rfl ?_
                  intro w128 h129 mv130
                  replace h_plan := Sl.mv h_plan mv130
                  replace h_forms := Sl.mv h_forms mv130
                  replace h60 := El.mv h60 mv130
                  replace h119 := El.mv h119 mv130
                  replace hK := Tr.step hK mv130 hB
                  replace hr19 := Tr.step hr19 mv130 hB
                  replace hr42 := Tr.step hr42 mv130 hB
                  replace hr65 := Tr.step hr65 mv130 hB
                  replace hr88 := Tr.step hr88 mv130 hB
                  replace hr103 := Tr.step hr103 mv130 hB
                  replace hB := Nat.le_trans hB mv130.size
                  replace hA := mv130.new
                  obtain rfl := Option.some.inj ho101
                  exact V_end fun a ha => ⟨(v75, A77), ha.sub ⟨rfl, rfl, rfl, rfl, rfl, rfl, rfl, rfl, rfl, rfl, trivial⟩, ⟨h129, hr103⟩⟩
                · rw [if_neg (nt hc110)] at ho101
                  obtain rfl := Option.some.inj ho101
                  exact C_skip fun a ha => ⟨(v75, A77), ha.sub ⟨rfl, rfl, rfl, rfl, rfl, rfl, rfl, rfl, rfl, rfl, trivial⟩, ⟨h76, hr103⟩⟩
              rintro ⟨v104, A109⟩ w106 ⟨h105, hk107⟩ a ha108
              replace h_plan := Sl.tr h_plan hk107
              replace h_forms := Sl.tr h_forms hk107
              replace h60 := El.tr h60 hk107
              replace hK := Tr.trans hK hk107
              replace hr19 := Tr.trans hr19 hk107
              replace hr42 := Tr.trans hr42 hk107
              replace hr65 := Tr.trans hr65 hk107
              replace hr88 := Tr.trans hr88 hk107
              replace hB := Nat.le_trans hB hk107.ex.size
              replace hA := hk107.new
              obtain rfl := Option.some.inj ho86
              exact ⟨(v104, A109), ha108.sub ⟨rfl, rfl, rfl, rfl, rfl, rfl, rfl, rfl, rfl, rfl, trivial⟩, ⟨h105, hr88⟩⟩
            rintro ⟨v89, A94⟩ w91 ⟨h90, hk92⟩ a ha93
            replace h_plan := Sl.tr h_plan hk92
            replace h_forms := Sl.tr h_forms hk92
            replace h60 := El.tr h60 hk92
            replace hK := Tr.trans hK hk92
            replace hr19 := Tr.trans hr19 hk92
            replace hr42 := Tr.trans hr42 hk92
            replace hr65 := Tr.trans hr65 hk92
            replace hB := Nat.le_trans hB hk92.ex.size
            replace hA := hk92.new
            refine C_at (fun _ _ => rfl) ?_ ha93
            refine C_region ?_
            refine V_y (Y_addI rfl rfl) rfl rfl rfl ?_
            refine V_y (Y_move rfl) rfl rfl rfl ?_
            obtain rfl := Option.some.inj h79
            exact V_end fun a ha => ⟨(s87, w64 (s73.2 + 1)), h80, ⟨(v89, A94), ha.sub ⟨rfl, rfl, rfl, rfl, rfl, rfl, rfl, rfl, rfl, rfl, trivial⟩, ⟨h90, hr65⟩⟩⟩
          · rw [if_neg (nt hc85)] at h79
            obtain rfl := Option.some.inj h79
            exact C_exit fun a ha => ⟨((s73.1, s73.2), v75, A77), ha.sub ⟨rfl, rfl, rfl, rfl, rfl, rfl, trivial⟩, ⟨h80.symm, h76, hr65⟩⟩
        rintro ⟨s63, v70, A72⟩ w67 ⟨rfl, h71, hk68⟩ a ha69
        rw [Lp.andThen_fin] at ho40
        replace h_plan := Sl.tr h_plan hk68
        replace h_forms := Sl.tr h_forms hk68
        replace hK := Tr.trans hK hk68
        replace hr19 := Tr.trans hr19 hk68
        replace hr42 := Tr.trans hr42 hk68
        replace hB := Nat.le_trans hB hk68.ex.size
        replace hA := hk68.new
        obtain rfl := Option.some.inj ho40
        exact ⟨(v70, A72), ha69.sub ⟨rfl, rfl, rfl, rfl, rfl, rfl, trivial⟩, ⟨h71, hr42⟩⟩
      rintro ⟨v43, A48⟩ w45 ⟨h44, hk46⟩ a ha47
      replace h_plan := Sl.tr h_plan hk46
      replace h_forms := Sl.tr h_forms hk46
      replace hK := Tr.trans hK hk46
      replace hr19 := Tr.trans hr19 hk46
      replace hB := Nat.le_trans hB hk46.ex.size
      replace hA := hk46.new
      refine C_at (fun _ _ => rfl) ?_ ha47
      refine C_region ?_
      refine V_y (Y_addI rfl rfl) rfl rfl rfl ?_
      refine V_y (Y_move rfl) rfl rfl rfl ?_
      obtain rfl := Option.some.inj h33
      exact V_end fun a ha => ⟨s41, hlt36, h34, ⟨(v43, A48), ha.sub ⟨rfl, rfl, rfl, rfl, rfl, (congrArg (fun z => some (Value.int .i64 z)) (w64_succ hlt36 (Sl.le h_forms))), trivial⟩, ⟨h44, hr19⟩⟩⟩
    · exact C_exit fun a ha => ⟨(s27, v29, A31), ha.sub ⟨rfl, trivial⟩, ⟨(h37 (eq_of_dec hle35 hc39)).symm, h30, hr19⟩⟩
  rintro ⟨s17, v24, A26⟩ w21 ⟨rfl, h25, hk22⟩ a ha23
  rw [Lp.andThen_fin] at hm
  replace hK := Tr.trans hK hk22
  replace hB := Nat.le_trans hB hk22.ex.size
  replace hA := hk22.new
  refine C_at (fun _ _ => rfl) ?_ ha23
  refine C_seq ?_
  refine C_region ?_
  refine V_y (Y_move rfl) rfl rfl rfl ?_
  refine V_y (Y_assign rfl) rfl rfl rfl ?_
  refine V_to (fun _ _ => rfl) ?_
  obtain rfl := Option.some.inj hm
  refine C_ret fun a ha => ?_
  try simp only [↓inBlock_ret, ↓then_ret]
  exact ret1 ha Try.results43 rfl ⟨v24, A26, rfl, h25, hK⟩

set_option maxRecDepth 4000 in
theorem portref2_covered_c (w : World) {A : Nat → Prop} (hA : ∀ b, w.heap.size ≤ b → A b) (forms : (List staff_Form)) (v_forms : Value) (h_forms : Sl A w v_forms forms) (demand : (List Int)) (v_demand : Value) (h_demand : Sl A w v_demand demand) (plan : (List Int)) (v_plan : Value) (h_plan : Sl A w v_plan plan) {r : Bool} (hm : portref2_covered forms demand plan = some r) : Ret Try.prog 52 #[v_forms, v_demand, v_plan] w fun v w' => v = .bool r ∧ Kp w w' := by
  unfold portref2_covered at hm
  refine enter Try.func52 rfl Try.ntmps52 rfl ?_
  have hA0 := hA
  have hB := Nat.le_refl w.heap.size
  have hK : Tr w.heap.size A w A w := Tr.refl hA
  refine C_seq ?_
  refine C_region ?_
  refine V_y (Y_assign rfl) rfl rfl rfl ?_
  refine V_to (fun _ _ => rfl) ?_
  refine C_seq ?_
  refine C_seq ?_
  refine C_region ?_
  refine V_y (Y_move rfl) rfl rfl rfl ?_
  refine V_y (Y_move rfl) rfl rfl rfl ?_
  refine V_y (Y_lenSl h_demand rfl Try.underlying22 rfl) rfl rfl rfl ?_
  refine V_y (Y_move rfl) rfl rfl rfl ?_
  obtain ⟨x11, hx11, hm⟩ := Option.bind_eq_some_iff.1 hm
  refine V_call Try.call43 rfl rfl rfl rfl (portref2_cover_c w hA forms v_forms h_forms (demand.length : Int) plan v_plan h_plan hx11) ?_
  rintro v12 w14 ⟨_, A16, rfl, h13, hk15⟩
  replace h13 := Ow.lower h13 hB
  replace hk15 := Tr.lower hk15 hB
  replace h_forms := Sl.tr h_forms hk15
  replace h_demand := Sl.tr h_demand hk15
  replace h_plan := Sl.tr h_plan hk15
  replace hK := Tr.trans hK hk15
  replace hB := Nat.le_trans hB hk15.ex.size
  replace hA := hk15.new
  refine V_y (Y_lenSl (Ow.any h13) rfl Try.underlying22 rfl) rfl rfl rfl ?_
  refine V_y (Y_move rfl) rfl rfl rfl ?_
  refine V_to (fun _ _ => rfl) ?_
  obtain ⟨o17, ho17, hm⟩ := Option.bind_eq_some_iff.1 hm
  refine C_cutG (ι := Unit) (fun (s18 : Unit) => []) (fun (s18 : Unit) => fun w' => o17 = .fin s18 ∧ w14 = w') ?_ ?_
  · refine C_block ?_
    refine C_range ho17 (fun k21 _ a w' => ∃ i : Unit, Has 27 a ([(1, v_demand), (13, v12), (14, .int .i64 (x11.length : Int)), (15, .int .i64 (k21 : Int))]) ∧ w14 = w') (fun a ha => ⟨(), ha.sub ⟨rfl, rfl, rfl, rfl, trivial⟩, rfl⟩) ?_
    rintro K k21 _ a _ ⟨_, ha45, rfl⟩ hle30 K33 h32
    refine C_of ?_ ha45
    refine C_seq (C_region (V_y (Y_lss rfl rfl) rfl rfl rfl (V_to (fun _ _ => rfl) ?_)))
    refine C_seq ?_
    refine C_cond rfl (fun hc34 => ?_) (fun hc34 => ?_)
    · have hlt31 := lt_of_dec hc34
      obtain ⟨x27, h28, h29⟩ := K33 hlt31
      refine C_skip_to (fun _ _ => rfl) ?_
      refine C_seq ?_
      refine C_block ?_
      refine C_seq ?_
      refine C_region ?_
      refine V_y (Y_move rfl) rfl rfl rfl ?_
      obtain ⟨x35, hx35, h28⟩ := Option.bind_eq_some_iff.1 h28
      refine V_indexAddrO h13 hx35 Try.underlying22 Try.sizeOf3 rfl rfl rfl ?_
      intro b36 o37 h38 hl39
      refine V_y (Y_load (El.int h38) Try.isAgg3 rfl) rfl rfl rfl ?_
      refine V_y (Y_assign rfl) rfl rfl rfl ?_
      refine V_y (Y_assign rfl) rfl rfl rfl ?_
      refine V_to (fun _ _ => rfl) ?_
      refine C_seq ?_
      refine C_region ?_
      refine V_y (Y_move rfl) rfl rfl rfl ?_
      refine V_y (Y_move rfl) rfl rfl rfl ?_
      refine V_y (Y_move rfl) rfl rfl rfl ?_
      obtain ⟨x40, hx40, h28⟩ := Option.bind_eq_some_iff.1 h28
      refine V_indexAddr h_demand hx40 Try.underlying22 Try.sizeOf3 rfl rfl rfl ?_
      intro b41 o42 h43
      refine V_y (Y_load (El.int h43) Try.isAgg3 rfl) rfl rfl rfl ?_
      refine V_y (Y_lss rfl rfl) rfl rfl rfl ?_
      refine V_to (fun _ _ => rfl) ?_
      refine C_cond rfl (fun hc44 => ?_) (fun hc44 => ?_)
      · rw [if_pos hc44] at h28
        refine C_seq ?_
        refine C_region ?_
        refine V_y (Y_assign rfl) rfl rfl rfl ?_
        refine V_to (fun _ _ => rfl) ?_
        obtain rfl := Option.some.inj h28
        obtain rfl := (h29 : Lp.rt _ = _)
        rw [Lp.andThen_rt] at hm
        obtain rfl := Option.some.inj hm
        refine C_ret fun a ha => ?_
        try simp only [↓inBlock_ret, ↓then_ret]
        exact ret1 ha Try.results52 rfl ⟨rfl, hK.below⟩
      · rw [if_neg (nt hc44)] at h28
        refine C_skip_to (fun _ _ => rfl) ?_
        refine C_region ?_
        refine V_y (Y_addI rfl rfl) rfl rfl rfl ?_
        refine V_y (Y_move rfl) rfl rfl rfl ?_
        obtain rfl := Option.some.inj h28
        exact V_end fun a ha => ⟨(), hlt31, h29, ⟨(), ha.sub ⟨rfl, rfl, rfl, (congrArg (fun z => some (Value.int .i64 z)) (w64_succ hlt31 (Ow.le h13))), trivial⟩, rfl⟩⟩
    · exact C_exit fun a ha => ⟨(), ha.sub trivial, ⟨(h32 (eq_of_dec hle30 hc34)).symm, rfl⟩⟩
  rintro s18 _ ⟨rfl, rfl⟩ a ha24
  rw [Lp.andThen_fin] at hm
  refine C_at (fun _ _ => rfl) ?_ ha24
  refine C_seq ?_
  refine C_region ?_
  refine V_y (Y_assign rfl) rfl rfl rfl ?_
  refine V_to (fun _ _ => rfl) ?_
  obtain rfl := Option.some.inj hm
  refine C_ret fun a ha => ?_
  try simp only [↓inBlock_ret, ↓then_ret]
  exact ret1 ha Try.results52 rfl ⟨rfl, hK.below⟩

end Go.Proofs.Ytlclnbcjebpfkaa.W
